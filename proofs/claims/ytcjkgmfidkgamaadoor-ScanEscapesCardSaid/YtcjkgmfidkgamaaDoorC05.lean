/-
  Texts of the proof, put together (what this law reaches): ScN, ScO, ScL, ScR, ScU, ScY, ScI.
-/
import Derived.Test.YtcjkgmfidkgamaaDoorC04
import Derived.Test.YtcjkgmfidkgamaaDoorC02
import Derived.Lib.Bytealg
import Derived.Deep.DeepCutAuto
import Derived.Deep.CutRange
import Derived.RangeFuncOwn
import Derived.RangeFuncWrites
import Derived.Test.YtcjkgmfidkgamaaDoorC03
set_option linter.unusedVariables false
set_option linter.unusedSimpArgs false
namespace Go.Pub
theorem sub_snocA (s : ByteArray) (a b : Nat) (hab : a ≤ b) (hb : b < s.size) : sub s a (b + 1) = sub s a b ++ [s.get! b] := by
  unfold sub
  have hg : ((bytesL s).drop a)[b - a]? = some (s.get! b) := by
    rw [List.getElem?_drop, show a + (b - a) = b by omega]
    unfold bytesL
    rw [show s.get! b = s.data[b]'hb from getElem!_pos s.data b hb, Array.getElem?_toList]
    exact Array.getElem?_eq_getElem hb
  rw [show b + 1 - a = (b - a) + 1 by omega, List.take_add_one, hg]; rfl
theorem numV_snoc (l : List UInt8) (b : UInt8) : numV (l ++ [b]) = 10 * numV l + (b.toNat - 48) := by
  unfold numV; rw [List.foldl_append]; rfl
theorem numV_step (s : ByteArray) (a b : Nat) (hab : a ≤ b) (hb : b < s.size) : numV (sub s a (b + 1)) = 10 * numV (sub s a b) + (bt s b - 48) := by
  rw [sub_snocA s a b hab hb, numV_snoc]; rfl
theorem digK_eq (s : ByteArray) (i k : Nat) (h2 : 2 ≤ k) (h9 : k ≤ 9) (hle : i + k ≤ s.size) (hd : ∀ j, i + 2 ≤ j → j < i + k → dgN (bt s j) = true) (he : i + k < s.size → k < 9 → dgN (bt s (i + k)) = false) : digK s i = k - 2 := by
  unfold digK
  have hall := runF_all s dgN s.size (i + 2) (by omega)
  by_cases h : k = 9
  · subst h
    have : 7 ≤ runF s (i + 2) dgN := by
      rcases Nat.lt_or_ge (runF s (i + 2) dgN) 7 with h | h
      · exfalso
        have h1 := hall.2 (by omega)
        have h2 := hd (i + 2 + runF s (i + 2) dgN) (by omega) (by omega)
        rw [h1] at h2; cases h2
      · exact h
    omega
  · rw [runF_eq s dgN (i + 2) (k - 2) (by omega) (fun j a b => hd j a (by omega)) (fun hh => by rw [show i + 2 + (k - 2) = i + k by omega] at hh ⊢; exact he hh (by omega))]
    omega
theorem argsF_stop (s : ByteArray) (f k : Nat) (h : ¬ (k < s.size ∧ bt s k = 124)) : argsF s f k = ([], k) := by
  cases f with
  | zero => rfl
  | succ f => unfold argsF; rw [if_neg h]
theorem args_step (s : ByteArray) (A : List ByteArray × Nat) (xs : List ByteArray) (k e : Nat) (hx : xs.length < 8) (hk : k < s.size) (hb : bt s k = 124) (he : argE s k = e)
    (hA : A = (xs ++ (argsF s (8 - xs.length) k).1, (argsF s (8 - xs.length) k).2)) :
    A = ((xs ++ [s.extract (k + 1) e]) ++ (argsF s (8 - (xs ++ [s.extract (k + 1) e]).length) e).1, (argsF s (8 - (xs ++ [s.extract (k + 1) e]).length) e).2) := by
  rw [hA, show 8 - xs.length = (7 - xs.length) + 1 by omega, show 8 - (xs ++ [s.extract (k + 1) e]).length = 7 - xs.length by rw [List.length_append, List.length_singleton]; omega]
  conv => lhs; unfold argsF
  rw [if_pos ⟨hk, hb⟩, he]
  simp
theorem args_stop (s : ByteArray) (A : List ByteArray × Nat) (xs : List ByteArray) (f k : Nat) (h : ¬ (k < s.size ∧ bt s k = 124)) (hA : A = (xs ++ (argsF s f k).1, (argsF s f k).2)) : A = (xs, k) := by
  rw [hA, argsF_stop s f k h]; simp
theorem args_full (s : ByteArray) (A : List ByteArray × Nat) (xs : List ByteArray) (k : Nat) (h : xs.length = 8) (hA : A = (xs ++ (argsF s (8 - xs.length) k).1, (argsF s (8 - xs.length) k).2)) : A = (xs, k) := by
  rw [hA, h]; simp [argsF]
theorem argE_eq (s : ByteArray) (k e : Nat) (hke : k + 1 ≤ e) (he : e ≤ s.size) (h1 : ∀ j, k + 1 ≤ j → j < e → bt s j ≠ 124 ∧ bt s j ≠ 123 ∧ bt s j ≠ 125 ∧ bt s j ≠ 10) (h2 : e < s.size → bt s e = 124 ∨ bt s e = 123 ∨ bt s e = 125 ∨ bt s e = 10) : argE s k = e := by
  unfold argE
  apply toE_eq s (k + 1) _ e hke he
  · intro j a b
    obtain ⟨x1, x2, x3, x4⟩ := h1 j a b
    simp [x1, x2, x3, x4]
  · intro h
    rcases h2 h with x | x | x | x <;> simp [x]
end Go.Pub
namespace Go.Pub
theorem byte_cnt (c : UInt8) : ∀ l : List UInt8, Lib.indexByte l c = if cntW (fun b => !(b == c.toNat)) l < l.length then (cntW (fun b => !(b == c.toNat)) l : Int) else -1
  | [] => rfl
  | b :: l => by
    have hl := cntW_le (fun b => !(b == c.toNat)) l
    unfold Lib.indexByte cntW
    rw [byte_cnt c l]
    by_cases hc : b = c
    · subst hc; simp
    · have h2 : (b.toNat == c.toNat) = false := beq_eq_false_iff_ne.2 fun e => hc (UInt8.toNat_inj.1 e)
      have h3 : (b == c) = false := beq_eq_false_iff_ne.2 hc
      rw [h2, h3]
      simp only [Bool.not_false, if_true, Bool.false_eq_true, if_false, List.length_cons]
      by_cases h : cntW (fun b => !(b == c.toNat)) l < l.length
      · rw [if_pos h, if_neg (by simp), if_pos (by omega)]; omega
      · rw [if_neg h, if_neg (show ¬ (cntW (fun b => !(b == c.toNat)) l + 1 < l.length + 1) by omega)]; rfl
theorem suffix_bytes (s : ByteArray) (i : Nat) : bytesL (s.extract i s.size) = sfx s i := by
  rw [bytesL_sub]; unfold sub sfx; exact List.take_of_length_le (by rw [List.length_drop, bytesL_length]; omega)
/-- The first byte of a kind, from a suffix. -/
theorem toE_byte (s : ByteArray) (i : Nat) (c : UInt8) (hi : i ≤ s.size) :
    Lib.indexByte (bytesL (s.extract i s.size)) c = if toE s i (fun b => b == c.toNat) < s.size then ((toE s i (fun b => b == c.toNat) - i : Nat) : Int) else -1 := by
  rw [byte_cnt, suffix_bytes, sfx_len]
  have := runF_le s i fun b => !(b == c.toNat)
  have hT : toE s i (fun b => b == c.toNat) = i + cntW (fun b => !(b == c.toNat)) (sfx s i) := rfl
  rw [hT]
  have this' : cntW (fun b => !(b == c.toNat)) (sfx s i) ≤ s.size - i := this
  generalize cntW (fun b => !(b == c.toNat)) (sfx s i) = n at *
  by_cases h : i + n < s.size
  · rw [if_pos h, if_pos (by omega)]; congr 1; omega
  · rw [if_neg h, if_neg (by omega)]
theorem begB_bytes (s : ByteArray) (i : Nat) (t : List UInt8) : begB s i t = t.isPrefixOf (bytesL (s.extract i s.size)) := by rw [suffix_bytes]; rfl
theorem occ_lf (c : UInt8) (l : List UInt8) : Lib.occAt (c :: l) [10] 0 = true ↔ c = 10 := by
  show ((10 : UInt8) == c && true) = true ↔ c = 10
  simp only [Bool.and_true, beq_iff_eq]
  exact ⟨Eq.symm, Eq.symm⟩
theorem unLF_cons (c : UInt8) (l : List UInt8) : unLF (c :: l) = (if c = 10 then 32 else c) :: unLF l := rfl
theorem lf_none : ∀ l : List UInt8, (∀ j, j ≤ l.length → Lib.occAt l [10] j = false) → unLF l = l
  | [], _ => rfl
  | c :: l, h => by
    rw [unLF_cons, if_neg (fun e => by have := h 0 (by simp); rw [(occ_lf c l).2 e] at this; exact absurd this (by simp)), lf_none l (fun j hj => by rw [← occ_succ c]; exact h (j + 1) (by simp; omega))]
theorem lf_first : ∀ (i : Nat) (l : List UInt8), Lib.occAt l [10] i = true → Lib.NoOcc l [10] i → unLF l = l.take i ++ [32] ++ unLF (l.drop (i + 1))
  | 0, l, h, _ => by
    match l with
    | [] => simp [Lib.occAt] at h
    | c :: l =>
      rw [occ_lf] at h
      rw [unLF_cons, if_pos h]; rfl
  | i + 1, l, h, hn => by
    match l with
    | [] => simp [Lib.occAt] at h
    | c :: l =>
      rw [occ_succ] at h
      have h0 := hn 0 (by omega)
      rw [unLF_cons, if_neg (fun e => by rw [(occ_lf c l).2 e] at h0; exact absurd h0 (by simp)), lf_first i l h (fun j hj => by rw [← occ_succ c]; exact hn (j + 1) (by omega))]
      rfl
theorem repl_lf : ∀ (n : Nat) (l : List UInt8), l.length ≤ n → Lib.replaceK [10] [32] (Lib.count l [10]) l = unLF l
  | n, l, hl => by
    rcases Lib.index_spec l [10] with ⟨h1, h2⟩ | ⟨i, h1, h2, h3, h4⟩
    · rw [Lib.count_miss h1, lf_none l h2]; rfl
    · have hr := Lib.index_room l [10] (by rw [h1]; omega)
      rw [h1] at hr
      have hr2 : i + 1 ≤ l.length := by simp at hr; omega
      rw [Lib.count_hit (by decide) h1, Nat.add_comm, Lib.replaceK_hit _ _ _ _ i h1, lf_first i l h3 h4]
      match n with
      | 0 => omega
      | n + 1 => rw [repl_lf n (l.drop (i + ([10] : List UInt8).length)) (by rw [List.length_drop]; simp; omega)]; rfl
theorem countLF_le (l : List UInt8) : Lib.count l [10] ≤ l.length := by
  have h := Lib.countB_mul_le (mk [10]) (by decide) (mk l).size (mk l) (Nat.le_refl _)
  unfold Lib.countB at h
  have e1 : (mk l).data.toList = l := bytesL_mk' l
  have e2 : (mk [10]).data.toList = [10] := bytesL_mk' _
  rw [e1, e2, mk_size, mk_size] at h
  rw [show ([10] : List UInt8).length = 1 from rfl] at h
  omega
theorem replAll_lf (l : List UInt8) : Lib.replaceAll l [10] [32] = unLF l := by
  unfold Lib.replaceAll Lib.replace Lib.replaceNum
  rw [if_neg (by decide), if_pos (by omega)]
  exact repl_lf _ _ (Nat.le_refl _)
theorem pre_sp (l : List UInt8) : Lib.hasPrefix l [32] = true ↔ l.head? = some 32 := by
  cases l with
  | nil => simp [Lib.hasPrefix]
  | cons a l => simp [Lib.hasPrefix, List.isPrefixOf]; exact ⟨Eq.symm, Eq.symm⟩
theorem suf_sp (l : List UInt8) : Lib.hasSuffix l [32] = true ↔ l.getLast? = some 32 := by
  unfold Lib.hasSuffix List.isSuffixOf
  rw [← List.head?_reverse]
  exact pre_sp l.reverse
theorem dropW_nil (l : List UInt8) : l.dropWhile (· == 32) = [] ↔ l.any (· != 32) = false := by
  induction l with
  | nil => simp
  | cons a l ih =>
    by_cases h : a = 32
    · subst h; simpa using ih
    · simp [h]
theorem trim_nil (l : List UInt8) : Lib.trimB l 32 = [] ↔ l.any (· != 32) = false := by
  unfold Lib.trimB Lib.trimLeftB Lib.trimRightB
  rw [dropW_nil]
  constructor
  · intro h
    cases h1 : l.any (· != 32) with
    | false => rfl
    | true =>
      exfalso
      have h2 : l.reverse.any (· != 32) = true := by rw [List.any_reverse]; exact h1
      have h3 : l.reverse.dropWhile (· == 32) ≠ [] := fun e => by rw [(dropW_nil _).1 e] at h2; cases h2
      have h4 : (l.reverse.dropWhile (· == 32)).any (· != 32) = false := by rw [← List.any_reverse]; exact h
      have ha := List.head_dropWhile_not (fun x : UInt8 => x == 32) (l := l.reverse) h3
      have hm := List.any_eq_false.1 h4 _ (List.head_mem h3)
      simp only [beq_eq_false_iff_ne, ne_eq] at ha
      exact hm (bne_iff_ne.2 ha)
  · intro h
    rw [List.any_reverse, (dropW_nil l.reverse).2 (by rw [List.any_reverse]; exact h)]; rfl
/-- The code text, by its bytes. -/
theorem codeT_eq (l : List UInt8) : codeT l = if (unLF l).head? = some 32 ∧ (unLF l).getLast? = some 32 ∧ (unLF l).any (· != 32) = true then ((unLF l).drop 1).dropLast else unLF l := by
  unfold codeT
  by_cases h : (unLF l).any (· != 32) = true ∧ (unLF l).head? = some 32 ∧ (unLF l).getLast? = some 32
  · rw [if_pos h, if_pos ⟨h.2.1, h.2.2, h.1⟩]
  · rw [if_neg h, if_neg fun c => h ⟨c.2.2, c.1, c.2.1⟩]
end Go.Pub
namespace Go.Proofs.YtcjkgmfidkgamaaDoor
open Go.RowKit Go.Pub
set_option maxRecDepth 100000 in
set_option maxHeartbeats 2000000 in
theorem s_back (s : ByteArray) (i : Nat) (w : World) (hs : s.size ≤ 1000000) (hi : i < s.size) : Calls Tryd.prog 33 #[.string s, .int .i64 i] w (InPost (escI s i) w) := by
  have HS := Lib.hid fun W => s_skip s (i + 2) W hs
  have HP := Lib.hid fun W => punct_any (bt s (i + 1)) W
  obtain ⟨R, hR⟩ : ∃ R, R = escI s i := ⟨_, rfl⟩
  rw [← hR]
  unfold escI at hR
  have HR := Lib.hid hR
  clear hR
  by_cases h1 : i + 1 < s.size
  · have hg := get_bt s (i + 1) h1
    generalize spAt s (i + 2) = E at *
    have hx : ∃ X, X = s.extract (i + 1) (i + 2) := ⟨_, rfl⟩
    rw [if_pos h1] at HR
    generalize inB (bt s (i + 1) : Int) punctL = q at *
    generalize bt s (i + 1) = b at *
    by_cases h10 : b = 10
    · have z : ((b : Int) == 10) = true := by rw [h10]; rfl
      have HQ : Hid (R = some ({ kind := 3 }, E)) := Lib.hid (by rw [HR.out, if_pos h10])
      clear HR h10
      go_enter Tryd.func33, Tryd.ntmps33
      go_wp2_with fail
      (refine (HS.out _).mono ?_)
      rintro e w1 ⟨rfl, rfl⟩
      go_wp2_with fail
      exact in_ret Tryd.results33 (Blk.new w _ _) rfl rfl rfl (in_some HQ.out rfl rfl ((Below.refl _ w).alloc (Nat.le_refl _) _) rfl rfl)
    · have z : ((b : Int) == 10) = false := beq_eq_false_iff_ne.2 (by omega)
      rw [if_neg h10] at HR
      clear h10
      by_cases h128 : b < 128
      · have d : decide ((b : Int) < 128) = true := decide_eq_true (by omega)
        cases q
        · have HQ : Hid (R = none) := Lib.hid (by rw [HR.out, if_neg (by simp)])
          clear HR
          go_enter Tryd.func33, Tryd.ntmps33
          go_wp2_with fail
          (refine (HP.out _).mono ?_)
          rintro e w1 ⟨rfl, rfl⟩
          go_wp2_with fail
          exact in_ret Tryd.results33 (Blk.new w _ _) rfl rfl rfl (in_none HQ.out ((Below.refl _ w).alloc (Nat.le_refl _) _))
        · have HQ : Hid (R = some (spn 1 (s.extract (i + 1) (i + 2)), i + 2)) := Lib.hid (by rw [HR.out, if_pos (by simp [h128])])
          clear HR
          go_enter Tryd.func33, Tryd.ntmps33
          go_wp2_with fail
          (refine (HP.out _).mono ?_)
          rintro e w1 ⟨rfl, rfl⟩
          go_wp2_with fail
          exact in_ret Tryd.results33 (Blk.new w _ _) rfl rfl rfl (in_some HQ.out rfl rfl ((Below.refl _ w).alloc (Nat.le_refl _) _) rfl (by omega))
      · have d : decide ((b : Int) < 128) = false := decide_eq_false (by omega)
        have HQ : Hid (R = none) := Lib.hid (by rw [HR.out, if_neg (by simp [h128])])
        clear HR
        go_enter Tryd.func33, Tryd.ntmps33
        go_wp2_with fail
        exact in_ret Tryd.results33 (Blk.new w _ _) rfl rfl rfl (in_none HQ.out ((Below.refl _ w).alloc (Nat.le_refl _) _))
  · have HQ : Hid (R = none) := Lib.hid (by rw [HR.out, if_neg h1])
    clear HR
    go_enter Tryd.func33, Tryd.ntmps33
    go_wp2_with fail
    exact in_ret Tryd.results33 (Blk.new w _ _) rfl rfl rfl (in_none HQ.out ((Below.refl _ w).alloc (Nat.le_refl _) _))

end Go.Proofs.YtcjkgmfidkgamaaDoor
namespace Go.Pub
theorem begB_len {s : ByteArray} {i : Nat} {t : List UInt8} (h : begB s i t = true) (ht : t ≠ []) : i + t.length ≤ s.size := by
  unfold begB at h
  have h2 := (List.isPrefixOf_iff_prefix.1 h).length_le
  rw [sfx_len] at h2
  have : 0 < t.length := List.length_pos_iff.2 ht
  omega
theorem begB_at {s : ByteArray} {i : Nat} {b : UInt8} {t : List UInt8} (h : begB s i (b :: t) = true) : bt s i = b.toNat := by
  unfold begB at h
  obtain ⟨r, hr⟩ := List.isPrefixOf_iff_prefix.1 h
  exact (sfx_head hr.symm).2.1
theorem namI_eq (s : ByteArray) (i : Nat) : namI s i = if i + 1 < s.size ∧ (bt s (i + 1) = 94 ∨ bt s (i + 1) = 35) then
    (if nameB (s.extract (i + 2) (wordAt s (i + 2))) = true then
      if begB s (wordAt s (i + 2)) [93] = true then some (spn (if bt s (i + 1) = 94 then 12 else 14) (s.extract (i + 2) (wordAt s (i + 2))), wordAt s (i + 2) + 1)
      else if bt s (i + 1) = 35 ∧ begB s (wordAt s (i + 2)) [32, 112, 97, 103, 101, 93] = true then some ({ kind := 14, text := s.extract (i + 2) (wordAt s (i + 2)), title := ⟨#[112, 97, 103, 101]⟩ }, wordAt s (i + 2) + 6)
      else none
    else none)
  else none := by
  unfold namI nmEnd
  by_cases h : nameB (s.extract (i + 2) (wordAt s (i + 2))) = true
  · rw [if_pos h, if_pos h]; rfl
  · rw [if_neg h, if_neg h]; rfl
theorem useI_eq (s : ByteArray) (i : Nat) : useI s i = if begB s i [123, 123] = true then
    (if nameB (s.extract (i + 2) (wordAt s (i + 2))) = true then
      if begB s (argsF s 8 (wordAt s (i + 2))).2 [125, 125] = true then some ({ kind := 15, text := s.extract (i + 2) (wordAt s (i + 2)), args := (argsF s 8 (wordAt s (i + 2))).1 }, (argsF s 8 (wordAt s (i + 2))).2 + 2) else none
    else none)
  else none := by
  unfold useI nmEnd
  by_cases h : nameB (s.extract (i + 2) (wordAt s (i + 2))) = true
  · rw [if_pos h, if_pos h]; rfl
  · rw [if_neg h, if_neg h]; rfl
end Go.Pub
namespace Go.Proofs.YtcjkgmfidkgamaaDoor
open Go.RowKit Go.Pub
theorem pre_any (s : ByteArray) (k : Nat) (p : ByteArray) (W : World) : Calls Tryd.prog 63 #[.string (s.extract k s.size), .string p] W fun e w' => e = .returned (.bool (begB s k (bytesL p))) ∧ W = w' := by
  refine (Tryd.strings_HasPrefix (s.extract k s.size) p W).mono ?_
  rintro e w' ⟨rfl, rfl⟩
  exact ⟨ret_bool (by rw [begB_bytes]; rfl), rfl⟩
set_option maxRecDepth 100000 in
set_option maxHeartbeats 4000000 in
theorem s_named (s : ByteArray) (i : Nat) (w : World) (hs : s.size ≤ 1000000) (hi : i < s.size) : Calls Tryd.prog 42 #[.string s, .int .i64 i] w (InPost (namI s i) w) := by
  have HN := Lib.hid fun W => s_nameEnd s (i + 2) W hs
  have HA := Lib.hid fun W => name_any (s.extract (i + 2) (wordAt s (i + 2))) W (by rw [ByteArray.size_extract]; omega)
  have HP1 := Lib.hid fun W => pre_any s (wordAt s (i + 2)) ⟨#[93]⟩ W
  have HP2 := Lib.hid fun W => pre_any s (wordAt s (i + 2)) ⟨#[32, 112, 97, 103, 101, 93]⟩ W
  rw [show bytesL (⟨#[93]⟩ : ByteArray) = [93] from rfl] at HP1
  rw [show bytesL (⟨#[32, 112, 97, 103, 101, 93]⟩ : ByteArray) = [32, 112, 97, 103, 101, 93] from rfl] at HP2
  obtain ⟨R, hR⟩ : ∃ R, R = namI s i := ⟨_, rfl⟩
  rw [← hR]
  rw [namI_eq] at hR
  by_cases h1 : i + 1 < s.size
  · have hg := get_bt s (i + 1) h1
    have hk1 := (wordAt_bd s (i + 2)).1
    have hk2 := (wordAt_bd s (i + 2)).2 (by omega)
    generalize wordAt s (i + 2) = K at *
    generalize begB s K [93] = q1 at *
    generalize begB s K [32, 112, 97, 103, 101, 93] = q2 at *
    have HY : Hid (∃ Y, Y = s.extract (i + 2) K) := Lib.hid ⟨_, rfl⟩
    generalize bt s (i + 1) = b at *
    generalize hnm : nameB (s.extract (i + 2) K) = nm at *
    by_cases hb : b = 94 ∨ b = 35
    · rw [if_pos ⟨h1, hb⟩] at hR
      cases nm
      · have HF : Hid (R = none) := Lib.hid (by rw [hR, if_neg (by simp)])
        clear hR hnm
        rcases hb with rfl | rfl
        all_goals
          go_enter Tryd.func42, Tryd.ntmps42
          go_wp2_with fail
          (refine (HN.out _).mono ?_)
          rintro e w1 ⟨rfl, rfl⟩
          go_wp2_with fail
          ((with_reducible refine (HA.out _).mono ?_))
          rintro e w1 ⟨rfl, rfl⟩
          go_wp2_with fail
          exact in_ret Tryd.results42 (Blk.new w _ _) rfl rfl rfl (in_none HF.out ((Below.refl _ w).alloc (Nat.le_refl _) _))
      · clear hnm
        rw [if_pos rfl] at hR
        cases q1
        · rw [if_neg (by simp)] at hR
          rcases hb with rfl | rfl
          · have HF : Hid (R = none) := Lib.hid (by rw [hR]; rfl)
            clear hR
            go_enter Tryd.func42, Tryd.ntmps42
            go_wp2_with fail
            (refine (HN.out _).mono ?_)
            rintro e w1 ⟨rfl, rfl⟩
            go_wp2_with fail
            ((with_reducible refine (HA.out _).mono ?_))
            rintro e w1 ⟨rfl, rfl⟩
            go_wp2_with fail
            ((with_reducible refine (HP1.out _).mono ?_))
            rintro e w1 ⟨rfl, rfl⟩
            go_wp2_with fail
            exact in_ret Tryd.results42 (Blk.new w _ _) rfl rfl rfl (in_none HF.out ((Below.refl _ w).alloc (Nat.le_refl _) _))
          · cases q2
            · have HF : Hid (R = none) := Lib.hid (by rw [hR]; rfl)
              clear hR
              go_enter Tryd.func42, Tryd.ntmps42
              go_wp2_with fail
              (refine (HN.out _).mono ?_)
              rintro e w1 ⟨rfl, rfl⟩
              go_wp2_with fail
              ((with_reducible refine (HA.out _).mono ?_))
              rintro e w1 ⟨rfl, rfl⟩
              go_wp2_with fail
              ((with_reducible refine (HP1.out _).mono ?_))
              rintro e w1 ⟨rfl, rfl⟩
              go_wp2_with fail
              ((with_reducible refine (HP2.out _).mono ?_))
              rintro e w1 ⟨rfl, rfl⟩
              go_wp2_with fail
              exact in_ret Tryd.results42 (Blk.new w _ _) rfl rfl rfl (in_none HF.out ((Below.refl _ w).alloc (Nat.le_refl _) _))
            · have HF : Hid (R = some ({ kind := 14, text := s.extract (i + 2) K, title := ⟨#[112, 97, 103, 101]⟩ }, K + 6)) := Lib.hid (by rw [hR]; rfl)
              clear hR
              go_enter Tryd.func42, Tryd.ntmps42
              go_wp2_with fail
              (refine (HN.out _).mono ?_)
              rintro e w1 ⟨rfl, rfl⟩
              go_wp2_with fail
              ((with_reducible refine (HA.out _).mono ?_))
              rintro e w1 ⟨rfl, rfl⟩
              go_wp2_with fail
              ((with_reducible refine (HP1.out _).mono ?_))
              rintro e w1 ⟨rfl, rfl⟩
              go_wp2_with fail
              ((with_reducible refine (HP2.out _).mono ?_))
              rintro e w1 ⟨rfl, rfl⟩
              go_wp2_with fail
              exact in_ret Tryd.results42 (Blk.new w _ _) rfl rfl rfl (in_some HF.out rfl rfl ((Below.refl _ w).alloc (Nat.le_refl _) _) rfl (by omega))
        · rw [if_pos rfl] at hR
          rcases hb with rfl | rfl
          · have HF : Hid (R = some (spn 12 (s.extract (i + 2) K), K + 1)) := Lib.hid (by rw [hR]; rfl)
            clear hR
            go_enter Tryd.func42, Tryd.ntmps42
            go_wp2_with fail
            (refine (HN.out _).mono ?_)
            rintro e w1 ⟨rfl, rfl⟩
            go_wp2_with fail
            ((with_reducible refine (HA.out _).mono ?_))
            rintro e w1 ⟨rfl, rfl⟩
            go_wp2_with fail
            ((with_reducible refine (HP1.out _).mono ?_))
            rintro e w1 ⟨rfl, rfl⟩
            go_wp2_with fail
            exact in_ret Tryd.results42 (Blk.new w _ _) rfl rfl rfl (in_some HF.out rfl rfl ((Below.refl _ w).alloc (Nat.le_refl _) _) rfl (by omega))
          · have HF : Hid (R = some (spn 14 (s.extract (i + 2) K), K + 1)) := Lib.hid (by rw [hR]; rfl)
            clear hR
            go_enter Tryd.func42, Tryd.ntmps42
            go_wp2_with fail
            (refine (HN.out _).mono ?_)
            rintro e w1 ⟨rfl, rfl⟩
            go_wp2_with fail
            ((with_reducible refine (HA.out _).mono ?_))
            rintro e w1 ⟨rfl, rfl⟩
            go_wp2_with fail
            ((with_reducible refine (HP1.out _).mono ?_))
            rintro e w1 ⟨rfl, rfl⟩
            go_wp2_with fail
            exact in_ret Tryd.results42 (Blk.new w _ _) rfl rfl rfl (in_some HF.out rfl rfl ((Below.refl _ w).alloc (Nat.le_refl _) _) rfl (by omega))
    · rw [if_neg fun c => hb c.2] at hR
      have HF := Lib.hid hR
      have n1 : ((b : Int) != 94) = true := bne_iff_ne.2 (by omega)
      have n2 : ((b : Int) != 35) = true := bne_iff_ne.2 (by omega)
      clear hR hb hnm
      go_enter Tryd.func42, Tryd.ntmps42
      go_wp2_with fail
      exact in_ret Tryd.results42 (Blk.new w _ _) rfl rfl rfl (in_none HF.out ((Below.refl _ w).alloc (Nat.le_refl _) _))
  · rw [if_neg fun c => h1 c.1] at hR
    have HF := Lib.hid hR
    clear hR HN HA HP1 HP2
    go_enter Tryd.func42, Tryd.ntmps42
    go_wp2_with fail
    exact in_ret Tryd.results42 (Blk.new w _ _) rfl rfl rfl (in_none HF.out ((Below.refl _ w).alloc (Nat.le_refl _) _))

end Go.Proofs.YtcjkgmfidkgamaaDoor
namespace Go.Pub
theorem citedI_eq (p : ByteArray) (a f : Nat) (b : Bool) (ha : citA p = a) (hb : b = (decide (0 < a) && bt p (a - 1) == 45)) (hf : f = if b = true then a - 1 else a) : citedI p =
    if a < p.size ∧ toE p (a + 1) (fun b => b == 64) ≥ p.size ∧ (f = 0 ∨ bt p (f - 1) = 32) then
      (if nameB (p.extract (a + 1) (wordAt p (a + 1))) = true then some ⟨p.extract (a + 1) (wordAt p (a + 1)), mk (trimL (sub p 0 f)), mk (trimL (sfx p (wordAt p (a + 1)))), b⟩ else none)
    else none := by
  subst hf hb ha
  unfold citedI nmEnd
  dsimp only
  by_cases h : nameB (p.extract (citA p + 1) (wordAt p (citA p + 1))) = true
  · rw [if_pos h, if_pos h]; rfl
  · rw [if_neg h, if_neg h]; rfl
end Go.Pub
namespace Go.Proofs.YtcjkgmfidkgamaaDoor
open Go.RowKit Go.Pub
def zCit : Array Value := #[.string ⟨#[]⟩, .string ⟨#[]⟩, .string ⟨#[]⟩, .bool false]
def citV (r : Option CitL) : Value := match r with
  | none => .agg zCit
  | some c => .agg #[.string c.key, .string c.pre, .string c.suf, .bool c.bare]
def CitPost (r : Option CitL) (w : World) (e : Ending) (w' : World) : Prop := e = .returned (.tuple #[citV r, .bool r.isSome]) ∧ Below w.heap.size w w'
theorem cit_facts {W : World} {g : Nat} {T : TypeId} {x0 x1 x2 x3 : Value} (h : Blk W g T #[x0, x1, x2, x3]) : W.cell? ⟨g, 0, none⟩ = some x0 ∧ W.cell? ⟨g, 1, none⟩ = some x1 ∧ W.cell? ⟨g, 2, none⟩ = some x2 ∧ W.cell? ⟨g, 3, none⟩ = some x3 ∧ W.frozen? ⟨g, 0, none⟩ = false ∧ W.frozen? ⟨g, 1, none⟩ = false ∧ W.frozen? ⟨g, 2, none⟩ = false ∧ W.frozen? ⟨g, 3, none⟩ = false :=
  ⟨h.cell 0, h.cell 1, h.cell 2, h.cell 3, h.frozen 0, h.frozen 1, h.frozen 2, h.frozen 3⟩
theorem blk4 {W : World} {g : Nat} {T : TypeId} {x0 x1 x2 x3 : Value} (h : Blk W g T #[x0, x1, x2, x3]) (y0 y1 y2 y3 : Value) : Blk ((((W.setCell ⟨g, 0, none⟩ y0).setCell ⟨g, 1, none⟩ y1).setCell ⟨g, 2, none⟩ y2).setCell ⟨g, 3, none⟩ y3) g T #[y0, y1, y2, y3] := by
  have h0 := h.set_ 0 y0
  rw [show (#[x0, x1, x2, x3] : Array Value).setIfInBounds 0 y0 = #[y0, x1, x2, x3] from rfl] at h0
  have h1 := h0.set_ 1 y1
  rw [show (#[y0, x1, x2, x3] : Array Value).setIfInBounds 1 y1 = #[y0, y1, x2, x3] from rfl] at h1
  have h2 := h1.set_ 2 y2
  rw [show (#[y0, y1, x2, x3] : Array Value).setIfInBounds 2 y2 = #[y0, y1, y2, x3] from rfl] at h2
  have h3 := h2.set_ 3 y3
  rw [show (#[y0, y1, y2, x3] : Array Value).setIfInBounds 3 y3 = #[y0, y1, y2, y3] from rfl] at h3
  exact h3
theorem below4 {B : Nat} {w W : World} (h : Below B w W) {g : Nat} (hg : B ≤ g) (y0 y1 y2 y3 : Value) : Below B w ((((W.setCell ⟨g, 0, none⟩ y0).setCell ⟨g, 1, none⟩ y1).setCell ⟨g, 2, none⟩ y2).setCell ⟨g, 3, none⟩ y3) :=
  (((h.setCell (p := ⟨g, 0, none⟩) hg y0).setCell (p := ⟨g, 1, none⟩) hg y1).setCell (p := ⟨g, 2, none⟩) hg y2).setCell (p := ⟨g, 3, none⟩) hg y3
theorem cit_ret {F : Func} {a b : Nat} {W : World} {g : Nat} {x0 x1 x2 x3 : Value} {u : Value} {P : Ending → World → Prop} {act : Act} (hF : F.results = #[ResultVar.cell a 43, ResultVar.tmp b]) (hr : Blk W g 43 #[x0, x1, x2, x3]) (h4 : act.tmps.getD a undef = .pointer (some ⟨g, 0, none⟩)) (h5 : act.tmps.getD b undef = u) (hd : act.defers = []) (hP : P (.returned (.tuple #[.agg #[x0, x1, x2, x3], u])) W) : bodyPost Tryd.prog F P Exit.ret act W := by
  obtain ⟨c0, c1, c2, c3, _⟩ := cit_facts hr
  refine bodyPost_ret (v := .tuple #[.agg #[x0, x1, x2, x3], u]) ?_ hd hP
  rw [Array.getD_eq_getD_getElem?] at h4 h5
  simp [results, hF, go_sem, h4, h5, c0, c1, c2, c3]
theorem byte_any (s : ByteArray) (i : Nat) (W : World) (hi : i ≤ s.size) : Calls Tryd.prog 27 #[.string (s.extract i s.size), .int .u8 64] W fun e w' => e = .returned (.int .i64 (if toE s i (fun b => b == 64) < s.size then ((toE s i (fun b => b == 64) - i : Nat) : Int) else -1)) ∧ W = w' := by
  refine (Tryd.strings_IndexByte (s.extract i s.size) 64 W).mono ?_
  rintro e w' ⟨rfl, rfl⟩
  refine ⟨ret_int ?_, rfl⟩
  exact toE_byte s i 64 hi
theorem trim_any (s : ByteArray) (W : World) (hs : s.size ≤ 1000000) : Calls Tryd.prog 29 #[.string s, .string ⟨#[32]⟩] W fun e w' => e = .returned (.string (mk (trimL (bytesL s)))) ∧ Below W.heap.size W w' := by
  refine (Tryd.strings_Trim_one s 32 (by decide) W (by omega)).mono ?_
  rintro e w' ⟨rfl, rfl | h⟩
  · exact ⟨rfl, Below.refl _ _⟩
  · exact ⟨rfl, by rw [h]; exact (Below.refl _ _).drew⟩
set_option maxRecDepth 100000 in
set_option maxHeartbeats 8000000 in
theorem s_cited (p : ByteArray) (w : World) (hs : p.size ≤ 1000000) : Calls Tryd.prog 21 #[.string p] w (CitPost (citedI p) w) := by
  obtain ⟨a, ha⟩ : ∃ a, a = citA p := ⟨_, rfl⟩
  have haE : toE p 0 (fun b => b == 64) = a := ha.symm
  have hale : a ≤ p.size := by rw [← haE]; exact toE_le p 0 _ (by omega)
  have HI := Lib.hid fun W => byte_any p 0 W (by omega)
  rw [haE, show p.extract 0 p.size = p from ByteArray.extract_zero_size] at HI
  obtain ⟨b, hb⟩ : ∃ b, b = (decide (0 < a) && bt p (a - 1) == 45) := ⟨_, rfl⟩
  obtain ⟨f, hf⟩ : ∃ f, f = if b = true then a - 1 else a := ⟨_, rfl⟩
  have HR := Lib.hid (citedI_eq p a f b ha.symm hb hf)
  generalize citedI p = R at *
  clear ha haE
  by_cases h1 : a < p.size
  · rw [if_pos h1, Nat.sub_zero] at HI
    have HJ := Lib.hid fun W => byte_any p (a + 1) W (by omega)
    have hT := toE_ge p (a + 1) fun b => b == 64
    generalize toE p (a + 1) (fun b => b == 64) = T at *
    by_cases h2 : T < p.size
    · have HF : Hid (R = none) := Lib.hid (by rw [HR.out, if_neg fun c => by omega])
      rw [if_pos h2] at HJ
      have hge : (0 : Int) ≤ ((T - (a + 1) : Nat) : Int) := by omega
      generalize ((T - (a + 1) : Nat) : Int) = n2 at *
      clear HR hb hf
      go_enter Tryd.func21, Tryd.ntmps21
      go_wp2_with fail
      ((with_reducible refine (HI.out _).mono ?_))
      rintro e w1 ⟨rfl, rfl⟩
      go_wp2_with fail
      ((with_reducible refine (HJ.out _).mono ?_))
      rintro e w1 ⟨rfl, rfl⟩
      go_wp2_with fail
      exact cit_ret Tryd.results21 (Blk.new w _ _) rfl rfl rfl ⟨by rw [HF.out]; rfl, (Below.refl _ w).alloc (Nat.le_refl _) _⟩
    · rw [if_neg h2] at HJ
      have HA := Lib.hid fun W => name_any (p.extract (a + 1) (wordAt p (a + 1))) W (by rw [ByteArray.size_extract]; omega)
      have HN := Lib.hid fun W => s_nameEnd p (a + 1) W hs
      have HT1 := Lib.hid fun W => trim_any (p.extract 0 f) W (by rw [ByteArray.size_extract]; omega)
      have HT2 := Lib.hid fun W => trim_any (p.extract (wordAt p (a + 1)) p.size) W (by rw [ByteArray.size_extract]; omega)
      rw [bytesL_sub] at HT1
      rw [suffix_bytes] at HT2
      have hk1 := (wordAt_bd p (a + 1)).1
      have hk2 := (wordAt_bd p (a + 1)).2 h1
      have hfa : f ≤ a := by rw [hf]; split <;> omega
      have HR2 : Hid (R = if f = 0 ∨ bt p (f - 1) = 32 then (if nameB (p.extract (a + 1) (wordAt p (a + 1))) = true then some ⟨p.extract (a + 1) (wordAt p (a + 1)), mk (trimL (sub p 0 f)), mk (trimL (sfx p (wordAt p (a + 1)))), b⟩ else none) else none) := Lib.hid (by
        rw [HR.out]
        by_cases h : f = 0 ∨ bt p (f - 1) = 32
        · rw [if_pos h, if_pos ⟨h1, by omega, h⟩]
        · rw [if_neg h, if_neg fun c => h c.2.2])
      have hKz : (p.extract (wordAt p (a + 1)) p.size).size = (p.extract (wordAt p (a + 1)) p.size).size := rfl
      clear HR hKz
      generalize wordAt p (a + 1) = K at *
      generalize trimL (sub p 0 f) = t1 at *
      generalize trimL (sfx p K) = t2 at *
      generalize nameB (p.extract (a + 1) K) = nm at *
      go_enter Tryd.func21, Tryd.ntmps21
      go_wp2_with fail
      ((with_reducible refine (HI.out _).mono ?_))
      rintro e w1 ⟨rfl, rfl⟩
      go_wp2_with fail
      ((with_reducible refine (HJ.out _).mono ?_))
      rintro e w1 ⟨rfl, rfl⟩
      have hB0 : Blk ((w.alloc (.cells #[.string ⟨#[]⟩, .string ⟨#[]⟩, .string ⟨#[]⟩, .bool false] 43)).alloc (.cells #[.string ⟨#[]⟩, .string ⟨#[]⟩, .string ⟨#[]⟩, .bool false] 43)) w.heap.size 43 zCit := (Blk.new w _ _).alloc _
      have hB1 : Blk ((w.alloc (.cells #[.string ⟨#[]⟩, .string ⟨#[]⟩, .string ⟨#[]⟩, .bool false] 43)).alloc (.cells #[.string ⟨#[]⟩, .string ⟨#[]⟩, .string ⟨#[]⟩, .bool false] 43)) (w.heap.size + 1) 43 #[.string ⟨#[]⟩, .string ⟨#[]⟩, .string ⟨#[]⟩, .bool false] := by
        have := Blk.new (w.alloc (.cells #[.string ⟨#[]⟩, .string ⟨#[]⟩, .string ⟨#[]⟩, .bool false] 43)) 43 #[.string ⟨#[]⟩, .string ⟨#[]⟩, .string ⟨#[]⟩, .bool false]
        simpa using this
      have hBw : Below w.heap.size w ((w.alloc (.cells #[.string ⟨#[]⟩, .string ⟨#[]⟩, .string ⟨#[]⟩, .bool false] 43)).alloc (.cells #[.string ⟨#[]⟩, .string ⟨#[]⟩, .string ⟨#[]⟩, .bool false] 43)) := ((Below.refl _ _).alloc (Nat.le_refl _) _).alloc (by simp) _
      go_upto_region 6 with fail
      generalize ((w.alloc (.cells #[.string ⟨#[]⟩, .string ⟨#[]⟩, .string ⟨#[]⟩, .bool false] 43)).alloc (.cells #[.string ⟨#[]⟩, .string ⟨#[]⟩, .string ⟨#[]⟩, .bool false] 43)) = W0 at *
      have HB0 := Lib.hid hB0
      have HB1 := Lib.hid hB1
      have HBw := Lib.hid hBw
      clear hB0 hB1 hBw
      go_cut [30] (fun s30 wx => s30 = .bool b ∧ W0 = wx)
      case first =>
        clear HR2 HT1 HT2 HA HN HI HJ HB0 HB1 HBw
        by_cases h0 : 0 < a
        · have ea : (a : Int) - 1 = ((a - 1 : Nat) : Int) := by omega
          have hga := get_bt p (a - 1) (by omega)
          have ha1 : a - 1 < p.size := by omega
          by_cases h45 : bt p (a - 1) = 45
          · obtain rfl : b = true := by rw [hb, h45, decide_eq_true h0]; rfl
            rw [h45] at hga
            clear hb hf h45
            go_wp2_with fail
            go_meet
            case rel => exact ⟨rfl, rfl⟩
          · obtain rfl : b = false := by rw [hb, beq_eq_false_iff_ne.2 h45, Bool.and_false]
            have n1 : ((bt p (a - 1) : Int) == 45) = false := beq_eq_false_iff_ne.2 (by omega)
            clear hb hf h45
            generalize bt p (a - 1) = ch at *
            go_wp2_with fail
            go_meet
            case rel => exact ⟨rfl, rfl⟩
        · obtain rfl : b = false := by rw [hb, decide_eq_false h0]; rfl
          clear hb hf
          go_wp2_with fail
          go_meet
          case rel => exact ⟨rfl, rfl⟩
      case rest =>
      obtain ⟨rfl, rfl⟩ := hcut
      have hba : b = true → 0 < a := fun h => by
        rcases Nat.eq_zero_or_pos a with x | x
        · rw [h, x] at hb; simp at hb
        · exact x
      go_upto_if 30 with fail
      go_cut [6] (fun s6 wx => s6 = .int .i64 f ∧ Blk wx w.heap.size 43 zCit ∧ Blk wx (w.heap.size + 1) 43 #[.string ⟨#[]⟩, .string ⟨#[]⟩, .string ⟨#[]⟩, .bool b] ∧ Below w.heap.size w wx)
      case first =>
        clear HR2 HT1 HT2 HA HN HI HJ hb
        cases b
        · obtain rfl : f = a := by rw [hf, if_neg (by simp)]
          clear hf
          go_wp2_with fail
          go_meet
          case rel => exact ⟨rfl, HB0.out, HB1.out, HBw.out⟩
        · obtain rfl : f = a - 1 := by rw [hf, if_pos rfl]
          have h0 := hba rfl
          have ea : (a : Int) - 1 = ((a - 1 : Nat) : Int) := by omega
          have g3 : W0.frozen? ⟨w.heap.size + 1, 3, none⟩ = false := HB1.out.frozen 3
          have k3 : W0.cell? ⟨w.heap.size + 1, 3, none⟩ = some (.bool false) := HB1.out.cell 3
          clear hf hba
          go_wp2_with fail
          go_meet
          case rel => exact ⟨rfl, HB0.out.far (by simp) _, HB1.out.set_ 3 _, HBw.out.setCell (by simp) _⟩
      case rest =>
      obtain ⟨rfl, hb0, hb1, hbw⟩ := hcut
      have HB0 := Lib.hid hb0
      have HB1 := Lib.hid hb1
      have HBw := Lib.hid hbw
      obtain ⟨c0, c1, c2, c3, f0, f1, f2, f3⟩ := cit_facts hb0
      obtain ⟨k0, k1, k2, k3, g0, g1, g2, g3⟩ := cit_facts hb1
      have hz := hb1.lt
      clear hb0 hb1 hbw hb hf HI HJ
      by_cases hok : f = 0 ∨ bt p (f - 1) = 32
      · have HR3 := Lib.hid (HR2.out.trans (if_pos hok))
        clear HR2
        have HSP : 0 < f → f - 1 < p.size ∧ bt p (f - 1) = 32 := fun h => ⟨by omega, by rcases hok with h2 | h2 <;> omega⟩
        have HGF : Hid (∀ h : f - 1 < p.size, ((p[f - 1]'h).toNat : Int) = (bt p (f - 1) : Int)) := Lib.hid fun h => by rw [get_bt p (f - 1) h]
        clear hok
        have hya : a + 1 ≤ K := hk1
        by_cases h0 : 0 < f
        · obtain ⟨hf1, h32⟩ := HSP h0
          have hgf := HGF.out hf1
          rw [h32] at hgf
          have ef : (f : Int) - 1 = ((f - 1 : Nat) : Int) := by omega
          clear h32 HSP HGF
          go_wp2_with fail
          (refine (HN.out _).mono ?_)
          rintro e w1 ⟨rfl, rfl⟩
          go_wp2_with fail
          ((with_reducible refine (HT1.out _).mono ?_))
          rintro e w1 ⟨rfl, b1⟩
          have s0 := (HB0.out.far (p := ⟨w.heap.size + 1, 0, none⟩) (by simp) (.string (p.extract (a + 1) K)))
          have s1 := (HB1.out.set_ 0 (.string (p.extract (a + 1) K)))
          have v0 := s0.below b1 s0.lt
          have v1 := s1.below b1 s1.lt
          have vw := (HBw.out.setCell (p := ⟨w.heap.size + 1, 0, none⟩) (by simp) (.string (p.extract (a + 1) K))).trans (b1.mono (Nat.le_of_lt s0.lt))
          have V0 := Lib.hid v0
          have V1 := Lib.hid v1
          have Vw := Lib.hid vw
          clear s0 s1 b1 v0 vw c0 c1 c2 c3 f0 f1 f2 f3 k0 k1 k2 k3 g0 g1 g2 g3 HB0 HB1 HBw
          obtain ⟨k0, k1, k2, k3, g0, g1, g2, g3⟩ := cit_facts (show Blk w1 (w.heap.size + 1) 43 #[.string (p.extract (a + 1) K), .string ⟨#[]⟩, .string ⟨#[]⟩, .bool b] from v1)
          clear v1
          go_wp2_with fail
          ((with_reducible refine (HT2.out _).mono ?_))
          rintro e w2 ⟨rfl, b2⟩
          have s0 := (V0.out.far (p := ⟨w.heap.size + 1, 1, none⟩) (by simp) (.string (mk t1)))
          have s1 := (V1.out.set_ 1 (.string (mk t1)))
          have v0 := (s0.below b2 s0.lt).far (p := ⟨w.heap.size + 1, 2, none⟩) (by simp) (.string (mk t2))
          have v1 := s1.below b2 s1.lt
          have v2 := v1.set_ 2 (.string (mk t2))
          have vw := ((Vw.out.setCell (p := ⟨w.heap.size + 1, 1, none⟩) (by simp) (.string (mk t1))).trans (b2.mono (Nat.le_of_lt s0.lt))).setCell (p := ⟨w.heap.size + 1, 2, none⟩) (by simp) (.string (mk t2))
          have U0 := Lib.hid v0
          have U1 : Hid (Blk (w2.setCell ⟨w.heap.size + 1, 2, none⟩ (.string (mk t2))) (w.heap.size + 1) 43 #[.string (p.extract (a + 1) K), .string (mk t1), .string (mk t2), .bool b]) := Lib.hid v2
          have Uw := Lib.hid vw
          have g2' : w2.frozen? ⟨w.heap.size + 1, 2, none⟩ = false := v1.frozen 2
          have k2' : w2.cell? ⟨w.heap.size + 1, 2, none⟩ = some (.string ⟨#[]⟩) := v1.cell 2
          have k0' : w2.cell? ⟨w.heap.size + 1, 0, none⟩ = some (.string (p.extract (a + 1) K)) := v1.cell 0
          have k1' : w2.cell? ⟨w.heap.size + 1, 1, none⟩ = some (.string (mk t1)) := v1.cell 1
          have k3' : w2.cell? ⟨w.heap.size + 1, 3, none⟩ = some (.bool b) := v1.cell 3
          have z0 := s0.below b2 s0.lt
          obtain ⟨c0, c1, c2, c3, f0, f1, f2, f3⟩ := cit_facts z0
          clear s0 s1 b2 v0 v1 v2 vw z0 k0 k1 k2 k3 g0 g1 g2 g3 V0 V1 Vw
          go_wp2_with fail
          ((with_reducible refine (HA.out _).mono ?_))
          rintro e w3 ⟨rfl, rfl⟩
          cases nm
          · have HF : Hid (R = none) := Lib.hid (HR3.out.trans (if_neg (by simp)))
            clear HR3
            go_wp2_with fail
            exact cit_ret Tryd.results21 (blk4 U0.out _ _ _ _) rfl rfl rfl ⟨by rw [HF.out]; rfl, below4 Uw.out (Nat.le_refl _) _ _ _ _⟩
          · have HF : Hid (R = some ⟨p.extract (a + 1) K, mk t1, mk t2, b⟩) := Lib.hid (HR3.out.trans (if_pos rfl))
            clear HR3
            go_wp2_with fail
            exact cit_ret Tryd.results21 (blk4 U0.out _ _ _ _) rfl rfl rfl ⟨by rw [HF.out]; rfl, below4 Uw.out (Nat.le_refl _) _ _ _ _⟩
        · clear HSP HGF
          go_wp2_with fail
          (refine (HN.out _).mono ?_)
          rintro e w1 ⟨rfl, rfl⟩
          go_wp2_with fail
          ((with_reducible refine (HT1.out _).mono ?_))
          rintro e w1 ⟨rfl, b1⟩
          have s0 := (HB0.out.far (p := ⟨w.heap.size + 1, 0, none⟩) (by simp) (.string (p.extract (a + 1) K)))
          have s1 := (HB1.out.set_ 0 (.string (p.extract (a + 1) K)))
          have v0 := s0.below b1 s0.lt
          have v1 := s1.below b1 s1.lt
          have vw := (HBw.out.setCell (p := ⟨w.heap.size + 1, 0, none⟩) (by simp) (.string (p.extract (a + 1) K))).trans (b1.mono (Nat.le_of_lt s0.lt))
          have V0 := Lib.hid v0
          have V1 := Lib.hid v1
          have Vw := Lib.hid vw
          clear s0 s1 b1 v0 vw c0 c1 c2 c3 f0 f1 f2 f3 k0 k1 k2 k3 g0 g1 g2 g3 HB0 HB1 HBw
          obtain ⟨k0, k1, k2, k3, g0, g1, g2, g3⟩ := cit_facts (show Blk w1 (w.heap.size + 1) 43 #[.string (p.extract (a + 1) K), .string ⟨#[]⟩, .string ⟨#[]⟩, .bool b] from v1)
          clear v1
          go_wp2_with fail
          ((with_reducible refine (HT2.out _).mono ?_))
          rintro e w2 ⟨rfl, b2⟩
          have s0 := (V0.out.far (p := ⟨w.heap.size + 1, 1, none⟩) (by simp) (.string (mk t1)))
          have s1 := (V1.out.set_ 1 (.string (mk t1)))
          have v0 := (s0.below b2 s0.lt).far (p := ⟨w.heap.size + 1, 2, none⟩) (by simp) (.string (mk t2))
          have v1 := s1.below b2 s1.lt
          have v2 := v1.set_ 2 (.string (mk t2))
          have vw := ((Vw.out.setCell (p := ⟨w.heap.size + 1, 1, none⟩) (by simp) (.string (mk t1))).trans (b2.mono (Nat.le_of_lt s0.lt))).setCell (p := ⟨w.heap.size + 1, 2, none⟩) (by simp) (.string (mk t2))
          have U0 := Lib.hid v0
          have U1 : Hid (Blk (w2.setCell ⟨w.heap.size + 1, 2, none⟩ (.string (mk t2))) (w.heap.size + 1) 43 #[.string (p.extract (a + 1) K), .string (mk t1), .string (mk t2), .bool b]) := Lib.hid v2
          have Uw := Lib.hid vw
          have g2' : w2.frozen? ⟨w.heap.size + 1, 2, none⟩ = false := v1.frozen 2
          have k2' : w2.cell? ⟨w.heap.size + 1, 2, none⟩ = some (.string ⟨#[]⟩) := v1.cell 2
          have k0' : w2.cell? ⟨w.heap.size + 1, 0, none⟩ = some (.string (p.extract (a + 1) K)) := v1.cell 0
          have k1' : w2.cell? ⟨w.heap.size + 1, 1, none⟩ = some (.string (mk t1)) := v1.cell 1
          have k3' : w2.cell? ⟨w.heap.size + 1, 3, none⟩ = some (.bool b) := v1.cell 3
          have z0 := s0.below b2 s0.lt
          obtain ⟨c0, c1, c2, c3, f0, f1, f2, f3⟩ := cit_facts z0
          clear s0 s1 b2 v0 v1 v2 vw z0 k0 k1 k2 k3 g0 g1 g2 g3 V0 V1 Vw
          go_wp2_with fail
          ((with_reducible refine (HA.out _).mono ?_))
          rintro e w3 ⟨rfl, rfl⟩
          cases nm
          · have HF : Hid (R = none) := Lib.hid (HR3.out.trans (if_neg (by simp)))
            clear HR3
            go_wp2_with fail
            exact cit_ret Tryd.results21 (blk4 U0.out _ _ _ _) rfl rfl rfl ⟨by rw [HF.out]; rfl, below4 Uw.out (Nat.le_refl _) _ _ _ _⟩
          · have HF : Hid (R = some ⟨p.extract (a + 1) K, mk t1, mk t2, b⟩) := Lib.hid (HR3.out.trans (if_pos rfl))
            clear HR3
            go_wp2_with fail
            exact cit_ret Tryd.results21 (blk4 U0.out _ _ _ _) rfl rfl rfl ⟨by rw [HF.out]; rfl, below4 Uw.out (Nat.le_refl _) _ _ _ _⟩
      · have HF : Hid (R = none) := Lib.hid (HR2.out.trans (if_neg hok))
        have hf0 : 0 < f := by omega
        have ef : (f : Int) - 1 = ((f - 1 : Nat) : Int) := by omega
        have hgf := get_bt p (f - 1) (by omega)
        have hf1 : f - 1 < p.size := by omega
        have n1 : ((bt p (f - 1) : Int) != 32) = true := bne_iff_ne.2 (by omega)
        clear hok HR2 HT1 HT2 HA HN
        go_wp2_with fail
        exact cit_ret Tryd.results21 (blk4 HB0.out _ _ _ _) rfl rfl rfl ⟨by rw [HF.out]; rfl, below4 HBw.out (Nat.le_refl _) _ _ _ _⟩
  · rw [if_neg h1] at HI
    have HF : Hid (R = none) := Lib.hid (by rw [HR.out, if_neg fun c => h1 c.1])
    clear HR hb hf
    go_enter Tryd.func21, Tryd.ntmps21
    go_wp2_with fail
    ((with_reducible refine (HI.out _).mono ?_))
    rintro e w1 ⟨rfl, rfl⟩
    go_wp2_with fail
    exact cit_ret Tryd.results21 (Blk.new w _ _) rfl rfl rfl ⟨by rw [HF.out]; rfl, (Below.refl _ w).alloc (Nat.le_refl _) _⟩

end Go.Proofs.YtcjkgmfidkgamaaDoor
namespace Go.Pub
open Go.RowKit
variable {F : Fence} {n : Nat} {P : Program}
/-- An iterator's word, where the iterator may step by St: J stands over its steps. -/
def SeqSteps {α : Type} (F : Fence) (n : Nat) (P : Program) (g : Nat) (lb : Array Value) (encs : α → Array Value) (Kp St : World → World → Prop) (S Sp : List α → Prop) (N : Nat) (w : World) : Prop :=
  ∀ (l : Nat) (J Jx : List α → World → Prop) (W : World), Below w.heap.size w W → AbidesFrom W.heap.size J → (∀ pre A B, J pre A → St A B → J pre B) →
    (∀ pre x W1, J pre W1 → pre.length < N → YieldAt F (n - 1) P l (encs x) W1 fun e W' =>
      (e = .returned (.bool true) ∧ J (pre ++ [x]) W' ∧ Kp W1 W') ∨ (e = .returned (.bool false) ∧ Jx (pre ++ [x]) W')) →
    J [] W →
    CallsIn F n P g (#[.func (.yield l) #[] #[]] ++ lb) W fun e W' => (∃ v, e = .returned v) ∧ ((∃ xs, S xs ∧ J xs W') ∨ (∃ pre, Sp pre ∧ Jx pre W'))
theorem range_steps {α : Type} {g : Operand} {ps : Array Tmp} {assign body : Code} {Q : Exit → Act → World → Prop} {a : Act} {w : World}
    (hro : F.round = none) (h1 : 1 ≤ n) {gf : Nat} {lb : Array Value} (hg : a.eval g = .func (.func gf) #[] lb) (hFg : F.fn gf) (eg : ∀ args w, (callFunc gf args).run P w = .ok (.enter gf args) w)
    {encs : α → Array Value} {Kp St : World → World → Prop} {S Sp : List α → Prop} {N : Nat} (hseq : SeqSteps F (n - 1) P gf lb encs Kp St S Sp N w)
    (hKt : ∀ {A B C : World}, Kp A B → Kp B C → Kp A C) (hKb : ∀ (W : World) (l : Nat) (o o' : Obj), w.heap.size ≤ l → W.heap[l]? = some o → o.isCells = false → o.isWalk = false → Kp W (W.putObj l o')) (hps : ∀ x, (encs x).size = ps.size)
    (I : List α → World → Prop) (Ix : Code → List α → World → Prop) (hI : OwnFrom w.heap.size I) (hIx : ∀ c, OwnFrom w.heap.size (Ix c)) (hIs : ∀ pre A B, I pre A → St A B → I pre B) (hSb : ∀ A B, St A B → ∀ k, w.heap.size ≤ k → B.heap[k]? = A.heap[k]?) (h0 : I [] w) (a₁ : α → Act)
    (hassign : ∀ (l : Nat) (x : α) (W : World) (K : Act → World → Prop), K (a₁ x) W →
      assign.wpIn (F.inRound l) (n - 1 - 1) P (Exit.then K (fun _ _ _ => False)) { tmps := (ps.zip (encs x)).foldl (fun t (p, v) => t.setIfInBounds p v) a.tmps, defers := [] } W)
    (hbody : ∀ (l : Nat) (pre : List α) (x : α) (W : World), I pre W → pre.length < N → body.wpIn (F.inRound l) (n - 1 - 1) P (ownPostG w.heap.size Kp I Ix (pre ++ [x]) W) (a₁ x) W)
    (hdone : ∀ (D : Nat) (xs : List α) (W : World), w.heap.size ≤ D → S xs → I xs W → W.heap[D]? = some (.deferred (some [])) → Q .normal { a with defers := { target := .collected D, args := #[] } :: a.defers } W)
    (hstop : ∀ (D : Nat) (c : Code) (pre : List α) (W : World), w.heap.size ≤ D → Sp pre → Ix c pre W → W.heap[D]? = some (.deferred (some [])) → c.wpIn F n P Q { a with defers := { target := .collected D, args := #[] } :: a.defers } W) :
    (Code.rangeFunc g ps assign body).wpIn F n P Q a w := by
  refine wpIn_rangeFunc ?_
  intro fn hfn
  rw [hro]
  obtain ⟨rec, hrec⟩ : ∃ rec : LoopState → Option Code → Loop, rec = fun st pe => { state := st, pending := pe, fn, tmps := a.tmps, params := ps, assign, body, defers := w.heap.size } := ⟨_, rfl⟩
  obtain ⟨W1, hW1⟩ : ∃ W1, (w.alloc (.deferred (some []))).alloc (.loop (rec .ready none)) = W1 := ⟨_, rfl⟩
  have z1 : W1.heap.size = w.heap.size + 2 := by rw [← hW1]; simp
  have hL1 : W1.heap[w.heap.size + 1]? = some (.loop (rec .ready none)) := by
    have := World.alloc_heap_new (w.alloc (.deferred (some []))) (.loop (rec .ready none))
    rw [World.size_alloc, hW1] at this; exact this
  have hK1 : W1.heap[w.heap.size]? = some (.deferred (some [])) := by
    rw [← hW1]; exact (Below.heap_alloc _ _ _ (by simp)).trans (World.alloc_heap_new w _)
  have hI1 : I [] W1 := by rw [← hW1]; exact hI.alloc _ (hI.alloc _ h0)
  have hb1 : Below w.heap.size w W1 := by rw [← hW1]; exact ((Below.refl _ w).alloc (Nat.le_refl _) _).alloc (by simp) _
  refine ⟨w.heap.size + 1, [{ target := .collected w.heap.size, args := #[] }], W1, { target := .fn (.func gf) lb, args := #[.func (.yield (w.heap.size + 1)) #[] #[]] }, W1, gf,
    #[.func (.yield (w.heap.size + 1)) #[] #[]] ++ lb, W1, ?_, ?_, ?_, ?_, fun _ => h1, ?_⟩
  · rw [← hW1, hrec]; exact run_enterLoop_outer _ _ _ _ _
  · simp only [resolve, hg]
    simp [go_sem]
  · intro f' hf'; simp [Target.leads] at hf'; subst hf'; exact hFg
  · simp [invoke, go_sem, eg]
  refine (hseq (w.heap.size + 1)
    (fun pre W => I pre W ∧ W.heap[w.heap.size + 1]? = some (.loop (rec .ready none)) ∧ W.heap[w.heap.size]? = some (.deferred (some [])))
    (fun pre W => ∃ c, Ix c pre W ∧ W.heap[w.heap.size + 1]? = some (.loop (rec .done (some c))) ∧ W.heap[w.heap.size]? = some (.deferred (some [])))
    W1 hb1 ?_ ?_ ?_ ⟨hI1, hL1, hK1⟩).mono ?_
  · intro s A B row hs hgr hr
    refine ⟨hI s A B row hs.1 hgr (fun r e => ?_), (grownBy_keeps hgr (fun r e => (hr r e).2) hs.2.1 rfl).trans hs.2.1, (grownBy_keeps hgr (fun r e => (hr r e).2) hs.2.2 rfl).trans hs.2.2⟩
    obtain ⟨hB, o, ho, hw⟩ := hr r e
    exact ⟨by omega, o, ho, Obj.not_cells_of_walk hw⟩
  · intro pre A B hs hst
    exact ⟨hIs pre A B hs.1 hst, (hSb A B hst _ (by omega)).trans hs.2.1, (hSb A B hst _ (Nat.le_refl _)).trans hs.2.2⟩
  · rintro pre x W ⟨hi, hl, hk⟩ hlen
    have hlt : w.heap.size + 1 < W.heap.size := (Array.getElem?_eq_some_iff.1 hl).1
    have hy := run_yield (P := P) (args := encs x) hl (by rw [hrec]; exact hps x)
    rw [hrec] at hy
    refine ⟨fn, _, assign, body, hy, roundIn_of_wpIn hfn (hassign _ x W _ ⟨_, run_beginRound hl (by rw [hrec]), ?_⟩)⟩
    obtain ⟨W2, hW2⟩ : ∃ W2, W2 = W.putObj (w.heap.size + 1) (.loop { rec .ready none with state := .busy }) := ⟨_, rfl⟩
    have hl2 : W2.heap[w.heap.size + 1]? = some (.loop { rec .ready none with state := .busy }) := by rw [hW2]; exact World.putObj_heap_same hlt
    have hk2 : W2.heap[w.heap.size]? = some (.deferred (some [])) := by rw [hW2]; exact (World.putObj_heap_other (by omega)).trans hk
    have hw2 : Kp W W2 := by rw [hW2]; exact hKb _ _ _ _ (by omega) hl rfl rfl
    have hi2 : I pre W2 := by rw [hW2]; exact hI.putObj _ hi (by omega) hl rfl
    refine wpIn_mono (hW2 ▸ hbody _ pre x _ hi2 hlen) ?_
    have fin : ∀ (jump : Option Code) (W3 : World), KeepsFrom w.heap.size W2 W3 →
        (Instr.endRound (w.heap.size + 1) jump).run P W3 = .ok (.bool jump.isNone) (W3.putObj (w.heap.size + 1) (.loop (rec (if jump.isNone then .ready else .done) jump))) ∧
        W3.heap[w.heap.size + 1]? = some (.loop { rec .ready none with state := .busy }) ∧
        (W3.putObj (w.heap.size + 1) (.loop (rec (if jump.isNone then .ready else .done) jump))).heap[w.heap.size + 1]? = some (.loop (rec (if jump.isNone then .ready else .done) jump)) ∧
        (W3.putObj (w.heap.size + 1) (.loop (rec (if jump.isNone then .ready else .done) jump))).heap[w.heap.size]? = some (.deferred (some [])) := fun jump W3 hk3 => by
      have hl3 := hk3.same _ _ (by omega) hl2 rfl
      have := run_endRound (P := P) jump hl3
      rw [hrec] at this ⊢
      exact ⟨this, by rw [hrec] at hl3; exact hl3, World.putObj_heap_same (Array.getElem?_eq_some_iff.1 hl3).1, (World.putObj_heap_other (by omega)).trans (hk3.same _ _ (Nat.le_refl _) hk2 rfl)⟩
    have out : ∀ (c : Code) (W3 : World), KeepsFrom w.heap.size W2 W3 → Ix c (pre ++ [x]) W3 → ∃ v W4, (Instr.endRound (w.heap.size + 1) (some c)).run P W3 = .ok v W4 ∧ v = .bool false ∧ ∃ c', Ix c' (pre ++ [x]) W4 ∧ W4.heap[w.heap.size + 1]? = some (.loop (rec .done (some c'))) ∧ W4.heap[w.heap.size]? = some (.deferred (some [])) := fun c W3 hk3 hi3 => by
      obtain ⟨hr, hl3, hl4, hk4⟩ := fin (some c) W3 hk3
      exact ⟨_, _, hr, rfl, c, (hIx _).putObj _ hi3 (by omega) hl3 rfl, hl4, hk4⟩
    rintro e a3 W3 hp0
    have hp : ownPostG w.heap.size Kp I Ix (pre ++ [x]) W2 e a3 W3 := by rw [hW2]; exact hp0
    clear hp0
    cases e with
    | normal =>
      obtain ⟨hk3, hkp3, hi3⟩ := hp
      obtain ⟨hr, hl3, hl4, hk4⟩ := fin none W3 hk3
      exact ⟨_, _, hr, .inl ⟨rfl, ⟨hI.putObj _ hi3 (by omega) hl3 rfl, hl4, hk4⟩, hKt (hKt hw2 hkp3) (hKb _ _ _ _ (by omega) hl3 rfl rfl)⟩⟩
    | ret =>
      obtain ⟨v, W4, q1, rfl, q2⟩ := out .ret W3 hp.1 hp.2
      exact ⟨_, _, q1, .inr ⟨rfl, q2⟩⟩
    | exit id =>
      obtain ⟨v, W4, q1, rfl, q2⟩ := out (.exit id) W3 hp.1 hp.2
      exact ⟨_, _, q1, .inr ⟨rfl, q2⟩⟩
    | goto t =>
      obtain ⟨v, W4, q1, rfl, q2⟩ := out (.goto t) W3 hp.1 hp.2
      exact ⟨_, _, q1, .inr ⟨rfl, q2⟩⟩
    | panic ch => exact hp.elim
    | outgrown => exact hp.elim
  · rintro e W2 ⟨⟨v, rfl⟩, (⟨xs, hS, hi, hl, hk⟩ | ⟨pre, hSp, c, hi, hl, hk⟩)⟩
    · exact ⟨none, _, by have := run_endLoop (P := P) hl (by rw [hrec]; simp); rw [hrec] at this; exact this, hdone _ xs _ (Nat.le_refl _) hS (hI.putObj _ hi (by omega) hl rfl) ((World.putObj_heap_other (by omega)).trans hk)⟩
    · exact ⟨some c, _, by have := run_endLoop (P := P) hl (by rw [hrec]; simp); rw [hrec] at this; exact this, hstop _ c pre _ (Nat.le_refl _) hSp ((hIx c).putObj _ hi (by omega) hl rfl) ((World.putObj_heap_other (by omega)).trans hk)⟩
end Go.Pub
namespace Go.Proofs.YtcjkgmfidkgamaaDoor
open Go.RowKit Go.Pub
set_option maxRecDepth 100000 in
set_option maxHeartbeats 1000000 in
theorem split_seq (s : ByteArray) (w : World) : Calls Tryd.prog 20 #[.string s, .string ⟨#[59]⟩] w fun e w' =>
    e = .returned (.func (.func 50) #[] #[.pointer (some ⟨w.heap.size + 1, 0, none⟩), .pointer (some ⟨w.heap.size, 0, none⟩), .pointer (some ⟨w.heap.size + 2, 0, none⟩)]) ∧
    w' = ((w.alloc (.cells #[.string s] 9)).alloc (.cells #[.string ⟨#[59]⟩] 9)).alloc (.cells #[.int .i64 0] 3) := by
  have H : Hid (∀ W, Calls Tryd.prog 26 #[.string s, .string ⟨#[59]⟩, .int .i64 0] W fun e w' =>
    e = .returned (.func (.func 50) #[] #[.pointer (some ⟨W.heap.size + 1, 0, none⟩), .pointer (some ⟨W.heap.size, 0, none⟩), .pointer (some ⟨W.heap.size + 2, 0, none⟩)]) ∧
    w' = ((W.alloc (.cells #[.string s] 9)).alloc (.cells #[.string ⟨#[59]⟩] 9)).alloc (.cells #[.int .i64 0] 3)) := Lib.hid fun W => by
    go_enter Tryd.func26, Tryd.ntmps26
    go_wp2_with fail
    go_ret
    exact ⟨rfl, rfl⟩
  go_enter Tryd.func20, Tryd.ntmps20
  go_wp2_with fail
  ((with_reducible refine (H.out _).mono ?_))
  rintro e w1 ⟨rfl, rfl⟩
  go_wp2_with fail
  go_ret
  exact ⟨rfl, rfl⟩

end Go.Proofs.YtcjkgmfidkgamaaDoor
namespace Go.Pub
theorem semi_idx : ∀ l : List UInt8, (Lib.indexByte l 59 = -1 ∧ semiL l = [l]) ∨ ∃ k : Nat, Lib.indexByte l 59 = k ∧ k < l.length ∧ semiL l = l.take k :: semiL (l.drop (k + 1))
  | [] => .inl ⟨rfl, rfl⟩
  | b :: l => by
    by_cases hb : b = 59
    · subst hb
      exact .inr ⟨0, rfl, by simp, by conv => lhs; unfold semiL
                                      rw [if_pos rfl]; rfl⟩
    · have hq : (b == 59) = false := beq_eq_false_iff_ne.2 hb
      rcases semi_idx l with ⟨h1, h2⟩ | ⟨k, h1, h2, h3⟩
      · refine .inl ⟨?_, ?_⟩
        · unfold Lib.indexByte; rw [hq, h1]; rfl
        · unfold semiL; rw [if_neg hb, h2]
      · refine .inr ⟨k + 1, ?_, by simp; omega, ?_⟩
        · unfold Lib.indexByte; rw [hq, h1, if_neg (by simp), if_neg (by simp)]; omega
        · conv => lhs; unfold semiL
          rw [if_neg hb, h3]; rfl
end Go.Pub
namespace Go.Proofs.YtcjkgmfidkgamaaDoor
open Go.RowKit Go.Pub
/-- What the iterator's three boxes hold: the separator, what is left, nought. -/
structure SqB (b0 b1 b2 : Nat) (rest : ByteArray) (W : World) : Prop where
  s : W.heap[b0]? = some (.cells #[.string rest] 9 (0, 0))
  sep : W.heap[b1]? = some (.cells #[.string ⟨#[59]⟩] 9 (0, 0))
  sav : W.heap[b2]? = some (.cells #[.int .i64 0] 3 (0, 0))
/-- A step of the iterator. -/
def StB (b0 : Nat) (A B : World) : Prop := ∃ v, B = A.setCell ⟨b0, 0, none⟩ (.string v)
/-- A round keeps the boxes. -/
def KpS (b0 b1 b2 : Nat) (W W' : World) : Prop := W'.heap[b0]? = W.heap[b0]? ∧ W'.heap[b1]? = W.heap[b1]? ∧ W'.heap[b2]? = W.heap[b2]?
def boxLen (b : Nat) (W : World) : Nat := match W.heap[b]? with
  | some (.cells cs _ _) => match (cs : Array Value)[0]? with
    | some (Value.string t) => t.size
    | _ => 0
  | _ => 0
abbrev StrP := { s : ByteArray // s.size ≤ 1000000 }
def toStr (l : List UInt8) : StrP := if h : l.length ≤ 1000000 then ⟨mk l, by rw [mk_size]; exact h⟩ else ⟨⟨#[]⟩, by decide⟩
theorem toStr_val (l : List UInt8) (h : l.length ≤ 1000000) : (toStr l).1 = mk l := by unfold toStr; rw [dif_pos h]
set_option maxRecDepth 100000 in
set_option maxHeartbeats 2000000 in
theorem split_stops (n : Nat) (hn : 1 ≤ n) (b0 b1 b2 : Nat) (h01 : b0 ≠ b1) (h02 : b0 ≠ b2) (s : ByteArray) (hs : s.size ≤ 1000000) (w : World) (hB : SqB b0 b1 b2 s w) :
    SeqSteps Fence.wide n Tryd.prog 50 #[.pointer (some ⟨b1, 0, none⟩), .pointer (some ⟨b0, 0, none⟩), .pointer (some ⟨b2, 0, none⟩)] (fun x : StrP => #[Value.string x.1]) (KpS b0 b1 b2) (StB b0) (fun ys => ys = (semiL (bytesL s)).map toStr) (fun pre => pre <+: (semiL (bytesL s)).map toStr) (semiL (bytesL s)).length w := fun l J Jx W hW _ hSt hY h0 => by
  have lt : ∀ {b : Nat} {o : Obj}, w.heap[b]? = some o → b < w.heap.size := fun {b o} h => by
    rcases Nat.lt_or_ge b w.heap.size with h1 | h1
    · exact h1
    · rw [Array.getElem?_eq_none h1] at h; cases h
  have hBW : SqB b0 b1 b2 s W := ⟨(hW.block b0 (lt hB.s)).trans hB.s, (hW.block b1 (lt hB.sep)).trans hB.sep, (hW.block b2 (lt hB.sav)).trans hB.sav⟩
  generalize hall : semiL (bytesL s) = all at *
  have HALL := Lib.hid hall
  clear hall
  have k1 : W.cell? ⟨b1, 0, none⟩ = some (.string ⟨#[59]⟩) := cell_of_row W b1 0 _ _ _ hBW.sep
  refine callsIn_of_wp Tryd.func50 rfl trivial ?_ rfl
  simp only [Tryd.ntmps50, List.size_toArray, List.length_cons, List.length_nil, Nat.reduceAdd, Nat.reduceSub, Array.replicate_succ, Array.replicate_zero, List.push_toArray, List.append_toArray, List.nil_append, List.cons_append]
  gi_wp2_with fail
  gi_loopw [7, 8] (fun _ _ wr => ∃ (rest : ByteArray) (done : List (List UInt8)), rest.size ≤ 1000000 ∧ SqB b0 b1 b2 rest wr ∧ Hid (done ++ semiL (bytesL rest) = all) ∧ J (done.map toStr) wr)
    (fun _ _ wr => boxLen b0 wr)
  case atStart => exact ⟨s, [], hs, hBW, HALL, h0⟩
  case round =>
    obtain ⟨rest, done, hz, hb, Hall, hJ⟩ := hrel
    have c0 : wr.cell? ⟨b0, 0, none⟩ = some (.string rest) := cell_of_row wr b0 0 _ _ _ hb.s
    have c1 : wr.cell? ⟨b1, 0, none⟩ = some (.string ⟨#[59]⟩) := cell_of_row wr b1 0 _ _ _ hb.sep
    have c2 : wr.cell? ⟨b2, 0, none⟩ = some (.int .i64 0) := cell_of_row wr b2 0 _ _ _ hb.sav
    have HS : Hid (∀ W : World, CallsIn Fence.wide (n - 1) Tryd.prog 52 #[.string rest, .string ⟨#[59]⟩] W fun e w' => e = .returned (.int .i64 (Lib.indexByte (bytesL rest) 59)) ∧ W = w') := Lib.hid fun W => callsIn_wide (n := n - 1).2 ((Tryd.strings_Index_one rest 59 W).mono (by rintro e w' ⟨rfl, rfl⟩; exact ⟨rfl, rfl⟩))
    have hlen : (bytesL rest).length = rest.size := bytesL_length rest
    rcases semi_idx (bytesL rest) with ⟨h1, h2⟩ | ⟨k, h1, h2, h3⟩
    · rw [h1] at HS
      have HN : Hid (done ++ [bytesL rest] = all) := Lib.hid (by rw [← Hall.out, h2])
      have ex : (toStr (bytesL rest)).1 = rest := by rw [toStr_val _ (by omega)]; exact mk_bytesL rest
      obtain ⟨fn, tmps, assign, body, hy, hR⟩ := hY (done.map toStr) (toStr (bytesL rest)) wr hJ (by rw [← HN.out]; simp)
      rw [ex] at hy
      gi_wp2_with fail
      refine ⟨trivial, ?_⟩
      ((with_reducible refine (HS.out _).mono ?_))
      rintro e w0 ⟨rfl, rfl⟩
      gi_wp2_with fail
      refine hR.mono ?_
      rintro e W3 (⟨rfl, hJ3, hk3⟩ | ⟨rfl, hJx3⟩)
      · gi_wp2_with fail
        go_end0
        exact ⟨⟨_, rfl⟩, .inl ⟨_, by rw [← HN.out]; simp, hJ3⟩⟩
      · gi_wp2_with fail
        go_end0
        exact ⟨⟨_, rfl⟩, .inr ⟨_, ⟨[], by rw [← HN.out]; simp⟩, hJx3⟩⟩
    · rw [h1] at HS
      have hkz : k < rest.size := by omega
      have e0 : (bytesL rest).take k = bytesL (rest.extract 0 k) := by rw [bytesL_sub]; unfold sub; rw [List.drop_zero, Nat.sub_zero]
      have e1 : (bytesL rest).drop (k + 1) = bytesL (rest.extract (k + 1) rest.size) := by rw [suffix_bytes]; rfl
      rw [e0, e1] at h3
      have HN : Hid (done ++ [bytesL (rest.extract 0 k)] ++ semiL (bytesL (rest.extract (k + 1) rest.size)) = all) := Lib.hid (by rw [← Hall.out, h3]; simp)
      have ez : (rest.extract 0 k).size = k := by rw [ByteArray.size_extract]; omega
      have ez2 : (rest.extract (k + 1) rest.size).size = rest.size - (k + 1) := by rw [ByteArray.size_extract]; omega
      have ex : (toStr (bytesL (rest.extract 0 k))).1 = rest.extract 0 k := by rw [toStr_val _ (by rw [bytesL_length]; omega)]; exact mk_bytesL _
      obtain ⟨fn, tmps, assign, body, hy, hR⟩ := hY (done.map toStr) (toStr (bytesL (rest.extract 0 k))) wr hJ (by rw [← HN.out]; simp)
      rw [ex] at hy
      clear e0 e1 h1 h2 h3
      gi_wp2_with fail
      refine ⟨trivial, ?_⟩
      ((with_reducible refine (HS.out _).mono ?_))
      rintro e w0 ⟨rfl, rfl⟩
      gi_wp2_with fail
      refine hR.mono ?_
      rintro e W3 (⟨rfl, hJ3, hk3⟩ | ⟨rfl, hJx3⟩)
      · have hb3 : SqB b0 b1 b2 rest W3 := ⟨hk3.1.trans hb.s, hk3.2.1.trans hb.sep, hk3.2.2.trans hb.sav⟩
        have d0 : W3.cell? ⟨b0, 0, none⟩ = some (.string rest) := cell_of_row W3 b0 0 _ _ _ hb3.s
        have d1 : W3.cell? ⟨b1, 0, none⟩ = some (.string ⟨#[59]⟩) := cell_of_row W3 b1 0 _ _ _ hb3.sep
        have g0 : W3.frozen? ⟨b0, 0, none⟩ = false := Blk.frozen (t := 9) (cs := #[.string rest]) hb3.s 0
        have hJ4 := hSt _ _ _ hJ3 ⟨rest.extract (k + 1) rest.size, rfl⟩
        have hb4 : SqB b0 b1 b2 (rest.extract (k + 1) rest.size) (W3.setCell ⟨b0, 0, none⟩ (.string (rest.extract (k + 1) rest.size))) :=
          ⟨Blk.set_ (t := 9) (cs := #[.string rest]) hb3.s 0 _, Blk.far (t := 9) (cs := #[.string ⟨#[59]⟩]) hb3.sep (fun e => h01 e.symm) _, Blk.far (t := 3) (cs := #[.int .i64 0]) hb3.sav (fun e => h02 e.symm) _⟩
        have hm4 : boxLen b0 (W3.setCell ⟨b0, 0, none⟩ (.string (rest.extract (k + 1) rest.size))) < boxLen b0 wr := by
          unfold boxLen
          rw [hb4.s, hb.s]
          show (rest.extract (k + 1) rest.size).size < rest.size
          omega
        have HB4 := Lib.hid hb4
        have HM4 := Lib.hid hm4
        clear hb4 hm4
        gi_wp2_with fail
        go_roundw
        case rel => exact ⟨rest.extract (k + 1) rest.size, done ++ [bytesL (rest.extract 0 k)], by omega, HB4.out, HN, by rw [List.map_append]; exact hJ4⟩
        case measure => exact HM4.out
      · gi_wp2_with fail
        refine bodyPost_ret (results_none rfl _ _ _) rfl ?_
        exact ⟨⟨_, rfl⟩, .inr ⟨_, ⟨(semiL (bytesL (rest.extract (k + 1) rest.size))).map toStr, by rw [← HN.out]; simp⟩, hJx3⟩⟩

end Go.Proofs.YtcjkgmfidkgamaaDoor
namespace Go.Pub
theorem any_enc (p : UInt8 → Bool) (hp : ∀ b, 128 ≤ b.toNat → p b = false) (c : Nat) (h : Scalar c) : (encL (c : Int)).any p = (decide (c < 128) && p (UInt8.ofNat c)) := by
  rw [encL_scalar c h]
  unfold Scalar at h
  by_cases h1 : c < 128
  · rw [encN_one c h1, decide_eq_true h1, Bool.true_and]
    show ([UInt8.ofNat c].any p) = _
    simp
  · rw [decide_eq_false h1, Bool.false_and]
    by_cases h2 : c < 2048
    · rw [encN_two c h1 h2]
      show ([UInt8.ofNat (192 + c / 64), UInt8.ofNat (128 + c % 64)].any p) = _
      simp only [List.any_cons, List.any_nil, Bool.or_false]
      rw [hp _ (by rw [ofNat_toNat _ (by omega)]; omega), hp _ (by rw [ofNat_toNat _ (by omega)]; omega)]; rfl
    · by_cases h3 : c < 65536
      · rw [encN_three c h1 h2 h3]
        show ([UInt8.ofNat (224 + c / 4096), UInt8.ofNat (128 + c / 64 % 64), UInt8.ofNat (128 + c % 64)].any p) = _
        simp only [List.any_cons, List.any_nil, Bool.or_false]
        rw [hp _ (by rw [ofNat_toNat _ (by omega)]; omega), hp _ (by rw [ofNat_toNat _ (by omega)]; omega), hp _ (by rw [ofNat_toNat _ (by omega)]; omega)]; rfl
      · rw [encN_four c h1 h2 h3]
        show ([UInt8.ofNat (240 + c / 262144), UInt8.ofNat (128 + c / 4096 % 64), UInt8.ofNat (128 + c / 64 % 64), UInt8.ofNat (128 + c % 64)].any p) = _
        simp only [List.any_cons, List.any_nil, Bool.or_false]
        rw [hp _ (by rw [ofNat_toNat _ (by omega)]; omega), hp _ (by rw [ofNat_toNat _ (by omega)]; omega), hp _ (by rw [ofNat_toNat _ (by omega)]; omega), hp _ (by rw [ofNat_toNat _ (by omega)]; omega)]; rfl
theorem any_dec (p : UInt8 → Bool) (hp : ∀ b, 128 ≤ b.toNat → p b = false) (l : List UInt8) (h : l ≠ []) : (l.take (decL l).2).any p = (decide ((decL l).1 < 128) && p (UInt8.ofNat (decL l).1)) := by
  by_cases hg : decL l = (65533, 1)
  · rw [hg]
    cases l with
    | nil => exact absurd rfl h
    | cons x l =>
      by_cases hx : x.toNat < 128
      · rw [dec_ascii_head x l hx] at hg
        injection hg with h1 _
        omega
      · show ([x].any p) = _
        simp only [List.any_cons, List.any_nil, Bool.or_false]
        rw [hp _ (by omega)]; rfl
  · rw [← enc_decL l h hg]
    exact any_enc p hp _ (decL_scalar l h)
theorem dec_high (s : ByteArray) (i : Nat) (h : 128 ≤ bt s i) : 128 ≤ (Utf8.decode s i).1 := by
  rw [decode_decL]
  have h0 : 128 ≤ atL ((bytesL s).drop i) 0 := by rw [← bt_atL]; exact h
  unfold decL
  rcases decodeN_cases ((bytesL s).drop i).length (atL ((bytesL s).drop i) 0) (atL ((bytesL s).drop i) 1) (atL ((bytesL s).drop i) 2) (atL ((bytesL s).drop i) 3) with e | ⟨c, e⟩ | ⟨c, e⟩ | ⟨c, e⟩ | ⟨c, e⟩ <;> rw [e]
  all_goals (simp only [] at *; omega)
/-- The first byte of a set, by counting. -/
theorem index_cnt (cs : List UInt8) : ∀ l : List UInt8, Lib.indexAny l cs = if cntW (fun b => !cs.contains (UInt8.ofNat b)) l < l.length then (cntW (fun b => !cs.contains (UInt8.ofNat b)) l : Int) else -1
  | [] => rfl
  | b :: l => by
    have hb : UInt8.ofNat b.toNat = b := by simp
    have hl := cntW_le (fun b => !cs.contains (UInt8.ofNat b)) l
    unfold Lib.indexAny cntW
    rw [index_cnt cs l, hb]
    cases hc : cs.contains b
    · simp only [Bool.not_false, if_true, Bool.false_eq_true, if_false, List.length_cons]
      by_cases h : cntW (fun b => !cs.contains (UInt8.ofNat b)) l < l.length
      · rw [if_pos h, if_neg (by simp), if_pos (by omega)]; omega
      · rw [if_neg h, if_neg (show ¬ (cntW (fun b => !cs.contains (UInt8.ofNat b)) l + 1 < l.length + 1) by omega)]; rfl
    · simp
theorem index_hit (cs : List UInt8) : ∀ (l : List UInt8) (k : Nat) (x : UInt8), (l.take k).any (cs.contains ·) = false → l[k]? = some x → cs.contains x = true → Lib.indexAny l cs = k
  | [], k, x, _, h, _ => by simp at h
  | b :: l, 0, x, _, h, hc => by simp at h; subst h; unfold Lib.indexAny; rw [if_pos hc]; rfl
  | b :: l, k + 1, x, h1, h, hc => by
    rw [List.take_succ_cons, List.any_cons, Bool.or_eq_false_iff] at h1
    unfold Lib.indexAny
    rw [h1.1, index_hit cs l k x h1.2 (by simpa using h) hc]
    simp only [Bool.false_eq_true, if_false]
    rw [if_neg (by simp)]; omega
theorem index_no (cs : List UInt8) : ∀ l : List UInt8, l.any (cs.contains ·) = false → Lib.indexAny l cs = -1
  | [], _ => rfl
  | b :: l, h => by
    rw [List.any_cons, Bool.or_eq_false_iff] at h
    unfold Lib.indexAny
    rw [h.1, index_no cs l h.2]; rfl
theorem index_any (cs : List UInt8) (l : List UInt8) : decide (0 ≤ Lib.indexAny l cs) = l.any (cs.contains ·) := by
  induction l with
  | nil => rfl
  | cons b l ih =>
    have hg := Lib.indexAny_ge cs l
    unfold Lib.indexAny
    rw [List.any_cons, ← ih]
    cases hc : cs.contains b
    · simp only [Bool.false_eq_true, if_false, Bool.false_or]
      by_cases h : Lib.indexAny l cs = -1
      · rw [h]; rfl
      · rw [if_neg (by simpa using h)]
        congr 1; apply propext; omega
    · simp
theorem byte_no (c : UInt8) : ∀ l : List UInt8, (∀ b ∈ l, b ≠ c) → Lib.indexByte l c = -1
  | [], _ => rfl
  | b :: l, h => by
    unfold Lib.indexByte
    rw [if_neg (by simpa using h b List.mem_cons_self), byte_no c l fun x hx => h x (List.mem_cons_of_mem _ hx)]; rfl
theorem byte_has (c : UInt8) : ∀ l : List UInt8, (0 ≤ Lib.indexByte l c ↔ l.contains c = true)
  | [] => by simp [Lib.indexByte]
  | b :: l => by
    have ih := byte_has c l
    have hg := Lib.indexByte_ge l c
    unfold Lib.indexByte
    by_cases h : b = c
    · subst h; simp
    · rw [if_neg (by simpa using h), List.contains_cons, show (c == b) = false by simpa using Ne.symm h, Bool.false_or, ← ih]
      by_cases h2 : Lib.indexByte l c = -1
      · rw [h2]; simp
      · rw [if_neg (by simpa using h2)]; omega
end Go.Pub
namespace Go.Proofs.YtcjkgmfidkgamaaDoor
open Go.RowKit Go.Pub
/-- A set of ASCII bytes. -/
def Asc (cs : ByteArray) : Prop := ∀ b ∈ bytesL cs, b.toNat < 128
theorem Asc.bt {cs : ByteArray} (h : Asc cs) {k : Nat} (hk : k < cs.size) : bt cs k < 128 := by
  have := h (cs.get! k) (by
    unfold bytesL
    rw [show cs.get! k = cs.data[k]'hk from getElem!_pos cs.data k hk]
    exact Array.mem_toList_iff.2 (Array.getElem_mem _))
  exact this
set_option maxRecDepth 1000000 in
set_option maxHeartbeats 4000000 in
theorem runeX_err (cs : ByteArray) (hcs : Asc cs) (w : World) : Calls Tryd.prog 46 #[.string cs, .int .i32 65533] w fun e w' => e = .returned (.int .i64 (-1)) ∧ Below w.heap.size w w' := by
  have HA := Lib.hid hcs
  clear hcs
  go_enter Tryd.func46, Tryd.ntmps46
  go_wp2_with fail
  go_loopw [] (fun wr => ∃ pos, wr.heap[w.heap.size]? = some (.stringIter cs pos) ∧ Below w.heap.size w wr ∧ pos ≤ cs.size) (fun wr => cs.size - wr.iterPos w.heap.size)
  case atStart => exact ⟨0, World.iter_heap w cs 0, (Below.refl _ w).alloc (Nat.le_refl _) _, Nat.zero_le _⟩
  case round =>
    obtain ⟨pos, hit, hbw, hps⟩ := hrel
    by_cases hp : pos < cs.size
    · have hd := dec_one cs pos (HA.out.bt hp)
      have hnx : ∀ ty, (Instr.next (.pointer (some ⟨w.heap.size, 0, none⟩)) true ty).run Tryd.prog wr = _ := fun ty => Lib.run_next_any_at wr w.heap.size cs pos ty hit hp
      simp only [hd] at hnx
      have hne : ((bt cs pos : Int) == 65533) = false := beq_eq_false_iff_ne.2 (by have := HA.out.bt hp; omega)
      have hit2 := Lib.hid (Lib.iterAt_heap wr w.heap.size cs pos (pos + 1) hit)
      have hbw2 := Lib.hid (Lib.below_iterAt hbw (k := w.heap.size) (Nat.le_refl _) cs (pos + 1))
      have hitk := Lib.hid hit
      clear hit hd
      go_wp2_with fail
      go_roundw
      case rel => exact ⟨pos + 1, hit2.out, hbw2.out, hp⟩
      case measure =>
        simp only [World.iterPos, hit2.out, hitk.out]
        omega
    · have hnx : ∀ ty, (Instr.next (.pointer (some ⟨w.heap.size, 0, none⟩)) true ty).run Tryd.prog wr = _ := fun ty => Lib.run_next_end_at wr w.heap.size cs pos ty hit hp
      go_wp2_with fail
      go_ret
      exact ⟨rfl, hbw⟩

set_option maxRecDepth 1000000 in
set_option maxHeartbeats 4000000 in
theorem runeX_more (cs : ByteArray) (hcs : Asc cs) (hN : cs.size ≤ 1000) (r : Nat) (w : World) (h1 : 128 ≤ r) (h2 : r ≠ 65533) (h3 : r < 55296 ∨ (57343 < r ∧ r ≤ 1114111)) :
    Calls Tryd.prog 46 #[.string cs, .int .i32 r] w fun e w' => e = .returned (.int .i64 (-1)) ∧ Below w.heap.size w w' := by
  have h0 : (0 : Int) ≤ r := by omega
  have z1 : ((r : Int) == 65533) = false := by rw [beq_eq_false_iff_ne]; omega
  have z2 : 128 ≤ (r : Int) := by omega
  have HV : Hid (∀ W, Calls Tryd.prog 70 #[.int .i32 r] W fun e w' => e = .returned (.bool true) ∧ W = w') := Lib.hid fun W => by
    refine (Tryd.utf8_ValidRune r W).mono ?_
    rintro e w' ⟨rfl, rfl⟩
    exact ⟨ret_bool (by unfold Lib.validRune; simp; omega), rfl⟩
  have HA := Lib.hid hcs
  have HI : Hid (∀ (k : Nat) (c : UInt8) (W : World), 128 ≤ c.toNat → Calls Tryd.prog 27 #[.string (cs.extract k cs.size), .int .u8 c.toNat] W fun e w' => e = .returned (.int .i64 (-1)) ∧ W = w') := Lib.hid fun k c W h => by
    refine (Tryd.strings_IndexByte (cs.extract k cs.size) c.toNat W).mono ?_
    rintro e w' ⟨rfl, rfl⟩
    refine ⟨ret_int ?_, rfl⟩
    have e1 : ((c.toNat : Int).toNat.toUInt8) = c := by simp
    rw [e1]
    refine byte_no c _ fun b hb e => ?_
    subst e
    have hb' : b ∈ bytesL cs := by
      have h2 : b ∈ sub cs k cs.size := by rw [← bytesL_sub]; exact hb
      exact List.mem_of_mem_drop (List.mem_of_mem_take h2)
    have := hcs b hb'
    omega
  have hE : (∃ a b : UInt8, Utf8.encode (r : Int) = ⟨#[a, b]⟩ ∧ 128 ≤ b.toNat) ∨ (∃ a b c : UInt8, Utf8.encode (r : Int) = ⟨#[a, b, c]⟩ ∧ 128 ≤ c.toNat) ∨ (∃ a b c d : UInt8, Utf8.encode (r : Int) = ⟨#[a, b, c, d]⟩ ∧ 128 ≤ d.toNat) := by
    rw [enc_nat r (valid_of r (by omega))]
    by_cases h : r < 2048
    · left; rw [encN_two r (by omega) h]; exact ⟨_, _, rfl, by rw [ofNat_toNat _ (by omega)]; omega⟩
    · right
      by_cases h : r < 65536
      · left; rw [encN_three r (by omega) (by omega) h]; exact ⟨_, _, _, rfl, by rw [ofNat_toNat _ (by omega)]; omega⟩
      · right; rw [encN_four r (by omega) (by omega) h]; exact ⟨_, _, _, _, rfl, by rw [ofNat_toNat _ (by omega)]; omega⟩
  clear h1 h2 h3 hcs
  have go : ∀ (R : ByteArray) (L : Nat), Utf8.encode (r : Int) = R → R.size = L + 1 → L ≤ 3 → 128 ≤ bt R L → Calls Tryd.prog 46 #[.string cs, .int .i32 r] w fun e w' => e = .returned (.int .i64 (-1)) ∧ Below w.heap.size w w' := by
    intro R L hR hl hL hb
    have HI2 : Hid (∀ W, Calls Tryd.prog 27 #[.string (cs.extract (L + 1) cs.size), .int .u8 (bt R L)] W fun e w' => e = .returned (.int .i64 (-1)) ∧ W = w') := Lib.hid fun W => HI.out (L + 1) (R.get! L) W hb
    clear HI
    have hLz : ((R.size : Int) - 1) = (L : Int) := by omega
    have hbi : ∀ h : L < R.size, ((R[L]'h).toNat : Int) = (bt R L : Int) := fun h => by rw [get_bt R L h]
    by_cases hc : L < cs.size
    · have hci : ((cs[L]'hc).toNat : Int) = (bt cs L : Int) := by rw [get_bt cs L hc]
      have hne : ((bt cs L : Int) != (bt R L : Int)) = true := by have := HA.out.bt hc; simp; omega
      go_enter Tryd.func46, Tryd.ntmps46
      go_wp2_with fail
      ((with_reducible refine (HV.out _).mono ?_))
      rintro e w1 ⟨rfl, rfl⟩
      go_wp2_with fail
      go_step3
      go_wp2_with fail
      refine wp_loop_rounds 1 ?_
      rw [rounds_succ]
      go_wp2_with fail
      go_step3
      go_wp2_with fail
      go_quiet (fail)
      have hb1 := Lib.hid (below_drewN (Below.refl w.heap.size w) nq)
      generalize w.drewN nq = W1 at *
      go_wp2_with fail
      go_quiet ((go_at_call 27; exact quietLeft (HI2.out _)))
      have hb2 := Lib.hid (below_drewN hb1.out nq)
      generalize W1.drewN nq = W2 at *
      go_wp2_with fail
      rw [Exit.noGoto_ret]
      go_wp2_with fail
      rw [Exit.noGoto_ret]
      go_wp2_with fail
      go_ret
      exact ⟨rfl, hb2.out⟩
    · go_enter Tryd.func46, Tryd.ntmps46
      go_wp2_with fail
      ((with_reducible refine (HV.out _).mono ?_))
      rintro e w1 ⟨rfl, rfl⟩
      go_wp2_with fail
      go_step3
      go_wp2_with fail
      refine wp_loop_rounds 1 ?_
      rw [rounds_succ]
      go_wp2_with fail
      rw [Exit.noGoto_ret]
      go_wp2_with fail
      go_ret
      exact ⟨rfl, Below.refl _ _⟩
  rcases hE with ⟨a, b, hE, hb⟩ | ⟨a, b, c, hE, hb⟩ | ⟨a, b, c, d, hE, hb⟩
  · exact go _ 1 hE rfl (by omega) hb
  · exact go _ 2 hE rfl (by omega) hb
  · exact go _ 3 hE rfl (by omega) hb

def setB (cs : ByteArray) (r : Nat) : Bool := decide (r < 128) && (bytesL cs).contains (UInt8.ofNat r)
theorem runeX_any (cs : ByteArray) (hcs : Asc cs) (hN : cs.size ≤ 1000) (r : Nat) (w : World) (hr : r < 55296 ∨ (57343 < r ∧ r ≤ 1114111)) :
    Calls Tryd.prog 46 #[.string cs, .int .i32 r] w (IdxPost (setB cs r) w) := by
  unfold setB
  by_cases h1 : r < 128
  · refine (Tryd.strings_IndexRune_ascii cs r w (by omega) (by omega)).mono ?_
    rintro e w' ⟨rfl, rfl⟩
    refine ⟨_, rfl, ?_, Below.refl _ _⟩
    have e1 : ((r : Int).toNat.toUInt8) = UInt8.ofNat r := rfl
    rw [e1, decide_eq_true h1, Bool.true_and]
    exact byte_has _ _
  · rw [decide_eq_false h1, Bool.false_and]
    have key : Calls Tryd.prog 46 #[.string cs, .int .i32 r] w fun e w' => e = .returned (.int .i64 (-1)) ∧ Below w.heap.size w w' := by
      by_cases h3 : r = 65533
      · subst h3; exact runeX_err cs hcs w
      · exact runeX_more cs hcs hN r w (by omega) h3 hr
    refine key.mono ?_
    rintro e w' ⟨rfl, hb⟩
    exact ⟨-1, rfl, by simp, hb⟩
def IaX (s cs : ByteArray) (w : World) (wr : World) : Prop :=
  ∃ pos : Nat, wr.heap[w.heap.size]? = some (.stringIter s pos) ∧ Below w.heap.size w wr ∧ Hid (((bytesL s).take pos).any ((bytesL cs).contains ·) = false) ∧ pos ≤ s.size
set_option maxRecDepth 1000000 in
set_option maxHeartbeats 4000000 in
theorem anyX_short (s cs : ByteArray) (hcs : Asc cs) (hN : cs.size ≤ 1000) (h2 : 2 ≤ cs.size) (w : World) (hs : s.size ≤ 8) :
    Calls Tryd.prog 25 #[.string s, .string cs] w fun e w' => e = .returned (.int .i64 (Lib.indexAny (bytesL s) (bytesL cs))) ∧ Below w.heap.size w w' := by
  have HSh : Hid (∀ W, Calls Tryd.prog 47 #[.int .i64 s.size] W fun e w' => e = .returned (.bool false) ∧ W = w') := Lib.hid fun W => by
    refine (Tryd.strings_shouldUseASCIISet s.size W).mono ?_
    rintro e w' ⟨rfl, rfl⟩
    exact ⟨ret_bool (by simp; omega), rfl⟩
  have HR : Hid (∀ (r : Nat) W, Scalar r → Calls Tryd.prog 46 #[.string cs, .int .i32 r] W (IdxPost (setB cs r) W)) := Lib.hid fun r W h => runeX_any cs hcs hN r W h
  have HH := Lib.hid (index_hit (bytesL cs) (bytesL s))
  have HNo := Lib.hid (index_no (bytesL cs) (bytesL s))
  have HP : Hid (∀ b : UInt8, 128 ≤ b.toNat → (bytesL cs).contains b = false) := Lib.hid fun b hb => by
    cases hc : (bytesL cs).contains b
    · rfl
    · have := hcs b (by simpa using hc); omega
  have hem : cs.toList.isEmpty = false := by
    rw [Lib.toList_data]
    cases h : cs.data.toList with
    | nil => have := Lib.size_eq cs; rw [h, List.length_nil] at this; omega
    | cons _ _ => rfl
  have hn1 : ((cs.size : Int) == 1) = false := beq_eq_false_iff_ne.2 (by omega)
  clear hcs
  generalize Lib.indexAny (bytesL s) (bytesL cs) = G at *
  go_enter Tryd.func25, Tryd.ntmps25
  go_wp2_with fail
  ((with_reducible refine (HSh.out _).mono ?_))
  rintro e w1 ⟨rfl, rfl⟩
  go_wp2_with fail
  go_loopw [] (fun wr => IaX s cs w wr) (fun wr => s.size - wr.iterPos w.heap.size)
  case atStart =>
    exact ⟨0, World.iter_heap w s 0, (Below.refl _ w).alloc (Nat.le_refl _) _, Lib.hid rfl, by omega⟩
  case round =>
    obtain ⟨pos, hit, hbw, Hok, hps⟩ := hrel
    have hz := hbw.size
    by_cases hp : pos < s.size
    · have hd := dec_bd s pos hp
      have hne : (bytesL s).drop pos ≠ [] := by intro e; have := congrArg List.length e; rw [List.length_drop, bytesL_length] at this; simp at this; omega
      have hS : Scalar (Utf8.decode s pos).1 := by rw [decode_decL]; exact decL_scalar _ hne
      have hAny : Hid (((bytesL s).take (pos + (Utf8.decode s pos).2)).any ((bytesL cs).contains ·) = setB cs (Utf8.decode s pos).1) := Lib.hid (by
        have := any_dec ((bytesL cs).contains ·) HP.out _ hne
        rw [decode_decL, List.take_add, List.any_append, Hok.out, Bool.false_or]
        exact this)
      have hX : Hid (setB cs (Utf8.decode s pos).1 = true → (bytesL s)[pos]? = some (s.get! pos) ∧ (bytesL cs).contains (s.get! pos) = true) := Lib.hid fun h => by
        unfold setB at h
        rw [Bool.and_eq_true, decide_eq_true_eq] at h
        have hb : bt s pos < 128 := by
          rcases Nat.lt_or_ge (bt s pos) 128 with h1 | h1
          · exact h1
          · exfalso
            have h3 := dec_high s pos h1
            omega
        rw [dec_one s pos hb] at h
        refine ⟨?_, ?_⟩
        · unfold bytesL
          rw [show s.get! pos = s.data[pos]'hp from getElem!_pos s.data pos hp, Array.getElem?_toList]
          exact Array.getElem?_eq_getElem hp
        · have : UInt8.ofNat (bt s pos) = s.get! pos := by unfold bt; simp
          rw [← this]; exact h.2
      have hnx : ∀ ty, (Instr.next (.pointer (some ⟨w.heap.size, 0, none⟩)) true ty).run Tryd.prog wr = _ := fun ty => Lib.run_next_any_at wr w.heap.size s pos ty hit hp
      have hit2 := Lib.hid (Lib.iterAt_heap wr w.heap.size s pos (pos + (Utf8.decode s pos).2) hit)
      have hbw2 := Lib.hid (Lib.below_iterAt hbw (k := w.heap.size) (Nat.le_refl _) s (pos + (Utf8.decode s pos).2))
      have hsz2 : w.heap.size < (wr.iterAt w.heap.size s (pos + (Utf8.decode s pos).2)).heap.size := by rw [Lib.iterAt_size]; exact (Array.getElem?_eq_some_iff.1 hit).1
      have hitk := Lib.hid hit
      clear hit hne
      generalize Utf8.decode s pos = D at *
      have HC := Lib.hid fun W => HR.out D.1 W hS
      clear hS
      cases hsp : setB cs D.1
      · have dn : Hid (∀ W', Below (wr.iterAt w.heap.size s (pos + D.2)).heap.size (wr.iterAt w.heap.size s (pos + D.2)) W' → W'.heap[w.heap.size]? = some (.stringIter s (pos + D.2)) ∧ IaX s cs w W') := Lib.hid fun W' hW => by
          have e1 : W'.heap[w.heap.size]? = some (.stringIter s (pos + D.2)) := (hW.block _ hsz2).trans hit2.out
          exact ⟨e1, pos + D.2, e1, hbw2.out.trans (hW.mono (by omega)), Lib.hid (by rw [hAny.out, hsp]), by omega⟩
        rw [hsp] at HC
        clear hsp
        go_wp2_with fail
        ((with_reducible refine (HC.out _).mono ?_))
        rintro e w1 ⟨n, rfl, hn, b1⟩
        have hn1 : n < 0 := by
          rcases Int.lt_or_le n 0 with h | h
          · exact h
          · have := hn.1 h; simp at this
        clear hn
        go_wp2_with fail
        go_roundw
        case rel => exact (dn.out _ b1).2
        case measure =>
          simp only [World.iterPos, (dn.out _ b1).1, hitk.out]
          omega
      · have HT : Hid (G = (pos : Int)) := Lib.hid (HH.out pos _ Hok.out (hX.out hsp).1 (hX.out hsp).2)
        rw [hsp] at HC
        clear hsp
        go_wp2_with fail
        ((with_reducible refine (HC.out _).mono ?_))
        rintro e w1 ⟨n, rfl, hn, b1⟩
        have hn1 : 0 ≤ n := hn.2 rfl
        clear hn
        go_wp2_with fail
        go_ret
        exact ⟨ret_int (by rw [HT.out]), hbw2.out.trans (b1.mono (by omega))⟩
    · have hnx : ∀ ty, (Instr.next (.pointer (some ⟨w.heap.size, 0, none⟩)) true ty).run Tryd.prog wr = _ := fun ty => Lib.run_next_end_at wr w.heap.size s pos ty hit hp
      have HF : Hid (G = -1) := Lib.hid (HNo.out (by have := Hok.out; rwa [List.take_of_length_le (by rw [bytesL_length]; omega)] at this))
      go_wp2_with fail
      go_ret
      exact ⟨ret_int (by rw [HF.out]), hbw⟩

theorem anyX (s cs : ByteArray) (w : World) (hcs : Asc cs) (hN : cs.size ≤ 1000) (h2 : 2 ≤ cs.size) (hs : s.size ≤ 1000000) :
    Calls Tryd.prog 25 #[.string s, .string cs] w fun e w' => e = .returned (.int .i64 (Lib.indexAny (bytesL s) (bytesL cs))) ∧ Below w.heap.size w w' := by
  by_cases h : s.size ≤ 8
  · exact anyX_short s cs hcs hN h2 w h
  · refine (Tryd.strings_IndexAny_long (fun w => by kernel_rfl) s cs w h2 (by omega) (by omega) (by omega) ?_).mono ?_
    · intro j b hj
      exact hcs b (List.mem_of_getElem? hj)
    · rintro e w' ⟨rfl, rfl⟩
      exact ⟨rfl, ((Below.refl _ _).alloc (Nat.le_refl _) _).alloc (by simp) _⟩
set_option maxRecDepth 1000000 in
set_option maxHeartbeats 4000000 in
theorem containsX (s cs : ByteArray) (w : World) (hcs : Asc cs) (hN : cs.size ≤ 1000) (h2 : 2 ≤ cs.size) (hs : s.size ≤ 1000000) :
    Calls Tryd.prog 19 #[.string s, .string cs] w fun e w' => e = .returned (.bool ((bytesL s).any ((bytesL cs).contains ·))) ∧ Below w.heap.size w w' := by
  have HC := Lib.hid fun W => anyX s cs W hcs hN h2 hs
  have HX := Lib.hid (index_any (bytesL cs) (bytesL s))
  generalize Lib.indexAny (bytesL s) (bytesL cs) = n at *
  go_enter Tryd.func19, Tryd.ntmps19
  go_wp2_with fail
  ((with_reducible refine (HC.out _).mono ?_))
  rintro e w1 ⟨rfl, b1⟩
  go_wp2_with fail
  go_ret
  exact ⟨ret_bool HX.out, b1⟩

end Go.Proofs.YtcjkgmfidkgamaaDoor
