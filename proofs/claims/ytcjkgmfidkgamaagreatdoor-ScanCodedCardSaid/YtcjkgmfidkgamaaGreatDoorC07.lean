/-
  Texts of the proof, put together (what this law reaches): ScV, ScJ, ScT, ScW, ScX, ScH, ScAC.
-/
import Derived.Test.YtcjkgmfidkgamaaGreatDoorC06
import Derived.Shelf.SlSorted.Search
import Derived.Test.YtcjkgmfidkgamaaGreatDoorC04
import Derived.Test.YtcjkgmfidkgamaaGreatDoorC05
import Derived.Maps.GroupsBeside
import Derived.Deep.DeepCutAuto
import Derived.Laws.Rows
set_option linter.unusedVariables false
set_option linter.unusedSimpArgs false
namespace Go.Proofs.YtcjkgmfidkgamaaGreatDoor
open Go.RowKit Go.Pub
theorem repl_sp (s : ByteArray) (m : Int) (w : World) (hs : s.size ≤ 1000000) (hm : w.cell? ⟨0, 0, none⟩ = some (.int .i64 m)) :
    Calls Tryz.prog 149 #[.string s, .string ⟨#[10]⟩, .string ⟨#[32]⟩] w fun e w' => e = .returned (.string (mk (unLF (bytesL s)))) ∧ Below w.heap.size w w' := by
  have hc := countLF_le (bytesL s)
  rw [bytesL_length] at hc
  have h := Tryz.strings_ReplaceAll s ⟨#[10]⟩ ⟨#[32]⟩ m w (by omega) hm (by decide) (by
    show s.size + Lib.count (bytesL s) [10] * 1 ≤ _
    omega)
  refine h.mono ?_
  rintro e w' ⟨rfl, hb⟩
  refine ⟨?_, hb⟩
  show Ending.returned (.string ⟨(Lib.replaceAll (bytesL s) [10] [32]).toArray⟩) = _
  rw [replAll_lf]; rfl
theorem sub_inner (T : ByteArray) : bytesL (T.extract 1 (T.size - 1)) = ((bytesL T).drop 1).dropLast := by
  rw [bytesL_sub]; unfold sub
  rw [List.dropLast_eq_take, List.length_drop, bytesL_length]
set_option maxRecDepth 100000 in
set_option maxHeartbeats 4000000 in
theorem s_content (s : ByteArray) (m : Int) (w : World) (hs : s.size ≤ 1000000) (hm : w.cell? ⟨0, 0, none⟩ = some (.int .i64 m)) :
    Calls Tryz.prog 122 #[.string s] w fun e w' => e = .returned (.string (mk (codeT (bytesL s)))) ∧ Below w.heap.size w w' := by
  have HC := Lib.hid (repl_sp s m w hs hm)
  have HU := Lib.hid (codeT_eq (bytesL s))
  obtain ⟨T, hT⟩ : ∃ T, T = mk (unLF (bytesL s)) := ⟨_, rfl⟩
  have hTb : bytesL T = unLF (bytesL s) := by rw [hT]; exact bytesL_mk' _
  have hTz : T.size ≤ 1000000 := by
    have h1 : (bytesL T).length = T.size := bytesL_length T
    rw [hTb] at h1; unfold unLF at h1; rw [List.length_map, bytesL_length] at h1; omega
  rw [← hT] at HC
  rw [← hTb] at HU
  have HP : Hid (∀ W, Calls Tryz.prog 119 #[.string T, .string ⟨#[32]⟩] W fun e w' => e = .returned (.bool (Lib.hasPrefix (bytesL T) [32])) ∧ W = w') := Lib.hid fun W => (Tryz.strings_HasPrefix T ⟨#[32]⟩ W).mono (by rintro e w' ⟨rfl, rfl⟩; exact ⟨rfl, rfl⟩)
  have HS : Hid (∀ W, Calls Tryz.prog 150 #[.string T, .string ⟨#[32]⟩] W fun e w' => e = .returned (.bool (Lib.hasSuffix (bytesL T) [32])) ∧ W = w') := Lib.hid fun W => (Tryz.strings_HasSuffix T ⟨#[32]⟩ W (by omega)).mono (by rintro e w' ⟨rfl, rfl⟩; exact ⟨rfl, rfl⟩)
  have HT := Lib.hid fun W => trim_any T W hTz
  have h1 := pre_sp (bytesL T)
  have h2 := suf_sp (bytesL T)
  have h3 := trim_nil (bytesL T)
  have HIn := Lib.hid (sub_inner T)
  have hp1 : Lib.hasPrefix (bytesL T) [32] = true → 1 ≤ T.size := fun h => by
    have := h1.1 h
    rcases Nat.eq_zero_or_pos T.size with h | h
    · have hb : bytesL T = [] := List.eq_nil_of_length_eq_zero (by rw [bytesL_length]; exact h)
      rw [hb] at this; cases this
    · exact h
  have hp2 : (bytesL T).any (· != 32) = true → Lib.hasPrefix (bytesL T) [32] = true → 2 ≤ T.size := fun h h' => by
    have h0 := hp1 h'
    rcases Nat.lt_or_ge T.size 2 with h5 | h5
    · exfalso
      have hl : (bytesL T).length = 1 := by rw [bytesL_length]; omega
      obtain ⟨a, ha⟩ := List.length_eq_one_iff.1 hl
      have := h1.1 h'
      rw [ha] at this h
      simp at this
      subst this
      simp at h
    · exact h5
  generalize codeT (bytesL s) = R at *
  have h3' : trimL (bytesL T) = [] ↔ (bytesL T).any (· != 32) = false := h3
  generalize trimL (bytesL T) = X at *
  generalize Lib.hasPrefix (bytesL T) [32] = p at *
  generalize Lib.hasSuffix (bytesL T) [32] = q at *
  generalize (bytesL T).any (· != 32) = r at *
  have HF0 : Hid (¬ (p = true ∧ q = true ∧ r = true) → mk R = T) := Lib.hid fun h => by
    rw [HU.out, if_neg fun c => h ⟨h1.2 c.1, h2.2 c.2.1, c.2.2⟩]; exact mk_bytesL T
  have HF1 : Hid (p = true ∧ q = true ∧ r = true → mk R = T.extract 1 (T.size - 1)) := Lib.hid fun h => by
    rw [HU.out, if_pos ⟨h1.1 h.1, h2.1 h.2.1, h.2.2⟩, ← HIn.out]; exact mk_bytesL _
  clear h1 h2 h3 HU hT hTb HIn hm
  cases p
  · have HF := Lib.hid (HF0.out (by simp))
    go_enter Tryz.func122, Tryz.ntmps122
    go_wp2_with fail
    ((with_reducible refine HC.out.mono ?_))
    rintro e w1 ⟨rfl, b1⟩
    go_wp2_with fail
    ((with_reducible refine (HP.out _).mono ?_))
    rintro e w2 ⟨rfl, rfl⟩
    go_wp2_with fail
    go_ret
    exact ⟨ret_str HF.out.symm, b1⟩
  · cases q
    · have HF := Lib.hid (HF0.out (by simp))
      go_enter Tryz.func122, Tryz.ntmps122
      go_wp2_with fail
      ((with_reducible refine HC.out.mono ?_))
      rintro e w1 ⟨rfl, b1⟩
      go_wp2_with fail
      ((with_reducible refine (HP.out _).mono ?_))
      rintro e w2 ⟨rfl, rfl⟩
      go_wp2_with fail
      ((with_reducible refine (HS.out _).mono ?_))
      rintro e w2 ⟨rfl, rfl⟩
      go_wp2_with fail
      go_ret
      exact ⟨ret_str HF.out.symm, b1⟩
    · cases r
      · have HF := Lib.hid (HF0.out (by simp))
        obtain rfl : X = [] := h3'.2 rfl
        obtain ⟨x1, x2⟩ := nil_list (mk []) rfl
        go_enter Tryz.func122, Tryz.ntmps122
        go_wp2_with fail
        ((with_reducible refine HC.out.mono ?_))
        rintro e w1 ⟨rfl, b1⟩
        go_wp2_with fail
        ((with_reducible refine (HP.out _).mono ?_))
        rintro e w2 ⟨rfl, rfl⟩
        go_wp2_with fail
        ((with_reducible refine (HS.out _).mono ?_))
        rintro e w2 ⟨rfl, rfl⟩
        go_wp2_with fail
        ((with_reducible refine (HT.out _).mono ?_))
        rintro e w2 ⟨rfl, b2⟩
        go_wp2_with fail
        go_ret
        exact ⟨ret_str HF.out.symm, b1.trans (b2.mono b1.size)⟩
      · have HF := Lib.hid (HF1.out ⟨rfl, rfl, rfl⟩)
        have hX : X ≠ [] := fun e => by have := h3'.1 e; cases this
        obtain ⟨x1, x2⟩ := cons_list (mk X) (by rw [bytesL_mk']; exact hX)
        have h5 := hp2 rfl rfl
        have ez : (T.size : Int) - 1 = ((T.size - 1 : Nat) : Int) := by omega
        have hsl : 1 ≤ T.size - 1 := by omega
        go_enter Tryz.func122, Tryz.ntmps122
        go_wp2_with fail
        ((with_reducible refine HC.out.mono ?_))
        rintro e w1 ⟨rfl, b1⟩
        go_wp2_with fail
        ((with_reducible refine (HP.out _).mono ?_))
        rintro e w2 ⟨rfl, rfl⟩
        go_wp2_with fail
        ((with_reducible refine (HS.out _).mono ?_))
        rintro e w2 ⟨rfl, rfl⟩
        go_wp2_with fail
        ((with_reducible refine (HT.out _).mono ?_))
        rintro e w2 ⟨rfl, b2⟩
        go_wp2_with fail
        go_ret
        exact ⟨ret_str HF.out.symm, b1.trans (b2.mono b1.size)⟩

end Go.Proofs.YtcjkgmfidkgamaaGreatDoor
namespace Go.Pub
/-- The runs of backticks from i on: where, how long. -/
def runsF (s : ByteArray) : Nat → Nat → List (Nat × Nat)
  | 0, _ => []
  | f + 1, i => if i < s.size then (if bt s i = 96 then (i, runF s i tick) :: runsF s f (i + runF s i tick) else runsF s f (i + 1)) else []
def runsL (s : ByteArray) : List (Nat × Nat) := runsF s s.size 0
/-- A dollar sign stands at k. -/
def dolAt (s : ByteArray) (k : Nat) : Bool := decide (k < s.size) && bt s k == 36
/-- The runs that count: with a dollar sign behind them if d. -/
def runsD (s : ByteArray) (d : Bool) (l : List (Nat × Nat)) : List (Nat × Nat) := l.filter fun p => !d || dolAt s (p.1 + p.2)
/-- Where the runs of n are. -/
def posL (n : Nat) (l : List (Nat × Nat)) : List Nat := (l.filter fun p => p.2 == n).map (·.1)
theorem tick_at {s : ByteArray} {i : Nat} (h : bt s i = 96) : tick (bt s i) = true := by rw [h]; rfl
theorem tick_pos {s : ByteArray} {i : Nat} (hi : i < s.size) (h : bt s i = 96) : 0 < runF s i tick := by
  rw [runF_yes s i tick hi (tick_at h)]; omega
theorem later_head (s : ByteArray) (n : Nat) (d : Bool) : ∀ f i, laterF s n d f i = (posL n (runsD s d (runsF s f i))).head?
  | 0, _ => rfl
  | f + 1, i => by
    unfold laterF runsF
    by_cases h1 : i < s.size
    · rw [if_pos h1, if_pos h1]
      by_cases h2 : bt s i = 96
      · rw [if_pos h2, if_pos h2]
        by_cases h3 : runF s i tick = n ∧ (d = true → i + n < s.size ∧ bt s (i + n) = 36)
        · rw [if_pos h3]
          obtain ⟨h4, h5⟩ := h3
          have h6 : (!d || dolAt s (i + runF s i tick)) = true := by
            cases d
            · rfl
            · have := h5 rfl
              unfold dolAt
              rw [h4, decide_eq_true this.1, this.2]; rfl
          unfold runsD posL
          rw [List.filter_cons, if_pos h6, List.filter_cons, if_pos (by simpa using h4)]
          rfl
        · rw [if_neg h3, later_head s n d f]
          unfold runsD posL
          rw [List.filter_cons]
          split
          · rename_i h6
            rw [List.filter_cons, if_neg]
            simp only [beq_iff_eq]
            intro h4
            refine h3 ⟨h4, fun hd => ?_⟩
            subst hd
            unfold dolAt at h6
            simp only [Bool.not_true, Bool.false_or, Bool.and_eq_true, decide_eq_true_eq, beq_iff_eq] at h6
            rw [← h4]; exact h6
          · rfl
      · rw [if_neg h2, if_neg h2, later_head s n d f]
    · rw [if_neg h1, if_neg h1]; rfl
theorem runsF_ge (s : ByteArray) : ∀ f i, ∀ p ∈ runsF s f i, i ≤ p.1
  | 0, _, p, h => by cases h
  | f + 1, i, p, h => by
    unfold runsF at h
    split at h
    · split at h
      · rw [List.mem_cons] at h
        rcases h with rfl | h
        · exact Nat.le_refl _
        · have := runsF_ge s f _ p h; omega
      · have := runsF_ge s f _ p h; omega
    · cases h
theorem runsF_asc (s : ByteArray) : ∀ f i, (runsF s f i).Pairwise fun p q => p.1 < q.1
  | 0, _ => List.Pairwise.nil
  | f + 1, i => by
    unfold runsF
    split
    · rename_i hi
      split
      · rename_i hb
        refine List.Pairwise.cons (fun q hq => ?_) (runsF_asc s f _)
        have := runsF_ge s f _ q hq
        have := tick_pos hi hb
        show i < q.1
        omega
      · exact runsF_asc s f _
    · exact List.Pairwise.nil
theorem runsF_len (s : ByteArray) : ∀ f i, (runsF s f i).length ≤ s.size - i
  | 0, _ => Nat.zero_le _
  | f + 1, i => by
    unfold runsF
    split
    · rename_i hi
      split
      · rename_i hb
        have := runsF_len s f (i + runF s i tick)
        have := tick_pos hi hb
        rw [List.length_cons]; omega
      · have := runsF_len s f (i + 1); omega
    · exact Nat.zero_le _
theorem runsF_fuel (s : ByteArray) : ∀ f g i, s.size - i ≤ f → s.size - i ≤ g → runsF s f i = runsF s g i
  | 0, 0, _, _, _ => rfl
  | 0, g + 1, i, h, _ => by unfold runsF; rw [if_neg (by omega)]
  | f + 1, 0, i, _, h => by unfold runsF; rw [if_neg (by omega)]
  | f + 1, g + 1, i, h1, h2 => by
    unfold runsF
    by_cases hi : i < s.size
    · rw [if_pos hi, if_pos hi]
      by_cases hb : bt s i = 96
      · have := tick_pos hi hb
        rw [if_pos hb, if_pos hb, runsF_fuel s f g _ (by omega) (by omega)]
      · rw [if_neg hb, if_neg hb, runsF_fuel s f g _ (by omega) (by omega)]
    · rw [if_neg hi, if_neg hi]
/-- No run of backticks reaches over i. -/
def bnd (s : ByteArray) (i : Nat) : Prop := s.size ≤ i ∨ bt s i ≠ 96 ∨ i = 0 ∨ bt s (i - 1) ≠ 96
theorem bnd_runE {s : ByteArray} {i : Nat} (h : bt s i = 96) : bnd s (runE s i) := by
  have k := (runF_all s (fun b => b == bt s i) s.size i (by omega)).2
  unfold bnd
  by_cases hl : runE s i < s.size
  · refine .inr (.inl fun e => ?_)
    have := k hl
    unfold runE at e
    rw [e, h] at this
    cases this
  · exact .inl (by omega)
theorem runE_tick {s : ByteArray} {i : Nat} (h : bt s i = 96) : runE s i = i + runF s i tick := by
  unfold runE
  congr 1
  rw [h]; rfl
theorem runs_from (s : ByteArray) (i : Nat) (hb : bnd s i) : ∀ f j, j ≤ i → s.size - j ≤ f → (runsF s f j).filter (fun p => decide (i ≤ p.1)) = runsF s (s.size - i) i
  | 0, j, hj, hf => by
    rw [runsF_fuel s (s.size - i) 0 i (Nat.le_refl _) (by omega)]; rfl
  | f + 1, j, hj, hf => by
    by_cases he : j = i
    · subst he
      rw [runsF_fuel s (s.size - j) (f + 1) j (Nat.le_refl _) hf]
      exact List.filter_eq_self.2 fun p hp => decide_eq_true (runsF_ge s _ _ p hp)
    · rw [show runsF s (f + 1) j = if j < s.size then (if bt s j = 96 then (j, runF s j tick) :: runsF s f (j + runF s j tick) else runsF s f (j + 1)) else [] from rfl]
      by_cases hl : j < s.size
      · rw [if_pos hl]
        by_cases ht : bt s j = 96
        · rw [if_pos ht, List.filter_cons, if_neg (by simp; omega)]
          refine runs_from s i hb f (j + runF s j tick) ?_ (by have := tick_pos hl ht; omega)
          rcases Nat.lt_or_ge i (j + runF s j tick) with h1 | h1
          · exfalso
            have k := (runF_all s tick s.size j (by omega)).1
            have hle := runF_le s j tick
            have a1 := k i (by omega) h1
            have a2 := k (i - 1) (by omega) (by omega)
            unfold tick at a1 a2
            rw [beq_iff_eq] at a1 a2
            unfold bnd at hb
            rcases hb with h2 | h2 | h2 | h2
            · omega
            · exact h2 a1
            · omega
            · exact h2 a2
          · exact h1
        · rw [if_neg ht]
          exact runs_from s i hb f (j + 1) (by omega) (by omega)
      · rw [if_neg hl, runsF_fuel s (s.size - i) 0 i (Nat.le_refl _) (by omega)]; rfl
theorem asc_drop (x : Nat) : ∀ l : List Nat, l.Pairwise (· < ·) → l.drop (l.countP fun y => !decide (x ≤ y)) = l.filter fun y => decide (x ≤ y)
  | [], _ => rfl
  | y :: l, h => by
    rw [List.pairwise_cons] at h
    rw [List.countP_cons, List.filter_cons]
    by_cases hx : x ≤ y
    · have h0 : l.countP (fun y => !decide (x ≤ y)) = 0 := by
        rw [List.countP_eq_zero]
        intro z hz
        have := h.1 z hz
        simp; omega
      rw [h0, decide_eq_true hx]
      simp only [Bool.not_true, Bool.false_eq_true, if_false, Nat.zero_add, List.drop_zero, if_true]
      rw [List.filter_eq_self.2]
      intro z hz
      have := h.1 z hz
      simp; omega
    · rw [decide_eq_false hx]
      simp only [Bool.not_false, if_true, Bool.false_eq_true, if_false, List.drop_succ_cons]
      exact asc_drop x l h.2
theorem posL_asc (s : ByteArray) (n : Nat) (d : Bool) : (posL n (runsD s d (runsL s))).Pairwise (· < ·) := by
  unfold posL runsD
  rw [List.pairwise_map]
  exact ((runsF_asc s _ _).filter _).filter _
/-- The first run of n from a boundary on, out of the places of all. -/
theorem later_pos (s : ByteArray) (n : Nat) (d : Bool) (i : Nat) (hb : bnd s i) : laterA s i n d = (posL n (runsD s d (runsL s)))[(posL n (runsD s d (runsL s))).countP fun y => !decide (i ≤ y)]? := by
  have h1 := asc_drop i _ (posL_asc s n d)
  have h2 : ∀ (l : List Nat) (k : Nat), l[k]? = (l.drop k).head? := fun l k => by rw [List.head?_drop]
  rw [h2, h1]
  unfold laterA
  rw [later_head]
  have h3 := runs_from s i hb s.size 0 (Nat.zero_le _) (by omega)
  rw [← h3]
  congr 1
  unfold posL runsD runsL
  rw [List.filter_map, List.filter_filter, List.filter_filter, List.filter_filter, List.filter_filter]
  congr 1
  refine List.filter_congr fun p hp => ?_
  show _ = _
  simp only [Function.comp]
  cases (p.2 == n) <;> cases (!d || dolAt s (p.1 + p.2)) <;> cases (decide (i ≤ p.1)) <;> rfl
end Go.Pub
namespace Go.Pub
open Go.RowKit Go.Maps
def numsV (l : List Nat) : List Value := l.map fun x : Nat => Value.int .i64 x
/-- Block b is a map that holds at each number n the numbers f n; all lies in blocks of S. -/
def TickM (P : Program) (w : World) (S : Nat → Prop) (t : TypeId) (b : Nat) (f : Nat → List Nat) : Prop :=
  ∀ W : World, (∀ g, S g → W.heap[g]? = w.heap[g]?) → ∀ n : Nat, n ≤ 1000000 → ∃ A c, (Instr.lookup t (.map (some b)) (.int .i64 n) false).run P W = .ok (.slice A (f n).length c) W ∧ ReadsS W S 1 A (f n).length (numsV (f n))
theorem TickM.keep {P : Program} {w w' : World} {S S' : Nat → Prop} {t : TypeId} {b : Nat} {f : Nat → List Nat} (h : TickM P w S t b f) (hk : ∀ g, S g → w'.heap[g]? = w.heap[g]?) (hS : ∀ g, S g → S' g) : TickM P w' S' t b f := by
  intro W hW n hn
  obtain ⟨A, c, h1, h2⟩ := h W (fun g hg => (hW g (hS g hg)).trans (hk g hg)) n hn
  exact ⟨A, c, h1, h2.keep (fun _ _ => rfl) hS⟩
/-- What a map's datum holds at each number. -/
def itemsD {H : Type} (d : DataW H) : List (DataW H) := match d with
  | .slice es _ => es
  | _ => []
def HoldsN {H : Type} (D : DataW H) (f : Nat → List Nat) : Prop := ∀ n : Nat, itemsD (D.atKey (.int .i64 n) .nil) = Go.ChangeShapes.lits .i64 ((f n).map fun x : Nat => (x : Int))
theorem lits_inj {H : Type} : ∀ {a b : List Int}, Go.ChangeShapes.lits (H := H) .i64 a = Go.ChangeShapes.lits .i64 b → a = b := by
  intro a b h
  unfold Go.ChangeShapes.lits at h
  exact (List.map_inj_right (fun x y hxy => by injection hxy with h1; injection h1)).1 h
theorem items_row {H : Type} {w : World} {base : Nat} {e : TypeId} {v : Value} {zs : List Int} (h : w.ownsInts base e .i64 v zs) : itemsD (rowDatum (H := H) .i64 v zs) = Go.ChangeShapes.lits .i64 zs := by
  rcases h.datum (H := H) with ⟨h1, rfl⟩ | h1 <;> rw [h1]
  · rfl
  · rfl
end Go.Pub
namespace Go.Proofs.YtcjkgmfidkgamaaGreatDoor
open Go.RowKit Go.Pub Go.Maps
/-- A map of groups, read later. -/
theorem tick_groups {H : Type} {P : Program} {w : World} {k E t : TypeId} {base : Nat} {e : TypeId} {b m : Nat} {D : DataW H} {f : Nat → List Nat} {B : Nat} (h : w.ownsGroups P k base e .i64 b m D) (K : Keyed P k) (ht : P.underlying t = some (.map k E)) (hz : ∀ W, (zeroValue E).run P W = .ok (.slice none 0 0) W)
    (hk : ∀ n : Nat, n ≤ 1000000 → keyOf P k (.int .i64 n) = some (.int .i64 n)) (hf : HoldsN D f) (hB : B ≤ base) (hBb : B ≤ b) : TickM P w (Rg B w) t b f := by
  intro W hW n hn
  obtain ⟨es, clock, hb, F, hs, rfl, hbb, hlen, hap⟩ := h
  have hlt : b < w.heap.size := (Array.getElem?_eq_some_iff.1 hb).1
  have hb' : W.heap[b]? = some (.map es clock) := (hW b ⟨hBb, hlt⟩).trans hb
  have hn' := hf n
  rcases Maps.fit_look false K ht (hz W) hb' F (hk n hn) with ⟨hrun, _, hat⟩ | ⟨e0, y, hm0, h3, hrun, hR, hat, _⟩
  · rw [hat] at hn'
    have h0 : f n = [] := by
      have := lits_inj (H := H) (a := []) (b := (f n).map fun x : Nat => (x : Int)) hn'
      cases hq : f n with
      | nil => rfl
      | cons a l => rw [hq] at this; cases this
    refine ⟨none, 0, ?_, ?_⟩
    · rw [h0]; exact hrun
    · rw [h0]; exact ReadsS.none_
  · obtain ⟨zs, ho, rfl⟩ := rowElem_inv hR
    rw [hat, items_row ho] at hn'
    have hz2 := lits_inj hn'
    have hv : ∃ A c, e0.val = .slice A zs.length c := by
      rcases ho.1.2 with ⟨hv, h0⟩ | ⟨g, cap, cur, hv, _⟩
      · exact ⟨none, 0, by rw [hv, h0]⟩
      · exact ⟨_, _, hv⟩
    obtain ⟨A, c, hv⟩ := hv
    have ho1 := ho.1
    rw [hv] at ho1 hrun
    have hrd := ReadsS.of_own ho1
    subst hz2
    rw [List.length_map] at hrd hrun
    refine ⟨A, c, hrun, ?_⟩
    have e1 : numsV (f n) = ((f n).map fun x : Nat => (x : Int)).map (Value.int .i64) := by unfold numsV; rw [List.map_map]; rfl
    rw [e1]
    exact hrd.keep (fun g hg => hW g ⟨Nat.le_trans hB hg.1, hg.2⟩) fun g hg => ⟨Nat.le_trans hB hg.1, hg.2⟩
end Go.Proofs.YtcjkgmfidkgamaaGreatDoor
namespace Go.Pub
open Go.Maps
theorem HoldsN.made {H : Type} : HoldsN (.map [] : DataW H) fun _ => [] := fun n => by
  show itemsD (DataW.atKey (.map []) (.int .i64 n) .nil) = []
  rfl
theorem HoldsN.put {H : Type} {D : DataW H} {f : Nat → List Nat} {w : World} {base : Nat} {e : TypeId} {v : Value} {zs : List Int} (h : HoldsN D f) (hm : IsMap D) (n x : Nat) (ho : w.ownsInts base e .i64 v (zs ++ [(x : Int)])) (hz : zs = (f n).map fun x : Nat => (x : Int)) :
    HoldsN (D.put (.int .i64 n) (rowDatum .i64 v (zs ++ [(x : Int)]))) fun m => if m = n then f n ++ [x] else f m := by
  intro m
  show itemsD _ = Go.ChangeShapes.lits .i64 ((if m = n then f n ++ [x] else f m).map fun x : Nat => (x : Int))
  by_cases hmn : m = n
  · subst hmn
    rw [if_pos rfl, Maps.atKey_put_same hm (show WideAt.IsKeyLit (.int .i64 m) from trivial), items_row ho, hz, List.map_append]; rfl
  · rw [if_neg hmn, Maps.atKey_put_other (by intro e; injection e with _ e1; exact hmn (by omega))]
    exact h m
/-- What is held at a number, out of what a look-up hands over. -/
theorem HoldsN.row {H : Type} {D : DataW H} {f : Nat → List Nat} {w : World} {base : Nat} {e : TypeId} {v : Value} {zs : List Int} (h : HoldsN D f) {n : Nat} (hat : D.atKey (.int .i64 n) .nil = rowDatum .i64 v zs) (ho : w.ownsInts base e .i64 v zs) : zs = (f n).map fun x : Nat => (x : Int) := by
  have := h n
  rw [hat, items_row ho] at this
  exact lits_inj this
end Go.Pub
namespace Go.Pub
/-- The first of ascending numbers that is at least x, or -1. -/
def laterV (l : List Nat) (x : Nat) : Int := match l[l.countP fun y => !decide (x ≤ y)]? with
  | some y => y
  | none => -1
end Go.Pub
namespace Go.Proofs.YtcjkgmfidkgamaaGreatDoor
open Go.RowKit Go.Pub
theorem search_any (w : World) (S : Nat → Prop) (A : Option Addr) (c : Nat) (l : List Nat) (x : Nat) (hr : ReadsS w S 1 A l.length (numsV l)) (hl : l.length ≤ 1000000) (ha : l.Pairwise (· < ·)) :
    Calls Tryz.prog 148 #[.slice A l.length c, .int .i64 x] w fun e w' => e = .returned (.int .i64 (l.countP fun y => !decide (x ≤ y) : Nat)) ∧ Below w.heap.size w w' := by
  rcases Nat.eq_zero_or_pos l.length with h0 | h0
  · have hn : l = [] := List.length_eq_zero_iff.1 h0
    subst hn
    exact Any.sort_SearchInts_none Tryz.searchInts A c x w
  · obtain ⟨b, off, rfl, hS, hc⟩ := hr.row h0 (by decide)
    have hsz : (l.map fun y : Nat => (y : Int)).toArray.size = l.length := by simp
    have hb : b < w.heap.size := World.block_lt_of_cell? _ _ (hc 0 (.int .i64 (l[0] : Nat)) (by unfold numsV; rw [List.getElem?_map, List.getElem?_eq_getElem h0]; rfl))
    have hg : ∀ i, (h : i < l.length) → (l.map fun y : Nat => (y : Int)).toArray[i]! = (l[i] : Int) := fun i h => by
      rw [getElem!_pos _ i (by rw [hsz]; exact h)]; simp
    have h := Any.sort_SearchInts Tryz.searchInts b off c (l.map fun y : Nat => (y : Int)).toArray x w (fun i hi => by
        rw [hsz] at hi
        rw [hg i hi]
        exact hc i _ (by unfold numsV; rw [List.getElem?_map, List.getElem?_eq_getElem hi]; rfl)) hb (by rw [hsz]; omega) (fun p q hpq hq hx => by
        rw [hsz] at hq
        rw [hg q hq]
        rw [hg p (by omega)] at hx
        have hx' := of_decide_eq_true hx
        apply decide_eq_true
        rcases Nat.lt_or_ge p q with h | h
        · have := List.pairwise_iff_getElem.1 ha p q (by omega) hq h
          omega
        · have : p = q := by omega
          subst this; exact hx')
    rw [hsz] at h
    have e1 : (l.map fun y : Nat => (y : Int)).toArray.toList.countP (fun y => !decide ((x : Int) ≤ y)) = l.countP fun y => !decide (x ≤ y) := by
      rw [List.countP_map]
      congr 1
      funext y
      simp
    rw [e1] at h
    exact h
set_option maxRecDepth 100000 in
set_option maxHeartbeats 1000000 in
theorem s_later (w : World) (S : Nat → Prop) (A : Option Addr) (c : Nat) (l : List Nat) (x : Nat) (hr : ReadsS w S 1 A l.length (numsV l)) (hl : l.length ≤ 1000000) (ha : l.Pairwise (· < ·)) :
    Calls Tryz.prog 121 #[.slice A l.length c, .int .i64 x] w fun e w' => e = .returned (.int .i64 (laterV l x)) ∧ Below w.heap.size w w' := by
  have HS := Lib.hid (search_any w S A c l x hr hl ha)
  have HV : Hid (laterV l x = match l[l.countP fun y => !decide (x ≤ y)]? with | some y => (y : Int) | none => -1) := Lib.hid rfl
  generalize laterV l x = V at *
  generalize (l.countP fun y => !decide (x ≤ y)) = k at *
  by_cases hk : k < l.length
  · obtain ⟨b, off, rfl, hSb, hc⟩ := hr.row (by omega) (by decide)
    have hck := hc k (.int .i64 (l[k] : Nat)) (by unfold numsV; rw [List.getElem?_map, List.getElem?_eq_getElem hk]; rfl)
    have hb := World.block_lt_of_cell? _ _ hck
    have HF : Hid (V = (l[k] : Int)) := Lib.hid (by rw [HV.out, List.getElem?_eq_getElem hk])
    have Hck := Lib.hid hck
    generalize l[k] = y at *
    clear hc hck hr HV
    go_enter Tryz.func121, Tryz.ntmps121
    go_wp2_with fail
    ((with_reducible refine HS.out.mono ?_))
    rintro e w1 ⟨rfl, b1⟩
    have hc1 : w1.cell? ⟨b, off + k, none⟩ = some (.int .i64 y) := (b1.cell (p := ⟨b, off + k, none⟩) hb).trans Hck.out
    go_wp2_with fail
    go_ret
    exact ⟨ret_int HF.out.symm, b1⟩
  · have HF : Hid (V = -1) := Lib.hid (by rw [HV.out, List.getElem?_eq_none (by omega)])
    clear hr HV
    go_enter Tryz.func121, Tryz.ntmps121
    go_wp2_with fail
    ((with_reducible refine HS.out.mono ?_))
    rintro e w1 ⟨rfl, b1⟩
    go_wp2_with fail
    go_ret
    exact ⟨ret_int HF.out.symm, b1⟩

end Go.Proofs.YtcjkgmfidkgamaaGreatDoor
namespace Go.Pub
/-- The beginnings of the runs of n backticks. -/
def tickL (s : ByteArray) (d : Bool) (n : Nat) : List Nat := posL n (runsD s d (runsL s))
theorem tickL_len (s : ByteArray) (d : Bool) (n : Nat) : (tickL s d n).length ≤ s.size := by
  unfold tickL posL runsD
  have h1 := runsF_len s s.size 0
  rw [List.length_map]
  refine Nat.le_trans (List.length_filter_le _ _) (Nat.le_trans (List.length_filter_le _ _) ?_)
  exact h1
theorem laterV_eq (s : ByteArray) (d : Bool) (n i : Nat) (hb : bnd s i) : laterV (tickL s d n) i = match laterA s i n d with | some k => (k : Int) | none => -1 := by
  rw [later_pos s n d i hb]; rfl
end Go.Pub
namespace Go.Proofs.YtcjkgmfidkgamaaGreatDoor
open Go.RowKit Go.Pub
/-- A reader of pieces: its string, and its two maps. -/
structure RdrW (w : World) (S : Nat → Prop) (s : ByteArray) (b1 b2 : Nat) : Prop where
  all : TickM Tryz.prog w S 74 b1 (tickL s false)
  dol : TickM Tryz.prog w S 74 b2 (tickL s true)
def rdrV (s : ByteArray) (b1 b2 : Nat) : Value := .agg #[.string s, .map (some b1), .map (some b2)]
theorem RdrW.keep {w w' : World} {S S' : Nat → Prop} {s : ByteArray} {b1 b2 : Nat} (h : RdrW w S s b1 b2) (hk : ∀ g, S g → w'.heap[g]? = w.heap[g]?) (hS : ∀ g, S g → S' g) : RdrW w' S' s b1 b2 := ⟨h.all.keep hk hS, h.dol.keep hk hS⟩
set_option maxRecDepth 100000 in
set_option maxHeartbeats 4000000 in
theorem s_code (s : ByteArray) (i b1 b2 : Nat) (m : Int) (S : Nat → Prop) (w : World) (hs : s.size ≤ 1000000) (hi : i < s.size) (h96 : bt s i = 96) (hW : RdrW w S s b1 b2) (hS : ∀ g, S g → g < w.heap.size) (hm : w.cell? ⟨0, 0, none⟩ = some (.int .i64 m)) :
    Calls Tryz.prog 79 #[rdrV s b1 b2, .int .i64 i] w (InPost (codeI s i) w) := by
  have h0w : 0 < w.heap.size := World.block_lt_of_cell? _ _ hm
  have HR := Lib.hid fun W => s_runEnd s i W hs hi
  have hre := runE_tick h96
  have hbn := bnd_runE h96
  rw [hre] at HR hbn
  have hle := runF_le s i tick
  have hL := laterV_eq s false (runF s i tick) (i + runF s i tick) hbn
  have hLb : ∀ k, laterA s (i + runF s i tick) (runF s i tick) false = some k → i + runF s i tick ≤ k ∧ k < s.size := fun k h => ⟨(laterA_spec h).1, (laterA_spec h).2.1⟩
  have HT : Hid (∀ W : World, (∀ g, S g → W.heap[g]? = w.heap[g]?) → ∃ A c, (Instr.lookup 74 (.map (some b1)) (.int .i64 (runF s i tick : Nat)) false).run Tryz.prog W = .ok (.slice A (tickL s false (runF s i tick)).length c) W ∧ Calls Tryz.prog 121 #[.slice A (tickL s false (runF s i tick)).length c, .int .i64 (i + runF s i tick : Nat)] W fun e w' => e = .returned (.int .i64 (laterV (tickL s false (runF s i tick)) (i + runF s i tick))) ∧ Below W.heap.size W w') := Lib.hid fun W hWg => by
    obtain ⟨A, c, h1, h2⟩ := hW.all W hWg (runF s i tick) (by omega)
    exact ⟨A, c, h1, s_later W S A c _ _ h2 (Nat.le_trans (tickL_len _ _ _) hs) (posL_asc s _ _)⟩
  rw [hL] at HT
  have hbx : ∀ W0 : World, Below (w.heap.size + 2) ((w.alloc (.cells #[.string s, .map (some b1), .map (some b2)] 79)).alloc (.cells zIn 34)) W0 → Blk W0 w.heap.size 79 #[.string s, .map (some b1), .map (some b2)] ∧ Blk W0 (w.heap.size + 1) 34 zIn ∧ Below w.heap.size w W0 ∧ (∀ g, S g → W0.heap[g]? = w.heap[g]?) ∧ W0.cell? ⟨0, 0, none⟩ = some (.int .i64 m) := fun W0 hb => by
    have hw0 : Below w.heap.size w W0 := (((Below.refl _ _).alloc (Nat.le_refl _) _).alloc (by simp) _).trans (hb.mono (by omega))
    refine ⟨((Blk.new w _ _).alloc _).below hb (by omega), ?_, hw0, fun g hg => hw0.block g (hS g hg), (hw0.cell (p := ⟨0, 0, none⟩) h0w).trans hm⟩
    have := Blk.new (w.alloc (.cells #[.string s, .map (some b1), .map (some b2)] 79)) 34 zIn
    rw [World.size_alloc] at this
    exact this.below hb (by omega)
  have HBX := Lib.hid hbx
  have HC : Hid (∀ (k : Nat) (W : World), W.cell? ⟨0, 0, none⟩ = some (.int .i64 m) → Calls Tryz.prog 122 #[.string (s.extract (i + runF s i tick) k)] W fun e w' => e = .returned (.string (mk (codeT (sub s (i + runF s i tick) k)))) ∧ Below W.heap.size W w') := Lib.hid fun k W hmW => by
    have := s_content (s.extract (i + runF s i tick) k) m W (by rw [ByteArray.size_extract]; omega) hmW
    rwa [bytesL_sub] at this
  obtain ⟨R, hR⟩ : ∃ R, R = codeI s i := ⟨_, rfl⟩
  rw [← hR]
  unfold codeI at hR
  have HQ := Lib.hid hR
  have hnz : runF s i tick ≤ 1000000 := by omega
  clear hR hbn hL hbx hre hW hm hS
  generalize laterA s (i + runF s i tick) (runF s i tick) false = la at *
  generalize hLL : (tickL s false (runF s i tick)).length = LL at *
  clear hLL
  generalize runF s i tick = n at *
  have e1 : (i : Int) + (n : Int) - (i : Int) = (n : Int) := by omega
  unfold rdrV
  go_enter Tryz.func79, Tryz.ntmps79
  go_wp2_with fail
  ((with_reducible refine (HR.out _).mono ?_))
  rintro e W1 ⟨rfl, q1⟩
  simp only [World.size_alloc] at q1
  obtain ⟨x1, x2, x3, x4, x5⟩ := HBX.out W1 q1
  obtain ⟨A, c, hlk, hcl⟩ := HT.out W1 x4
  have HCl := Lib.hid hcl
  have r0 : W1.cell? ⟨w.heap.size, 0, none⟩ = some (.string s) := x1.cell 0
  have r1 : W1.cell? ⟨w.heap.size, 1, none⟩ = some (.map (some b1)) := x1.cell 1
  have X1 := Lib.hid q1
  have hz1 := x2.lt
  clear hcl x1 x2 x3 x4 x5 q1
  go_wp2_with fail
  (refine HCl.out.mono ?_)
  rintro e W2 ⟨rfl, q2⟩
  have X2 := Lib.hid (X1.out.trans (q2.mono (by omega)))
  clear r0 r1 hlk HCl X1 q2
  obtain ⟨x1, x2, x3, x4, x5⟩ := HBX.out W2 X2.out
  have hz2 := x2.lt
  have HB2 := Lib.hid x2
  have HW2 := Lib.hid x3
  cases la with
  | none =>
    have HF : Hid (R = none) := Lib.hid HQ.out
    obtain ⟨c0, c1, c2, c3, c4, c5, c6, c7, c8, c9, f0, f1, f2, f3, f4, f5, f6, f7, f8, f9⟩ := in_facts x2
    clear HQ HC HT HBX x1 x2 x3 x4 x5
    go_wp2_with fail
    exact in_ret Tryz.results79 (blk10 HB2.out _ _ _ _ _ _ _ _ _ _) rfl rfl rfl (in_none HF.out (below10 HW2.out (by omega) _ _ _ _ _ _ _ _ _ _))
  | some k =>
    obtain ⟨hk1, hk2⟩ := hLb k rfl
    have HF : Hid (R = some (spn 4 (mk (codeT (sub s (i + n) k))), k + n)) := Lib.hid HQ.out
    have HCk := Lib.hid (HC.out k W2 x5)
    have r0 : W2.cell? ⟨w.heap.size, 0, none⟩ = some (.string s) := x1.cell 0
    generalize mk (codeT (sub s (i + n) k)) = Y at *
    have hkn : (0 : Int) ≤ (k : Int) := by omega
    clear HQ HC HT x1 x2 x3 x4 x5
    go_wp2_with fail
    (refine HCk.out.mono ?_)
    rintro e W3 ⟨rfl, q3⟩
    have X3 := Lib.hid (X2.out.trans (q3.mono (by omega)))
    obtain ⟨x1, x2, x3, x4, x5⟩ := HBX.out W3 X3.out
    have HB3 := Lib.hid x2
    have HW3 := Lib.hid x3
    obtain ⟨c0, c1, c2, c3, c4, c5, c6, c7, c8, c9, f0, f1, f2, f3, f4, f5, f6, f7, f8, f9⟩ := in_facts x2
    clear r0 HBX x1 x2 x3 x4 x5 q3 HCk
    go_wp2_with fail
    exact in_ret Tryz.results79 (blk10 HB3.out _ _ _ _ _ _ _ _ _ _) rfl rfl rfl (in_some HF.out rfl rfl (below10 HW3.out (by omega) _ _ _ _ _ _ _ _ _ _) rfl (by omega))

set_option maxRecDepth 100000 in
set_option maxHeartbeats 4000000 in
theorem s_math (s : ByteArray) (i b1 b2 : Nat) (m : Int) (S : Nat → Prop) (w : World) (hs : s.size ≤ 1000000) (hi : i < s.size) (hW : RdrW w S s b1 b2) (hS : ∀ g, S g → g < w.heap.size) (hm : w.cell? ⟨0, 0, none⟩ = some (.int .i64 m)) :
    Calls Tryz.prog 77 #[rdrV s b1 b2, .int .i64 i] w (InPost (mathI s i) w) := by
  by_cases hc : i + 1 < s.size ∧ bt s (i + 1) = 96
  · obtain ⟨hi1, h96⟩ := hc
    have h0w : 0 < w.heap.size := World.block_lt_of_cell? _ _ hm
    have HR := Lib.hid fun W => s_runEnd s (i + 1) W hs hi1
    have hre := runE_tick h96
    have hbn := bnd_runE h96
    rw [hre] at HR hbn
    have hle := runF_le s (i + 1) tick
    have hL := laterV_eq s true (runF s (i + 1) tick) (i + 1 + runF s (i + 1) tick) hbn
    have hLb : ∀ k, laterA s (i + 1 + runF s (i + 1) tick) (runF s (i + 1) tick) true = some k → i + 1 + runF s (i + 1) tick ≤ k ∧ k < s.size := fun k h => ⟨(laterA_spec h).1, (laterA_spec h).2.1⟩
    have HT : Hid (∀ W : World, (∀ g, S g → W.heap[g]? = w.heap[g]?) → ∃ A c, (Instr.lookup 74 (.map (some b2)) (.int .i64 (runF s (i + 1) tick : Nat)) false).run Tryz.prog W = .ok (.slice A (tickL s true (runF s (i + 1) tick)).length c) W ∧ Calls Tryz.prog 121 #[.slice A (tickL s true (runF s (i + 1) tick)).length c, .int .i64 (i + 1 + runF s (i + 1) tick : Nat)] W fun e w' => e = .returned (.int .i64 (laterV (tickL s true (runF s (i + 1) tick)) (i + 1 + runF s (i + 1) tick))) ∧ Below W.heap.size W w') := Lib.hid fun W hWg => by
      obtain ⟨A, c, h1, h2⟩ := hW.dol W hWg (runF s (i + 1) tick) (by omega)
      exact ⟨A, c, h1, s_later W S A c _ _ h2 (Nat.le_trans (tickL_len _ _ _) hs) (posL_asc s _ _)⟩
    rw [hL] at HT
    have hbx : ∀ W0 : World, Below (w.heap.size + 2) ((w.alloc (.cells #[.string s, .map (some b1), .map (some b2)] 79)).alloc (.cells zIn 34)) W0 → Blk W0 w.heap.size 79 #[.string s, .map (some b1), .map (some b2)] ∧ Blk W0 (w.heap.size + 1) 34 zIn ∧ Below w.heap.size w W0 ∧ (∀ g, S g → W0.heap[g]? = w.heap[g]?) ∧ W0.cell? ⟨0, 0, none⟩ = some (.int .i64 m) := fun W0 hb => by
      have hw0 : Below w.heap.size w W0 := (((Below.refl _ _).alloc (Nat.le_refl _) _).alloc (by simp) _).trans (hb.mono (by omega))
      refine ⟨((Blk.new w _ _).alloc _).below hb (by omega), ?_, hw0, fun g hg => hw0.block g (hS g hg), (hw0.cell (p := ⟨0, 0, none⟩) h0w).trans hm⟩
      have := Blk.new (w.alloc (.cells #[.string s, .map (some b1), .map (some b2)] 79)) 34 zIn
      rw [World.size_alloc] at this
      exact this.below hb (by omega)
    have HBX := Lib.hid hbx
    have HC : Hid (∀ (k : Nat) (W : World), W.cell? ⟨0, 0, none⟩ = some (.int .i64 m) → Calls Tryz.prog 122 #[.string (s.extract (i + 1 + runF s (i + 1) tick) k)] W fun e w' => e = .returned (.string (mk (codeT (sub s (i + 1 + runF s (i + 1) tick) k)))) ∧ Below W.heap.size W w') := Lib.hid fun k W hmW => by
      have := s_content (s.extract (i + 1 + runF s (i + 1) tick) k) m W (by rw [ByteArray.size_extract]; omega) hmW
      rwa [bytesL_sub] at this
    obtain ⟨R, hR⟩ : ∃ R, R = mathI s i := ⟨_, rfl⟩
    rw [← hR]
    unfold mathI at hR
    rw [if_pos ⟨hi1, h96⟩] at hR
    have HQ := Lib.hid hR
    have hnz : runF s (i + 1) tick ≤ 1000000 := by omega
    clear hR hbn hL hbx hre hW hm hS
    generalize laterA s (i + 1 + runF s (i + 1) tick) (runF s (i + 1) tick) true = la at *
    generalize hLL : (tickL s true (runF s (i + 1) tick)).length = LL at *
    clear hLL
    generalize runF s (i + 1) tick = n at *
    have e1 : (i : Int) + 1 + (n : Int) - (i : Int) = (n : Int) + 1 := by omega
    have e2 : (n : Int) + 1 - 1 = (n : Int) := by omega
    have hg96 := get_bt s (i + 1) hi1
    rw [h96] at hg96
    unfold rdrV
    go_enter Tryz.func77, Tryz.ntmps77
    go_wp2_with fail
    (refine (HR.out _).mono ?_)
    rintro e W1 ⟨rfl, q1⟩
    simp only [World.size_alloc] at q1
    obtain ⟨x1, x2, x3, x4, x5⟩ := HBX.out W1 q1
    obtain ⟨A, c, hlk, hcl⟩ := HT.out W1 x4
    have HCl := Lib.hid hcl
    have r0 : W1.cell? ⟨w.heap.size, 0, none⟩ = some (.string s) := x1.cell 0
    have r1 : W1.cell? ⟨w.heap.size, 2, none⟩ = some (.map (some b2)) := x1.cell 2
    have X1 := Lib.hid q1
    have hz1 := x2.lt
    clear hcl x1 x2 x3 x4 x5 q1
    go_wp2_with fail
    (refine HCl.out.mono ?_)
    rintro e W2 ⟨rfl, q2⟩
    have X2 := Lib.hid (X1.out.trans (q2.mono (by omega)))
    clear r0 r1 hlk HCl X1 q2
    obtain ⟨x1, x2, x3, x4, x5⟩ := HBX.out W2 X2.out
    have hz2 := x2.lt
    have HB2 := Lib.hid x2
    have HW2 := Lib.hid x3
    cases la with
    | none =>
      have HF : Hid (R = none) := Lib.hid HQ.out
      obtain ⟨c0, c1, c2, c3, c4, c5, c6, c7, c8, c9, f0, f1, f2, f3, f4, f5, f6, f7, f8, f9⟩ := in_facts x2
      clear HQ HC HT HBX x1 x2 x3 x4 x5
      go_wp2_with fail
      exact in_ret Tryz.results77 (blk10 HB2.out _ _ _ _ _ _ _ _ _ _) rfl rfl rfl (in_none HF.out (below10 HW2.out (by omega) _ _ _ _ _ _ _ _ _ _))
    | some k =>
      obtain ⟨hk1, hk2⟩ := hLb k rfl
      have HF : Hid (R = some (spn 5 (mk (codeT (sub s (i + 1 + n) k))), k + n + 1)) := Lib.hid HQ.out
      have HCk := Lib.hid (HC.out k W2 x5)
      have r0 : W2.cell? ⟨w.heap.size, 0, none⟩ = some (.string s) := x1.cell 0
      generalize mk (codeT (sub s (i + 1 + n) k)) = Y at *
      have hkn : (0 : Int) ≤ (k : Int) := by omega
      clear HQ HC HT x1 x2 x3 x4 x5
      go_wp2_with fail
      (refine HCk.out.mono ?_)
      rintro e W3 ⟨rfl, q3⟩
      have X3 := Lib.hid (X2.out.trans (q3.mono (by omega)))
      obtain ⟨x1, x2, x3, x4, x5⟩ := HBX.out W3 X3.out
      have HB3 := Lib.hid x2
      have HW3 := Lib.hid x3
      obtain ⟨c0, c1, c2, c3, c4, c5, c6, c7, c8, c9, f0, f1, f2, f3, f4, f5, f6, f7, f8, f9⟩ := in_facts x2
      clear r0 HBX x1 x2 x3 x4 x5 q3 HCk
      go_wp2_with fail
      exact in_ret Tryz.results77 (blk10 HB3.out _ _ _ _ _ _ _ _ _ _) rfl rfl rfl (in_some HF.out rfl rfl (below10 HW3.out (by omega) _ _ _ _ _ _ _ _ _ _) rfl (by omega))
  · have HF : Hid (mathI s i = none) := Lib.hid (by unfold mathI; rw [if_neg hc])
    generalize mathI s i = R at *
    unfold rdrV
    by_cases hi1 : i + 1 < s.size
    · have hg := get_bt s (i + 1) hi1
      have n1 : ((bt s (i + 1) : Int) != 96) = true := bne_iff_ne.2 (fun e => hc ⟨hi1, by omega⟩)
      clear hc hW hm
      generalize bt s (i + 1) = b at *
      go_enter Tryz.func77, Tryz.ntmps77
      go_wp2_with fail
      refine in_ret Tryz.results77 ?_ rfl rfl rfl (in_none HF.out (((Below.refl _ w).alloc (Nat.le_refl _) _).alloc (by simp) _))
      have := Blk.new (w.alloc (.cells #[.string s, .map (some b1), .map (some b2)] 79)) 34 zIn
      rw [World.size_alloc] at this
      exact this
    · clear hc hW hm
      go_enter Tryz.func77, Tryz.ntmps77
      go_wp2_with fail
      refine in_ret Tryz.results77 ?_ rfl rfl rfl (in_none HF.out (((Below.refl _ w).alloc (Nat.le_refl _) _).alloc (by simp) _))
      have := Blk.new (w.alloc (.cells #[.string s, .map (some b1), .map (some b2)] 79)) 34 zIn
      rw [World.size_alloc] at this
      exact this

end Go.Proofs.YtcjkgmfidkgamaaGreatDoor
namespace Go.Pub
/-- The code point that ends at i and has at most n bytes. -/
def befF (s : ByteArray) (i : Nat) : Nat → Int
  | 0 => if bt s (i - 1) < 128 then bt s (i - 1) else 65533
  | 1 => if bt s (i - 1) < 128 then bt s (i - 1) else 65533
  | n + 2 => if n + 2 ≤ i ∧ (Utf8.decode s (i - (n + 2))).2 = n + 2 then (Utf8.decode s (i - (n + 2))).1 else befF s i (n + 1)
theorem befC_F (s : ByteArray) (i : Nat) (h : i ≠ 0) : befC s i = befF s i 4 := by
  unfold befC
  rw [if_neg h]
  unfold befF befF befF befF
  rfl
theorem dec_alone (s : ByteArray) (h : s.size = 1) : nextAt s 0 = (if bt s 0 < 128 then (bt s 0 : Int) else 65533, 1) := by
  have h0 : 0 < s.size := by omega
  have e : nextAt s ((0 : Nat) : Int) = _ := nextAt_in s 0 h0
  rw [show (0 : Int) = ((0 : Nat) : Int) from rfl, e]
  by_cases hb : bt s 0 < 128
  · rw [dec_one s 0 hb, if_pos hb]; rfl
  · rw [if_neg hb]
    have hd := dec_bd s 0 h0
    have hc := decodeN_cases ((bytesL s).drop 0).length (atL ((bytesL s).drop 0) 0) (atL ((bytesL s).drop 0) 1) (atL ((bytesL s).drop 0) 2) (atL ((bytesL s).drop 0) 3)
    have hdd : Utf8.decode s 0 = decL ((bytesL s).drop 0) := decode_decL s 0
    have h1 : bt s 0 = atL ((bytesL s).drop 0) 0 := bt_atL s 0 0
    unfold decL at hdd
    rw [h1] at hb
    rcases hc with c | ⟨c0, c⟩ | ⟨c0, c⟩ | ⟨c0, c⟩ | ⟨c0, c⟩
    · rw [hdd, c]; rfl
    · omega
    · rw [hdd, c] at hd; simp only [] at hd; omega
    · rw [hdd, c] at hd; simp only [] at hd; omega
    · rw [hdd, c] at hd; simp only [] at hd; omega
theorem extract_bt (s : ByteArray) (i k : Nat) (h : k ≤ s.size) (j : Nat) (hj : i + j < k) : bt (s.extract i k) j = bt s (i + j) := by
  have hs : j < (s.extract i k).size := by rw [ByteArray.size_extract]; omega
  rw [← get_bt _ j hs, ← get_bt s (i + j) (by omega), ByteArray.getElem_extract]
end Go.Pub
namespace Go.Proofs.YtcjkgmfidkgamaaGreatDoor
open Go.RowKit Go.Pub
set_option maxRecDepth 100000 in
set_option maxHeartbeats 1000000 in
theorem s_before (s : ByteArray) (i : Nat) (w : World) (hs : s.size ≤ 1000000) (hi : i ≤ s.size) : Calls Tryz.prog 123 #[.string s, .int .i64 i] w fun e w' => e = .returned (.int .i64 (befC s i)) ∧ Below w.heap.size w w' := by
  by_cases h0 : i = 0
  · subst h0
    go_enter Tryz.func123, Tryz.ntmps123
    go_wp2_with fail
    go_ret
    exact ⟨rfl, Below.refl _ _⟩
  · have HB := Lib.hid (befC_F s i h0)
    have HN := Lib.hid fun (k : Nat) (hk : k < s.size) W => by
      have := next_any s (k : Int) W (by omega)
      rwa [nextAt_in s k hk] at this
    have hz : (s.extract (i - 1) i).size = 1 := by rw [ByteArray.size_extract]; omega
    have HL : Hid (∀ W, Calls Tryz.prog 85 #[.string (s.extract (i - 1) i), .int .i64 0] W (PairQuiet (befF s i 1) 1 W)) := Lib.hid fun W => by
      have := next_any (s.extract (i - 1) i) 0 W (by omega)
      rw [dec_alone _ hz, extract_bt s (i - 1) i hi 0 (by omega), Nat.add_zero] at this
      exact this
    have HS : Hid (∀ n, befF s i (n + 2) = if n + 2 ≤ i ∧ (Utf8.decode s (i - (n + 2))).2 = n + 2 then ((Utf8.decode s (i - (n + 2))).1 : Int) else befF s i (n + 1)) := Lib.hid fun n => rfl
    generalize befC s i = R at *
    have z0 : ((i : Int) == 0) = false := beq_eq_false_iff_ne.2 (by omega)
    have hi0 : 0 < i := by omega
    clear h0
    go_enter Tryz.func123, Tryz.ntmps123
    go_wp2_with fail
    go_loopw [5] (fun v wr => ∃ n : Nat, v = .int .i64 n ∧ 1 ≤ n ∧ n ≤ 4 ∧ Hid (R = befF s i n) ∧ Below w.heap.size w wr) (fun v _ => (intOf v).toNat)
    case atStart => exact ⟨4, rfl, by omega, by omega, HB, Below.refl _ _⟩
    case round =>
      obtain ⟨n, rfl, hn1, hn4, HR, hbw⟩ := hrel
      by_cases h1 : n = 1
      · subst h1
        have e1 : (i : Int) - 1 = ((i - 1 : Nat) : Int) := by omega
        have hsl : i - 1 ≤ i := by omega
        go_wp2_with fail
        (refine (HL.out _).mono ?_)
        rintro e w1 ⟨rfl, q, rfl⟩
        go_wp2_with fail
        go_ret
        exact ⟨ret_int (by rw [HR.out]), below_drewN hbw _⟩
      · obtain ⟨m, rfl⟩ : ∃ m, n = m + 2 := ⟨n - 2, by omega⟩
        have HSm := Lib.hid (HS.out m)
        by_cases hl : i < m + 2
        · have HR2 : Hid (R = befF s i (m + 1)) := Lib.hid (by rw [HR.out, HSm.out, if_neg (by omega)])
          go_wp2_with fail
          go_roundw
          case rel => exact ⟨m + 1, by go_num, by omega, by omega, HR2, hbw⟩
          case measure => simp [intOf]; omega
        · have e1 : (i : Int) - ((m + 2 : Nat) : Int) = ((i - (m + 2) : Nat) : Int) := by omega
          have HNm := Lib.hid (HN.out (i - (m + 2)) (by omega))
          rw [← e1] at HNm
          generalize Utf8.decode s (i - (m + 2)) = D at *
          by_cases hd : D.2 = m + 2
          · have z1 : ((D.2 : Int) == ((m + 2 : Nat) : Int)) = true := beq_iff_eq.2 (by omega)
            have HR2 : Hid (R = (D.1 : Int)) := Lib.hid (by rw [HR.out, HSm.out, if_pos ⟨by omega, hd⟩])
            clear hd
            go_wp2_with fail
            (refine (HNm.out _).mono ?_)
            rintro e w1 ⟨rfl, q, rfl⟩
            go_wp2_with fail
            go_ret
            exact ⟨ret_int (by rw [HR2.out]), below_drewN hbw _⟩
          · have z1 : ((D.2 : Int) == ((m + 2 : Nat) : Int)) = false := beq_eq_false_iff_ne.2 (by omega)
            have HR2 : Hid (R = befF s i (m + 1)) := Lib.hid (by rw [HR.out, HSm.out, if_neg (fun c => hd c.2)])
            clear hd
            go_wp2_with fail
            (refine (HNm.out _).mono ?_)
            rintro e w1 ⟨rfl, q, rfl⟩
            have hb2 := Lib.hid (below_drewN hbw q)
            generalize wr.drewN q = W2 at *
            go_wp2_with fail
            go_roundw
            case rel => exact ⟨m + 1, by go_num, by omega, by omega, HR2, hb2.out⟩
            case measure => simp [intOf]; omega

set_option maxRecDepth 100000 in
set_option maxHeartbeats 4000000 in
theorem s_flank (ch : ByteArray) (b a : Int) (w : World) : Calls Tryz.prog 23 #[.string ch, .int .i64 b, .int .i64 a] w fun e w' => e = .returned (.tuple #[.bool (flankL ch b a).1, .bool (flankL ch b a).2]) ∧ w = w' := by
  have HSb := Lib.hid fun W => space_any b W
  have HSa := Lib.hid fun W => space_any a W
  have HPb := Lib.hid fun W => punct_any b W
  have HPa := Lib.hid fun W => punct_any a W
  have HF : Hid (flankL ch b a = (
    let sb := decide (b < 0) || spaceB b
    let sa := decide (a < 0) || spaceB a
    let l := !sa && (!inB a punctL || sb || inB b punctL)
    let r := !sb && (!inB b punctL || sa || inB a punctL)
    if ch.toList = [42] ∨ ch.toList = [126] then (l, r)
    else if ch.toList = [95] then (l && (!r || inB b punctL), r && (!l || inB a punctL))
    else (false, false))) := Lib.hid rfl
  generalize flankL ch b a = F at *
  generalize inB b punctL = pb at *
  generalize inB a punctL = pa at *
  obtain ⟨sb, hsb⟩ : ∃ q, q = (decide (b < 0) || spaceB b) := ⟨_, rfl⟩
  obtain ⟨sa, hsa⟩ : ∃ q, q = (decide (a < 0) || spaceB a) := ⟨_, rfl⟩
  rw [← hsb, ← hsa] at HF
  have HSB := Lib.hid hsb
  have HSA := Lib.hid hsa
  clear hsb hsa
  generalize spaceB b = tb at *
  generalize spaceB a = ta at *
  go_enter Tryz.func23, Tryz.ntmps23
  go_upto_region 1 with fail
  go_cut [8] (fun s8 wx => s8 = .bool sb ∧ w = wx)
  case first =>
    by_cases h1 : b < 0
    · go_wp2_with fail
      go_meet
      case rel => exact ⟨by rw [HSB.out, decide_eq_true h1]; rfl, rfl⟩
    · go_wp2_with fail
      ((with_reducible refine (HSb.out _).mono ?_))
      rintro e w1 ⟨rfl, rfl⟩
      go_wp2_with fail
      go_meet
      case rel => exact ⟨by rw [HSB.out, decide_eq_false (by omega)]; rfl, rfl⟩
  case rest =>
  obtain ⟨rfl, rfl⟩ := hcut
  go_upto_region 2 with fail
  go_cut [9] (fun s9 wx => s9 = .bool sa ∧ w = wx)
  case first =>
    by_cases h1 : a < 0
    · go_wp2_with fail
      go_meet
      case rel => exact ⟨by rw [HSA.out, decide_eq_true h1]; rfl, rfl⟩
    · go_wp2_with fail
      ((with_reducible refine (HSa.out _).mono ?_))
      rintro e w1 ⟨rfl, rfl⟩
      go_wp2_with fail
      go_meet
      case rel => exact ⟨by rw [HSA.out, decide_eq_false (by omega)]; rfl, rfl⟩
  case rest =>
  obtain ⟨rfl, rfl⟩ := hcut
  clear HSB HSA HSb HSa
  obtain ⟨l, hl⟩ : ∃ q, q = (!sa && (!pa || sb || pb)) := ⟨_, rfl⟩
  obtain ⟨r, hr⟩ : ∃ q, q = (!sb && (!pb || sa || pa)) := ⟨_, rfl⟩
  simp only [← hl, ← hr] at HF
  go_upto_region 3 with fail
  go_cut [10] (fun s10 wx => s10 = .bool l ∧ w = wx)
  case first =>
    clear hr HF
    cases sb <;> cases sa <;> cases pb <;> cases pa <;> simp at hl <;> subst hl
    all_goals
      go_wp2_with (go_at_call 40; (first | with_reducible refine (HPa.out _).mono ?_ | with_reducible refine (HPb.out _).mono ?_); rintro e w1 ⟨rfl, rfl⟩)
      go_meet
      case rel => exact ⟨rfl, rfl⟩
  case rest =>
  obtain ⟨rfl, rfl⟩ := hcut
  clear hl
  go_upto_region 4 with fail
  go_cut [11] (fun s11 wx => s11 = .bool r ∧ w = wx)
  case first =>
    clear HF
    cases sb <;> cases sa <;> cases pb <;> cases pa <;> simp at hr <;> subst hr
    all_goals
      go_wp2_with (go_at_call 40; (first | with_reducible refine (HPa.out _).mono ?_ | with_reducible refine (HPb.out _).mono ?_); rintro e w1 ⟨rfl, rfl⟩)
      go_meet
      case rel => exact ⟨rfl, rfl⟩
  case rest =>
      obtain ⟨rfl, rfl⟩ := hcut
      clear hr
      by_cases c1 : ch.toList = [42]
      · have HG : Hid (F = (l, r)) := Lib.hid (by rw [HF.out, if_pos (.inl c1)])
        have z1 : (ch.toList == ([42] : List UInt8)) = true := beq_iff_eq.2 c1
        clear c1 HF
        go_wp2_with fail
        go_ret2
        exact ⟨by rw [HG.out]; rfl, rfl⟩
      · have z1 : (ch.toList == ([42] : List UInt8)) = false := beq_eq_false_iff_ne.2 c1
        by_cases c2 : ch.toList = [126]
        · have HG : Hid (F = (l, r)) := Lib.hid (by rw [HF.out, if_pos (.inr c2)])
          have z2 : (ch.toList == ([126] : List UInt8)) = true := beq_iff_eq.2 c2
          clear c1 c2 HF
          go_wp2_with fail
          go_ret2
          exact ⟨by rw [HG.out]; rfl, rfl⟩
        · have z2 : (ch.toList == ([126] : List UInt8)) = false := beq_eq_false_iff_ne.2 c2
          by_cases c3 : ch.toList = [95]
          · have HG : Hid (F = (l && (!r || pb), r && (!l || pa))) := Lib.hid (by rw [HF.out, if_neg (by simp [c1, c2]), if_pos c3])
            have z3 : (ch.toList == ([95] : List UInt8)) = true := beq_iff_eq.2 c3
            clear c1 c2 c3 HF
            cases l <;> cases r
            all_goals
              go_wp2_with (go_at_call 40; (first | with_reducible refine (HPa.out _).mono ?_ | with_reducible refine (HPb.out _).mono ?_); rintro e w1 ⟨rfl, rfl⟩)
              go_ret2
              exact ⟨by rw [HG.out]; simp, rfl⟩
          · have HG : Hid (F = (false, false)) := Lib.hid (by rw [HF.out, if_neg (by simp [c1, c2]), if_neg c3])
            have z3 : (ch.toList == ([95] : List UInt8)) = false := beq_eq_false_iff_ne.2 c3
            clear c1 c2 c3 HF
            go_wp2_with fail
            go_ret2
            exact ⟨by rw [HG.out]; rfl, rfl⟩

end Go.Proofs.YtcjkgmfidkgamaaGreatDoor
namespace Go.Proofs.YtcjkgmfidkgamaaGreatDoor
open Go.RowKit Go.Pub
/-- The cells of a piece. -/
def pcC (p : PcL) (A1 : Option Addr) (c1 : Nat) (A2 : Option Addr) (c2 : Nat) : Array Value :=
  #[.int .i64 p.kind, .int .i64 p.inl.kind, .string p.inl.text, .string p.inl.dest, .string p.inl.title, .string ⟨#[]⟩, .slice none 0 0, .slice none 0 0, .slice A1 p.inl.args.length c1, .slice A2 p.inl.cites.length c2, .slice none 0 0, .string p.ch, .int .i64 p.n, .bool p.opn, .bool p.clo, .bool p.img, .int .i64 p.bg, .int .i64 p.nd]
def zPc : Array Value := #[.int .i64 0, .int .i64 0, .string ⟨#[]⟩, .string ⟨#[]⟩, .string ⟨#[]⟩, .string ⟨#[]⟩, .slice none 0 0, .slice none 0 0, .slice none 0 0, .slice none 0 0, .slice none 0 0, .string ⟨#[]⟩, .int .i64 0, .bool false, .bool false, .bool false, .int .i64 0, .int .i64 0]
theorem pc_facts {W : World} {g : Nat} {T : TypeId} {x0 x1 x2 x3 x4 x5 x6 x7 x8 x9 x10 x11 x12 x13 x14 x15 x16 x17 : Value} (h : Blk W g T #[x0, x1, x2, x3, x4, x5, x6, x7, x8, x9, x10, x11, x12, x13, x14, x15, x16, x17]) : W.cell? ⟨g, 0, none⟩ = some x0 ∧ W.cell? ⟨g, 1, none⟩ = some x1 ∧ W.cell? ⟨g, 2, none⟩ = some x2 ∧ W.cell? ⟨g, 3, none⟩ = some x3 ∧ W.cell? ⟨g, 4, none⟩ = some x4 ∧ W.cell? ⟨g, 5, none⟩ = some x5 ∧ W.cell? ⟨g, 6, none⟩ = some x6 ∧ W.cell? ⟨g, 7, none⟩ = some x7 ∧ W.cell? ⟨g, 8, none⟩ = some x8 ∧ W.cell? ⟨g, 9, none⟩ = some x9 ∧ W.cell? ⟨g, 10, none⟩ = some x10 ∧ W.cell? ⟨g, 11, none⟩ = some x11 ∧ W.cell? ⟨g, 12, none⟩ = some x12 ∧ W.cell? ⟨g, 13, none⟩ = some x13 ∧ W.cell? ⟨g, 14, none⟩ = some x14 ∧ W.cell? ⟨g, 15, none⟩ = some x15 ∧ W.cell? ⟨g, 16, none⟩ = some x16 ∧ W.cell? ⟨g, 17, none⟩ = some x17 ∧ W.frozen? ⟨g, 0, none⟩ = false ∧ W.frozen? ⟨g, 1, none⟩ = false ∧ W.frozen? ⟨g, 2, none⟩ = false ∧ W.frozen? ⟨g, 3, none⟩ = false ∧ W.frozen? ⟨g, 4, none⟩ = false ∧ W.frozen? ⟨g, 5, none⟩ = false ∧ W.frozen? ⟨g, 6, none⟩ = false ∧ W.frozen? ⟨g, 7, none⟩ = false ∧ W.frozen? ⟨g, 8, none⟩ = false ∧ W.frozen? ⟨g, 9, none⟩ = false ∧ W.frozen? ⟨g, 10, none⟩ = false ∧ W.frozen? ⟨g, 11, none⟩ = false ∧ W.frozen? ⟨g, 12, none⟩ = false ∧ W.frozen? ⟨g, 13, none⟩ = false ∧ W.frozen? ⟨g, 14, none⟩ = false ∧ W.frozen? ⟨g, 15, none⟩ = false ∧ W.frozen? ⟨g, 16, none⟩ = false ∧ W.frozen? ⟨g, 17, none⟩ = false :=
  ⟨h.cell 0, h.cell 1, h.cell 2, h.cell 3, h.cell 4, h.cell 5, h.cell 6, h.cell 7, h.cell 8, h.cell 9, h.cell 10, h.cell 11, h.cell 12, h.cell 13, h.cell 14, h.cell 15, h.cell 16, h.cell 17, h.frozen 0, h.frozen 1, h.frozen 2, h.frozen 3, h.frozen 4, h.frozen 5, h.frozen 6, h.frozen 7, h.frozen 8, h.frozen 9, h.frozen 10, h.frozen 11, h.frozen 12, h.frozen 13, h.frozen 14, h.frozen 15, h.frozen 16, h.frozen 17⟩
theorem pc_size : (Tryz.prog.info? 36).map (·.size) = some 18 := by kernel_rfl
theorem pc_ret {F : Func} {a b : Nat} {W : World} {g : Nat} {x0 x1 x2 x3 x4 x5 x6 x7 x8 x9 x10 x11 x12 x13 x14 x15 x16 x17 : Value} {u : Value} {P : Ending → World → Prop} {act : Act} (hF : F.results = #[ResultVar.cell a 36, ResultVar.tmp b]) (hr : Blk W g 36 #[x0, x1, x2, x3, x4, x5, x6, x7, x8, x9, x10, x11, x12, x13, x14, x15, x16, x17]) (h4 : act.tmps.getD a undef = .pointer (some ⟨g, 0, none⟩)) (h5 : act.tmps.getD b undef = u) (hd : act.defers = []) (hP : P (.returned (.tuple #[.agg #[x0, x1, x2, x3, x4, x5, x6, x7, x8, x9, x10, x11, x12, x13, x14, x15, x16, x17], u])) W) : bodyPost Tryz.prog F P Exit.ret act W := by
  refine bodyPost_ret (v := .tuple #[.agg #[x0, x1, x2, x3, x4, x5, x6, x7, x8, x9, x10, x11, x12, x13, x14, x15, x16, x17], u]) ?_ hd hP
  have hl := run_loadVar_row (P := Tryz.prog) W g 36 36 #[x0, x1, x2, x3, x4, x5, x6, x7, x8, x9, x10, x11, x12, x13, x14, x15, x16, x17] (0, 0) _ hr Tryz.underlying36 rfl pc_size
  rw [Array.getD_eq_getD_getElem?] at h4 h5
  simp [results, hF, h4, h5, asAddr, hl]
theorem pc_ret1 {F : Func} {a : Nat} {W : World} {g : Nat} {x0 x1 x2 x3 x4 x5 x6 x7 x8 x9 x10 x11 x12 x13 x14 x15 x16 x17 : Value} {P : Ending → World → Prop} {act : Act} (hF : F.results = #[ResultVar.cell a 36]) (hr : Blk W g 36 #[x0, x1, x2, x3, x4, x5, x6, x7, x8, x9, x10, x11, x12, x13, x14, x15, x16, x17]) (h4 : act.tmps.getD a undef = .pointer (some ⟨g, 0, none⟩)) (hd : act.defers = []) (hP : P (.returned (.agg #[x0, x1, x2, x3, x4, x5, x6, x7, x8, x9, x10, x11, x12, x13, x14, x15, x16, x17])) W) : bodyPost Tryz.prog F P Exit.ret act W := by
  refine bodyPost_ret (v := .agg #[x0, x1, x2, x3, x4, x5, x6, x7, x8, x9, x10, x11, x12, x13, x14, x15, x16, x17]) ?_ hd hP
  have hl := run_loadVar_row (P := Tryz.prog) W g 36 36 #[x0, x1, x2, x3, x4, x5, x6, x7, x8, x9, x10, x11, x12, x13, x14, x15, x16, x17] (0, 0) _ hr Tryz.underlying36 rfl pc_size
  rw [Array.getD_eq_getD_getElem?] at h4
  simp [results, hF, h4, asAddr, hl]
set_option maxRecDepth 100000 in
set_option maxHeartbeats 1000000 in
theorem s_literal (s : ByteArray) (i e : Nat) (w : World) (hs : s.size ≤ 1000000) (hie : i ≤ e) (he : e ≤ s.size) : Calls Tryz.prog 75 #[.string s, .int .i64 i, .int .i64 e] w fun r w' => r = .returned (.agg (pcC { inl := spn 1 (s.extract i e), nd := e } none 0 none 0)) ∧ Below w.heap.size w w' := by
  go_enter Tryz.func75, Tryz.ntmps75
  go_wp2_with fail
  exact pc_ret1 Tryz.results75 (Blk.new w _ _) rfl rfl ⟨rfl, (Below.refl _ w).alloc (Nat.le_refl _) _⟩

end Go.Proofs.YtcjkgmfidkgamaaGreatDoor
