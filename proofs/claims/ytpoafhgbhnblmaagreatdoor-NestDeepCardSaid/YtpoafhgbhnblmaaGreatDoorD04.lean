/-
  Texts of the proof, put together (what this law reaches): LinkC, CharsC, CharsD, LinkE, TabP.
-/
import Derived.Test.YtpoafhgbhnblmaaGreatDoorD03
import Derived.Test.YtpoafhgbhnblmaaGreatDoorD02
import Derived.Test.YtpoafhgbhnblmaaGreatDoorD01
import Derived.Lib.ReplaceLaws
import Derived.Lib.IndexMore
set_option linter.unusedVariables false
set_option linter.unusedSimpArgs false
namespace Go.Proofs.YtpoafhgbhnblmaaGreatDoor
open Go.RowKit Go.Pub
def DRel (s : ByteArray) (i : Nat) (a b : Value) : Prop :=
  ∃ o k : Nat, o ≤ 8 ∧ i ≤ k ∧ k ≤ s.size ∧ a = .int .i64 o ∧ b = .int .i64 k ∧ Hid (destA s o k = destA s 0 i)
end Go.Proofs.YtpoafhgbhnblmaaGreatDoor
namespace Go.Proofs.YtpoafhgbhnblmaaGreatDoor
open Go.RowKit Go.Pub
theorem cells_enc (r : Int) : Lib.runeCells r = Lib.byteCells (encL r) := by rw [← Lib.byteCells_encodeRune, encodeRune_eq]
end Go.Proofs.YtpoafhgbhnblmaaGreatDoor
namespace Go.Proofs.YtpoafhgbhnblmaaGreatDoor
open Go.RowKit Go.Pub
theorem foldP_space (g : Bool) (acc : List UInt8) (p : Nat × Nat) (l : List (Nat × Nat)) (h : spaceB p.1 = true) : foldP g acc (p :: l) = foldP true acc l := by simp [foldP, h]
theorem foldP_other (g : Bool) (acc : List UInt8) (p : Nat × Nat) (l : List (Nat × Nat)) (h : spaceB p.1 = false) : foldP g acc (p :: l) = foldP false (acc ++ ((if g && !acc.isEmpty then [32] else []) ++ encL (lowerZ p.1))) l := by simp [foldP, h]
def FoldRel (s : ByteArray) (R : List UInt8) (w : World) (g : Bool) (wr : World) : Prop :=
  ∃ (pos f : Nat) (acc : List UInt8), Lib.IsBuilderF 158 5 w.heap.size w.heap.size (Lib.byteCells acc) wr ∧ wr.heap[w.heap.size + 1]? = some (.stringIter s pos) ∧ Below w.heap.size w wr ∧ foldP g acc (ptsFrom s f pos) = R ∧ s.size ≤ pos + f ∧ acc.length ≤ 8 * pos ∧ pos ≤ s.size
set_option maxHeartbeats 8000000 in
set_option maxRecDepth 1000000 in
theorem fold_any (s : ByteArray) (w : World) (hs : s.size ≤ 1000000) :
    Calls Tryz.prog 99 #[.string s] w fun e w' => e = .returned (.string ⟨(foldL s).toArray⟩) ∧ Below w.heap.size w w' := by
  have HC : Hid (foldP false [] (pts s) = foldL s) := Lib.hid rfl
  generalize foldL s = R at *
  go_enter Tryz.func99, Tryz.ntmps99
  go_wp2
  go_loopw [4] (fun gv wr => ∃ g : Bool, gv = .bool g ∧ FoldRel s R w g wr) (fun _ wr => s.size - wr.iterPos (w.heap.size + 1))
  case atStart =>
    refine ⟨false, rfl, 0, s.size, [], (Lib.IsBuilderF.of (Lib.fresh_isBuilder 158 5 w)).alloc _, ?_, ((Below.refl _ w).alloc (Nat.le_refl _) _).alloc (by simp) _, HC.out, by omega, by simp, by omega⟩
    have := World.iter_heap (w.alloc (.cells #[.pointer none, .slice none 0 0] 158)) s 0
    simpa using this
  case round =>
    obtain ⟨g, rfl, pos, f, acc, hI, hit, hbw, hacc, hf, hal, hps⟩ := hrel
    have Hacc := Lib.hid hacc
    clear hacc
    have hsz : w.heap.size + 1 < wr.heap.size := (Array.getElem?_eq_some_iff.1 hit).1
    by_cases hp : pos < s.size
    · have hd := dec_bd s pos hp
      have hstep : Hid (foldP g acc (Utf8.decode s pos :: ptsFrom s (f - 1) (pos + (Utf8.decode s pos).2)) = R) := Lib.hid (by
        rw [← Hacc.out, ptsFrom_step s f pos hp hf])
      have hnx : ∀ ty, (Instr.next (.pointer (some ⟨w.heap.size + 1, 0, none⟩)) true ty).run Tryz.prog wr = _ := fun ty => Lib.run_next_any_at wr (w.heap.size + 1) s pos ty hit hp
      have hI2 := hI.iterAt hit (pos + (Utf8.decode s pos).2)
      have hit2 := Lib.hid (Lib.iterAt_heap wr (w.heap.size + 1) s pos (pos + (Utf8.decode s pos).2) hit)
      have hbw2 := Lib.below_iterAt hbw (k := w.heap.size + 1) (by omega) s (pos + (Utf8.decode s pos).2)
      have hsz2 : w.heap.size ≤ (wr.iterAt (w.heap.size + 1) s (pos + (Utf8.decode s pos).2)).heap.size := by rw [Lib.iterAt_size]; omega
      have hitk := Lib.hid hit
      clear hit
      generalize Utf8.decode s pos = D at *
      by_cases csp : spaceB D.1 = true
      · have dn : Hid (∀ (w1 : World), Lib.IsBuilderF 158 5 w.heap.size w.heap.size (Lib.byteCells acc) w1 → w1.heap[w.heap.size + 1]? = some (.stringIter s (pos + D.2)) → Below w.heap.size w w1 → FoldRel s R w true w1) := Lib.hid (by
          intro w1 h1 h2 h3
          refine ⟨pos + D.2, f - 1, acc, h1, h2, h3, ?_, by omega, by omega, by omega⟩
          rw [← hstep.out, foldP_space _ _ _ _ csp])
        go_wp2_with (go_at_call 157; refine (space_any _ _).mono ?_; rintro e w' ⟨rfl, rfl⟩)
        go_roundw
        case rel => exact ⟨true, rfl, dn.out _ hI2 hit2.out hbw2⟩
        case measure =>
          simp only [World.iterPos, hit2.out, hitk.out]
          omega
      · rw [Bool.not_eq_true] at csp
        have hlo := lowerZ_bd D.1 (by omega) (by omega)
        have hlen := encL_length (lowerZ D.1)
        have dn : Hid (∀ (acc' : List UInt8) (w1 : World), acc' = (if g && !acc.isEmpty then [32] else []) ++ encL (lowerZ D.1) → Lib.IsBuilderF 158 5 w.heap.size w.heap.size (Lib.byteCells (acc ++ acc')) w1 → w1.heap[w.heap.size + 1]? = some (.stringIter s (pos + D.2)) → Below w.heap.size w w1 → FoldRel s R w false w1) := Lib.hid (by
          intro acc' w1 e h1 h2 h3
          refine ⟨pos + D.2, f - 1, acc ++ acc', h1, h2, h3, ?_, by omega, ?_, by omega⟩
          · rw [e, ← hstep.out, foldP_other _ _ _ _ csp]
          · rw [e]; simp only [List.length_append]; split <;> simp <;> omega)
        clear hlen
        have HLow : Hid (∀ W, Calls Tryz.prog 161 #[.int .i64 D.1] W fun e w' => e = .returned (.int .i64 (lowerZ D.1)) ∧ W = w') := Lib.hid fun W => lower_any D.1 W
        generalize lowerZ D.1 = L at *
        by_cases hgap : g = true ∧ acc ≠ []
        · obtain ⟨rfl, hne⟩ := hgap
          have hpos : 0 < acc.length := List.length_pos_iff.2 hne
          have hpc : Hid ([32] ++ encL L = (if true && !acc.isEmpty then [32] else []) ++ encL L) := Lib.hid (by cases acc <;> simp_all)
          clear hne
          have hbl := Lib.hid (Lib.byteCells_length acc)
          have hpz : 0 < (Lib.byteCells acc).length := by rw [Lib.byteCells_length]; exact hpos
          go_wp2_with fail
          refine (space_any _ _).mono ?_
          rintro e w' ⟨rfl, rfl⟩
          go_wp2_with fail
          refine (Tryz.Builder_Len_f w.heap.size w.heap.size _ _ hI2).mono ?_
          rintro e w' ⟨rfl, rfl⟩
          go_wp2_with fail
          refine (writeByte_k w.heap.size w.heap.size _ 32 _ hI2 (by rw [Lib.byteCells_length]; omega) hsz2).mono ?_
          rintro e W1 ⟨rfl, h1, b1, k1⟩
          have hz1 := b1.size
          go_wp2_with fail
          refine (HLow.out _).mono ?_
          rintro e w' ⟨rfl, rfl⟩
          go_wp2_with fail
          refine (writeRune_k w.heap.size w.heap.size _ _ (by omega) (by omega) _ (Or.inr h1) (by rw [List.length_append, Lib.byteCells_length]; simp; omega) (by omega)).mono ?_
          rintro e W2 ⟨rfl, h2, b2, k2⟩
          go_wp2
          go_roundw
          case rel => exact ⟨false, rfl, dn.out ([32] ++ encL L) _ hpc.out (by rw [Lib.byteCells_append, Lib.byteCells_append, ← cells_enc, ← List.append_assoc]; exact Or.inr h2) (k2.iter (k1.iter hit2.out (by omega)) (by omega)) ((hbw2.trans b1).trans b2)⟩
          case measure =>
            simp only [World.iterPos, k2.iter (k1.iter hit2.out (by omega)) (by omega), hitk.out]
            omega
        · have hpc : Hid (encL L = (if g && !acc.isEmpty then [32] else []) ++ encL L) := Lib.hid (by cases acc <;> cases g <;> simp_all)
          by_cases hg : g = true
          · subst hg
            have hne : acc = [] := Classical.not_not.1 fun h => hgap ⟨rfl, h⟩
            subst hne
            clear hgap
            go_wp2_with fail
            refine (space_any _ _).mono ?_
            rintro e w' ⟨rfl, rfl⟩
            go_wp2_with fail
            refine (Tryz.Builder_Len_f w.heap.size w.heap.size _ _ hI2).mono ?_
            rintro e w' ⟨rfl, rfl⟩
            go_wp2_with fail
            refine (HLow.out _).mono ?_
            rintro e w' ⟨rfl, rfl⟩
            go_wp2_with fail
            refine (writeRune_k w.heap.size w.heap.size _ _ (by omega) (by omega) _ hI2 (by rw [Lib.byteCells_length]; omega) hsz2).mono ?_
            rintro e W2 ⟨rfl, h2, b2, k2⟩
            go_wp2
            go_roundw
            case rel => exact ⟨false, rfl, dn.out (encL L) _ hpc.out (by rw [Lib.byteCells_append, ← cells_enc]; exact Or.inr h2) (k2.iter hit2.out (by omega)) (hbw2.trans b2)⟩
            case measure =>
              simp only [World.iterPos, k2.iter hit2.out (by omega), hitk.out]
              omega
          · rw [Bool.not_eq_true] at hg
            subst hg
            clear hgap
            go_wp2_with fail
            refine (space_any _ _).mono ?_
            rintro e w' ⟨rfl, rfl⟩
            go_wp2_with fail
            refine (HLow.out _).mono ?_
            rintro e w' ⟨rfl, rfl⟩
            go_wp2_with fail
            refine (writeRune_k w.heap.size w.heap.size _ _ (by omega) (by omega) _ hI2 (by rw [Lib.byteCells_length]; omega) hsz2).mono ?_
            rintro e W2 ⟨rfl, h2, b2, k2⟩
            go_wp2
            go_roundw
            case rel => exact ⟨false, rfl, dn.out (encL L) _ hpc.out (by rw [Lib.byteCells_append, ← cells_enc]; exact Or.inr h2) (k2.iter hit2.out (by omega)) (hbw2.trans b2)⟩
            case measure =>
              simp only [World.iterPos, k2.iter hit2.out (by omega), hitk.out]
              omega
    · have hnx : ∀ ty, (Instr.next (.pointer (some ⟨w.heap.size + 1, 0, none⟩)) true ty).run Tryz.prog wr = _ := fun ty => Lib.run_next_end_at wr (w.heap.size + 1) s pos ty hit hp
      have hR : Hid (acc = R) := Lib.hid (by rw [← Hacc.out, ptsFrom_end s f pos hp]; simp [foldP])
      go_wp2_with (go_at_call 162; refine (Tryz.Builder_String_any_k w.heap.size w.heap.size acc _ hI (by omega)).mono ?_)
      rintro e W1 ⟨rfl, _, b1, _⟩
      go_wp2
      go_ret
      exact ⟨ret_str (by rw [hR.out]), hbw.trans b1⟩

end Go.Proofs.YtpoafhgbhnblmaaGreatDoor
namespace Go.Pub
theorem labB_yes (c : Int) (h : labB c = true) : inB c letterL = true ∨ (inB c letterL = false ∧ (digitB c = true ∨ (digitB c = false ∧ ((c == 32) = true ∨ ((c == 32) = false ∧ ((c == 45) = true ∨ ((c == 45) = false ∧ ((c == 95) = true ∨ ((c == 95) = false ∧ ((c == 46) = true ∨ ((c == 46) = false ∧ (c == 58) = true))))))))))) := by
  unfold labB at h
  cases h1 : inB c letterL <;> cases h2 : digitB c <;> cases h3 : c == 32 <;> cases h4 : c == 45 <;> cases h5 : c == 95 <;> cases h6 : c == 46 <;> cases h7 : c == 58 <;> simp_all
theorem labB_no (c : Int) (h : labB c = false) : inB c letterL = false ∧ digitB c = false ∧ (c == 32) = false ∧ (c == 45) = false ∧ (c == 95) = false ∧ (c == 46) = false ∧ (c == 58) = false := by
  unfold labB at h
  simp only [Bool.or_eq_false_iff] at h
  exact ⟨h.1.1.1.1.1.1, h.1.1.1.1.1.2, h.1.1.1.1.2, h.1.1.1.2, h.1.1.2, h.1.2, h.2⟩
end Go.Pub
namespace Go.Proofs.YtpoafhgbhnblmaaGreatDoor
open Go.RowKit Go.Pub
def LbRel (g : ByteArray) (w w1 : World) (v : Value) (wr : World) : Prop :=
  ∃ (pos f : Nat) (acc : List (Nat × Nat)), v = .string g ∧ wr.heap[w1.heap.size]? = some (.stringIter g pos) ∧ Below w.heap.size w wr ∧ Hid (acc ++ ptsFrom g f pos = pts g) ∧ Hid (acc.all (fun p => labB p.1) = true) ∧ g.size ≤ pos + f ∧ pos ≤ g.size
end Go.Proofs.YtpoafhgbhnblmaaGreatDoor
namespace Go.Pub
/-- Without the spaces ahead. -/
def trimF (l : List UInt8) : List UInt8 := l.dropWhile (· == 32)
/-- Without the spaces at the end. -/
def trimR (l : List UInt8) : List UInt8 := (l.reverse.dropWhile (· == 32)).reverse
def trimS (l : List UInt8) : List UInt8 := trimR (trimF l)
theorem trimR_sp (l : List UInt8) : trimR (l ++ [32]) = trimR l := by
  unfold trimR
  rw [List.reverse_append]
  show ((32 :: l.reverse).dropWhile _).reverse = _
  rw [List.dropWhile_cons_of_pos (by decide)]
theorem trimR_no (l : List UInt8) (c : UInt8) (h : c ≠ 32) : trimR (l ++ [c]) = l ++ [c] := by
  unfold trimR
  rw [List.reverse_append]
  show ((c :: l.reverse).dropWhile _).reverse = _
  rw [List.dropWhile_cons_of_neg (by simpa using h)]
  simp
theorem trimF_sp (l : List UInt8) : trimF (32 :: l) = trimF l := by
  unfold trimF; rw [List.dropWhile_cons_of_pos (by decide)]
theorem trimF_no (l : List UInt8) (c : UInt8) (h : c ≠ 32) : trimF (c :: l) = c :: l := by
  unfold trimF; rw [List.dropWhile_cons_of_neg (by simpa using h)]
/-- The number of spaces ahead. -/
def indN : List UInt8 → Nat
  | [] => 0
  | c :: l => if c = 32 then indN l + 1 else 0
theorem trimF_ind : ∀ l : List UInt8, trimF l = l.drop (indN l)
  | [] => rfl
  | c :: l => by
    unfold indN
    split
    · rename_i h; subst h; rw [trimF_sp, trimF_ind l]; rfl
    · rename_i h; rw [trimF_no _ _ h]; rfl
theorem indN_le : ∀ l : List UInt8, indN l ≤ l.length
  | [] => Nat.le_refl _
  | c :: l => by unfold indN; have := indN_le l; split <;> simp <;> omega
theorem trimR_pre (l : List UInt8) : ∃ r, l = trimR l ++ r := by
  unfold trimR
  refine ⟨(l.reverse.takeWhile (· == 32)).reverse, ?_⟩
  rw [← List.reverse_append, List.takeWhile_append_dropWhile, List.reverse_reverse]
theorem trimS_len (l : List UInt8) : (trimS l).length ≤ l.length := by
  unfold trimS
  obtain ⟨r, hr⟩ := trimR_pre (trimF l)
  have := congrArg List.length hr
  rw [List.length_append, trimF_ind, List.length_drop] at this
  rw [trimF_ind] at *
  omega
/-- A byte ahead of the first part. -/
def ahead (c : UInt8) : List (List UInt8) → List (List UInt8)
  | [] => [[c]]
  | h :: t => (c :: h) :: t
/-- The parts between the separators; e: a backslash stands ahead. -/
def splitGo : Bool → List UInt8 → List (List UInt8)
  | _, [] => [[]]
  | e, c :: l => if c = 124 ∧ e = false then [] :: splitGo false l else ahead c (splitGo (c == 92) l)
theorem splitGo_sep (l : List UInt8) : splitGo false (124 :: l) = [] :: splitGo false l := by
  show (if (124 : UInt8) = 124 ∧ false = false then _ else _) = _
  rw [if_pos ⟨rfl, rfl⟩]
theorem splitGo_no (e : Bool) (c : UInt8) (l : List UInt8) (h : ¬ (c = 124 ∧ e = false)) : splitGo e (c :: l) = ahead c (splitGo (c == 92) l) := by
  show (if _ then _ else _) = _
  rw [if_neg h]
theorem splitGo_ne : ∀ (l : List UInt8) (e : Bool), splitGo e l ≠ []
  | [], _ => by simp [splitGo]
  | c :: l, e => by
    unfold splitGo
    split
    · simp
    · have := splitGo_ne l (c == 92)
      cases h : splitGo (c == 92) l with
      | nil => exact absurd h this
      | cons a b => simp [ahead]
/-- A text ahead of the first part. -/
def aheadL : List UInt8 → List (List UInt8) → List (List UInt8)
  | p, [] => [p]
  | p, h :: t => (p ++ h) :: t
theorem aheadL_snoc (p : List UInt8) (c : UInt8) (ls : List (List UInt8)) (h : ls ≠ []) : aheadL p (ahead c ls) = aheadL (p ++ [c]) ls := by
  cases ls with
  | nil => exact absurd rfl h
  | cons a b => simp [ahead, aheadL]
theorem aheadL_nil (ls : List (List UInt8)) (h : ls ≠ []) : aheadL [] ls = ls := by
  cases ls with
  | nil => exact absurd rfl h
  | cons a b => rfl
/-- The byte at i is a separator. -/
def sepB (s : ByteArray) (i : Nat) : Bool := bt s i == 124 && (i == 0 || bt s (i - 1) != 92)
/-- A backslash stands ahead of i. -/
def slB (s : ByteArray) (i : Nat) : Bool := decide (0 < i) && bt s (i - 1) == 92
/-- The parts from i on, the first of which began at a. -/
def restP (s : ByteArray) (a i : Nat) : List (List UInt8) := aheadL (sub s a i) (splitGo (slB s i) (sfx s i))
theorem sub_self (s : ByteArray) (i : Nat) : sub s i i = [] := by unfold sub; simp
theorem sub_snoc (s : ByteArray) (a i : Nat) (h : a ≤ i) (hi : i < s.size) : sub s a (i + 1) = sub s a i ++ [s.get! i] := by
  unfold sub
  rw [show i + 1 - a = (i - a) + 1 by omega, List.take_add_one]
  congr 1
  rw [List.getElem?_drop, show a + (i - a) = i by omega]
  have := sfx_cons s i hi
  unfold sfx at this
  have h2 : (bytesL s)[i]? = some (s.get! i) := by
    rw [← List.head?_drop, this]; rfl
  rw [h2]; rfl
theorem sepB_iff (s : ByteArray) (i : Nat) : sepB s i = true ↔ (s.get! i = 124 ∧ slB s i = false) := by
  have h : s.get! i = 124 ↔ bt s i = 124 := bt_u8 s i 124 (by decide)
  unfold sepB slB
  rw [h]
  simp only [Bool.and_eq_true, Bool.or_eq_true, beq_iff_eq, bne_iff_ne, ne_eq, Bool.and_eq_false_iff, decide_eq_false_iff_not, beq_eq_false_iff_ne]
  constructor
  · rintro ⟨h1, h2 | h2⟩
    · exact ⟨h1, Or.inl (by omega)⟩
    · exact ⟨h1, Or.inr h2⟩
  · rintro ⟨h1, h2 | h2⟩
    · exact ⟨h1, Or.inl (by omega)⟩
    · exact ⟨h1, Or.inr h2⟩
theorem slB_succ (s : ByteArray) (i : Nat) : slB s (i + 1) = (s.get! i == 92) := by
  have h : s.get! i = 92 ↔ bt s i = 92 := bt_u8 s i 92 (by decide)
  unfold slB
  rw [Bool.eq_iff_iff]
  simp only [Nat.add_sub_cancel, Bool.and_eq_true, decide_eq_true_eq, beq_iff_eq, h]
  exact ⟨fun e => e.2, fun e => ⟨by omega, e⟩⟩
theorem restP_sep (s : ByteArray) (a i : Nat) (hi : i < s.size) (h : sepB s i = true) : restP s a i = sub s a i :: restP s (i + 1) (i + 1) := by
  obtain ⟨h1, h2⟩ := (sepB_iff s i).1 h
  unfold restP
  rw [sfx_cons s i hi, h2, h1, splitGo_sep, sub_self, aheadL_nil _ (splitGo_ne _ _), slB_succ, h1]
  show (sub s a i ++ []) :: _ = _
  rw [List.append_nil]; rfl
theorem restP_no (s : ByteArray) (a i : Nat) (ha : a ≤ i) (hi : i < s.size) (h : sepB s i = false) : restP s a i = restP s a (i + 1) := by
  have h' : ¬ (s.get! i = 124 ∧ slB s i = false) := fun e => by rw [(sepB_iff s i).2 e] at h; exact absurd h (by simp)
  unfold restP
  rw [sfx_cons s i hi, splitGo_no _ _ _ h', aheadL_snoc _ _ _ (splitGo_ne _ _), sub_snoc s a i ha hi, slB_succ]
theorem restP_end (s : ByteArray) (a i : Nat) (hi : s.size ≤ i) : restP s a i = [sub s a i] := by
  unfold restP
  rw [sfx_nil s i hi]
  show [sub s a i ++ []] = _
  rw [List.append_nil]
theorem restP_zero (s : ByteArray) : restP s 0 0 = splitGo false (bytesL s) := by
  unfold restP
  rw [sub_self, aheadL_nil _ (splitGo_ne _ _)]; rfl
theorem splitGo_len : ∀ (l : List UInt8) (e : Bool), (splitGo e l).length ≤ l.length + 1
  | [], _ => by simp [splitGo]
  | c :: l, e => by
    unfold splitGo
    split
    · have := splitGo_len l false; simp; omega
    · have := splitGo_len l (c == 92)
      have h := splitGo_ne l (c == 92)
      cases hs : splitGo (c == 92) l with
      | nil => exact absurd hs h
      | cons a b => rw [hs] at this; simp [ahead] at this ⊢; omega
theorem splitGo_mem : ∀ (l : List UInt8) (e : Bool), ∀ p ∈ splitGo e l, p.length ≤ l.length
  | [], _, p, hp => by simp [splitGo] at hp; subst hp; simp
  | c :: l, e, p, hp => by
    unfold splitGo at hp
    split at hp
    · rcases List.mem_cons.1 hp with rfl | hp
      · simp
      · have := splitGo_mem l false p hp; simp; omega
    · cases hs : splitGo (c == 92) l with
      | nil => exact absurd hs (splitGo_ne _ _)
      | cons a b =>
        rw [hs] at hp
        rcases List.mem_cons.1 hp with rfl | hp
        · have := splitGo_mem l (c == 92) a (by rw [hs]; exact List.mem_cons_self); simp; omega
        · have := splitGo_mem l (c == 92) p (by rw [hs]; exact List.mem_cons_of_mem _ hp); simp; omega
/-- A bar behind a backslash becomes a bar. -/
def unbarL : List UInt8 → List UInt8
  | [] => []
  | c :: l => if c = 92 ∧ l.head? = some 124 then (match l with | [] => [] | d :: l' => d :: unbarL l') else c :: unbarL l
theorem unbarL_cons (c : UInt8) (l : List UInt8) : unbarL (c :: l) = if c = 92 ∧ l.head? = some 124 then (match l with | [] => [] | d :: l' => d :: unbarL l') else c :: unbarL l := by cases l <;> rfl
theorem unbarL_hit (l : List UInt8) : unbarL (92 :: 124 :: l) = 124 :: unbarL l := by rw [unbarL_cons, if_pos ⟨rfl, rfl⟩]
theorem unbarL_no (c : UInt8) (l : List UInt8) (h : ¬ (c = 92 ∧ l.head? = some 124)) : unbarL (c :: l) = c :: unbarL l := by rw [unbarL_cons, if_neg h]
def oldU : List UInt8 := [92, 124]
theorem occ_old (l : List UInt8) (i : Nat) : Lib.occAt l oldU i = true ↔ ((l.drop i).head? = some 92 ∧ (l.drop (i + 1)).head? = some 124) := by
  unfold Lib.occAt oldU
  rw [← List.drop_drop]
  generalize l.drop i = m
  cases m with
  | nil => simp
  | cons a m =>
    cases m with
    | nil => simp
    | cons b m =>
      show ((92 : UInt8) == a && ((124 : UInt8) == b && true)) = true ↔ (some a = some 92 ∧ some b = some 124)
      simp only [Bool.and_true, Bool.and_eq_true, beq_iff_eq, Option.some.injEq]
      exact ⟨fun h => ⟨h.1.symm, h.2.symm⟩, fun h => ⟨h.1.symm, h.2.symm⟩⟩
theorem occ_zero (c : UInt8) (l : List UInt8) : Lib.occAt (c :: l) oldU 0 = true ↔ (c = 92 ∧ l.head? = some 124) := by
  rw [occ_old]; simp
theorem occ_succ (c : UInt8) (l s : List UInt8) (i : Nat) : Lib.occAt (c :: l) s (i + 1) = Lib.occAt l s i := rfl
theorem unbar_none : ∀ l : List UInt8, (∀ j, j ≤ l.length → Lib.occAt l oldU j = false) → unbarL l = l
  | [], _ => rfl
  | c :: l, h => by
    rw [unbarL_no c l (fun e => by have := h 0 (by simp); rw [(occ_zero c l).2 e] at this; exact absurd this (by simp)), unbar_none l (fun j hj => by rw [← occ_succ c]; exact h (j + 1) (by simp; omega))]
theorem unbar_first : ∀ (i : Nat) (l : List UInt8), Lib.occAt l oldU i = true → Lib.NoOcc l oldU i → unbarL l = l.take i ++ [124] ++ unbarL (l.drop (i + 2))
  | 0, l, h, _ => by
    match l with
    | [] => simp [Lib.occAt, oldU] at h
    | [c] => rw [occ_zero] at h; simp at h
    | c :: d :: l =>
      rw [occ_zero] at h
      obtain ⟨rfl, h⟩ := h
      obtain rfl : d = 124 := by simpa using h
      rw [unbarL_hit]; rfl
  | i + 1, l, h, hn => by
    match l with
    | [] => simp [Lib.occAt, oldU] at h
    | c :: l =>
      rw [occ_succ] at h
      have h0 := hn 0 (by omega)
      rw [unbarL_no c l (fun e => by rw [(occ_zero c l).2 e] at h0; exact absurd h0 (by simp)), unbar_first i l h (fun j hj => by rw [← occ_succ c]; exact hn (j + 1) (by omega))]
      rfl
theorem repl_unbar : ∀ (n : Nat) (l : List UInt8), l.length ≤ n → Lib.replaceK oldU [124] (Lib.count l oldU) l = unbarL l
  | n, l, hl => by
    rcases Lib.index_spec l oldU with ⟨h1, h2⟩ | ⟨i, h1, h2, h3, h4⟩
    · rw [Lib.count_miss h1, unbar_none l h2]; rfl
    · have hr := Lib.index_room l oldU (by rw [h1]; omega)
      rw [h1] at hr
      have hr2 : i + 2 ≤ l.length := by have : oldU.length = 2 := rfl; omega
      rw [Lib.count_hit (by decide) h1, Nat.add_comm, Lib.replaceK_hit _ _ _ _ i h1, unbar_first i l h3 h4]
      match n with
      | 0 => omega
      | n + 1 => rw [repl_unbar n (l.drop (i + oldU.length)) (by rw [List.length_drop]; have : oldU.length = 2 := rfl; omega)]; rfl
end Go.Pub
