/-
  Texts of the proof, put together (what this law reaches): CharsC, CharsD, LinkE, TabP, TabA, TabB, RegIn, AttrA.
-/
import Derived.Test.YtpoafhgbhnblmaaGreatDoorC02
import Derived.Test.YtpoafhgbhnblmaaGreatDoorC01
import Derived.Lib.ReplaceLaws
import Derived.Lib.IndexMore
import Derived.Test.YtpoafhgbhnblmaaGreatDoorProg
import Derived.WalkKit
import Derived.Lib.Hide
import Derived.RangeFuncNested
import Derived.RangeFuncBound
import Derived.RangeFuncCalls
import Derived.RangeFuncLeaves
import Derived.Shelf.Abstract
import Derived.Shelf.RegionOpen
import Derived.OwnWalkIn
import Derived.TacticsInMore
import Derived.LoopNIn
import Derived.LoopIn
import Derived.Deep.RegionHeld3
import Derived.OrdersIn
import Derived.TacticsIn
import Derived.RangeFuncBox
set_option linter.unusedVariables false
set_option linter.unusedSimpArgs false
namespace Go.Proofs.YtpoafhgbhnblmaaGreatDoor
open Go.RowKit Go.Pub
theorem cells_enc (r : Int) : Lib.runeCells r = Lib.byteCells (encL r) := by rw [← Lib.byteCells_encodeRune, encodeRune_eq]
end Go.Proofs.YtpoafhgbhnblmaaGreatDoor
namespace Go.Proofs.YtpoafhgbhnblmaaGreatDoor
open Go.RowKit Go.Pub
theorem foldP_space (g : Bool) (acc : List UInt8) (p : Nat × Nat) (l : List (Nat × Nat)) (h : spaceB p.1 = true) : foldP g acc (p :: l) = foldP true acc l := by simp [foldP, h]
theorem foldP_other (g : Bool) (acc : List UInt8) (p : Nat × Nat) (l : List (Nat × Nat)) (h : spaceB p.1 = false) : foldP g acc (p :: l) = foldP false (acc ++ ((if g && !acc.isEmpty then [32] else []) ++ encL (lowerZ p.1))) l := by simp [foldP, h]
def FoldRel (s : ByteArray) (R : List UInt8) (w : World) (g : Bool) (wr : World) : Prop :=
  ∃ (pos f : Nat) (acc : List UInt8), Lib.IsBuilderF 158 5 w.heap.size w.heap.size (Lib.byteCells acc) wr ∧ wr.heap[w.heap.size + 1]? = some (.stringIter s pos) ∧ Below w.heap.size w wr ∧ foldP g acc (ptsFrom s f pos) = R ∧ s.size ≤ pos + f ∧ acc.length ≤ 8 * pos ∧ pos ≤ s.size
set_option maxHeartbeats 8000000 in
set_option maxRecDepth 1000000 in
theorem fold_any (s : ByteArray) (w : World) (hs : s.size ≤ 1000000) :
    Calls Tryz.prog 99 #[.string s] w fun e w' => e = .returned (.string ⟨(foldL s).toArray⟩) ∧ Below w.heap.size w w' := by
  have HC : Hid (foldP false [] (pts s) = foldL s) := Lib.hid rfl
  generalize foldL s = R at *
  go_enter Tryz.func99, Tryz.ntmps99
  go_wp2
  go_loopw [4] (fun gv wr => ∃ g : Bool, gv = .bool g ∧ FoldRel s R w g wr) (fun _ wr => s.size - wr.iterPos (w.heap.size + 1))
  case atStart =>
    refine ⟨false, rfl, 0, s.size, [], (Lib.IsBuilderF.of (Lib.fresh_isBuilder 158 5 w)).alloc _, ?_, ((Below.refl _ w).alloc (Nat.le_refl _) _).alloc (by simp) _, HC.out, by omega, by simp, by omega⟩
    have := World.iter_heap (w.alloc (.cells #[.pointer none, .slice none 0 0] 158)) s 0
    simpa using this
  case round =>
    obtain ⟨g, rfl, pos, f, acc, hI, hit, hbw, hacc, hf, hal, hps⟩ := hrel
    have Hacc := Lib.hid hacc
    clear hacc
    have hsz : w.heap.size + 1 < wr.heap.size := (Array.getElem?_eq_some_iff.1 hit).1
    by_cases hp : pos < s.size
    · have hd := dec_bd s pos hp
      have hstep : Hid (foldP g acc (Utf8.decode s pos :: ptsFrom s (f - 1) (pos + (Utf8.decode s pos).2)) = R) := Lib.hid (by
        rw [← Hacc.out, ptsFrom_step s f pos hp hf])
      have hnx : ∀ ty, (Instr.next (.pointer (some ⟨w.heap.size + 1, 0, none⟩)) true ty).run Tryz.prog wr = _ := fun ty => Lib.run_next_any_at wr (w.heap.size + 1) s pos ty hit hp
      have hI2 := hI.iterAt hit (pos + (Utf8.decode s pos).2)
      have hit2 := Lib.hid (Lib.iterAt_heap wr (w.heap.size + 1) s pos (pos + (Utf8.decode s pos).2) hit)
      have hbw2 := Lib.below_iterAt hbw (k := w.heap.size + 1) (by omega) s (pos + (Utf8.decode s pos).2)
      have hsz2 : w.heap.size ≤ (wr.iterAt (w.heap.size + 1) s (pos + (Utf8.decode s pos).2)).heap.size := by rw [Lib.iterAt_size]; omega
      have hitk := Lib.hid hit
      clear hit
      generalize Utf8.decode s pos = D at *
      by_cases csp : spaceB D.1 = true
      · have dn : Hid (∀ (w1 : World), Lib.IsBuilderF 158 5 w.heap.size w.heap.size (Lib.byteCells acc) w1 → w1.heap[w.heap.size + 1]? = some (.stringIter s (pos + D.2)) → Below w.heap.size w w1 → FoldRel s R w true w1) := Lib.hid (by
          intro w1 h1 h2 h3
          refine ⟨pos + D.2, f - 1, acc, h1, h2, h3, ?_, by omega, by omega, by omega⟩
          rw [← hstep.out, foldP_space _ _ _ _ csp])
        go_wp2_with (go_at_call 157; refine (space_any _ _).mono ?_; rintro e w' ⟨rfl, rfl⟩)
        go_roundw
        case rel => exact ⟨true, rfl, dn.out _ hI2 hit2.out hbw2⟩
        case measure =>
          simp only [World.iterPos, hit2.out, hitk.out]
          omega
      · rw [Bool.not_eq_true] at csp
        have hlo := lowerZ_bd D.1 (by omega) (by omega)
        have hlen := encL_length (lowerZ D.1)
        have dn : Hid (∀ (acc' : List UInt8) (w1 : World), acc' = (if g && !acc.isEmpty then [32] else []) ++ encL (lowerZ D.1) → Lib.IsBuilderF 158 5 w.heap.size w.heap.size (Lib.byteCells (acc ++ acc')) w1 → w1.heap[w.heap.size + 1]? = some (.stringIter s (pos + D.2)) → Below w.heap.size w w1 → FoldRel s R w false w1) := Lib.hid (by
          intro acc' w1 e h1 h2 h3
          refine ⟨pos + D.2, f - 1, acc ++ acc', h1, h2, h3, ?_, by omega, ?_, by omega⟩
          · rw [e, ← hstep.out, foldP_other _ _ _ _ csp]
          · rw [e]; simp only [List.length_append]; split <;> simp <;> omega)
        clear hlen
        have HLow : Hid (∀ W, Calls Tryz.prog 161 #[.int .i64 D.1] W fun e w' => e = .returned (.int .i64 (lowerZ D.1)) ∧ W = w') := Lib.hid fun W => lower_any D.1 W
        generalize lowerZ D.1 = L at *
        by_cases hgap : g = true ∧ acc ≠ []
        · obtain ⟨rfl, hne⟩ := hgap
          have hpos : 0 < acc.length := List.length_pos_iff.2 hne
          have hpc : Hid ([32] ++ encL L = (if true && !acc.isEmpty then [32] else []) ++ encL L) := Lib.hid (by cases acc <;> simp_all)
          clear hne
          have hbl := Lib.hid (Lib.byteCells_length acc)
          have hpz : 0 < (Lib.byteCells acc).length := by rw [Lib.byteCells_length]; exact hpos
          go_wp2_with fail
          refine (space_any _ _).mono ?_
          rintro e w' ⟨rfl, rfl⟩
          go_wp2_with fail
          refine (Tryz.Builder_Len_f w.heap.size w.heap.size _ _ hI2).mono ?_
          rintro e w' ⟨rfl, rfl⟩
          go_wp2_with fail
          refine (writeByte_k w.heap.size w.heap.size _ 32 _ hI2 (by rw [Lib.byteCells_length]; omega) hsz2).mono ?_
          rintro e W1 ⟨rfl, h1, b1, k1⟩
          have hz1 := b1.size
          go_wp2_with fail
          refine (HLow.out _).mono ?_
          rintro e w' ⟨rfl, rfl⟩
          go_wp2_with fail
          refine (writeRune_k w.heap.size w.heap.size _ _ (by omega) (by omega) _ (Or.inr h1) (by rw [List.length_append, Lib.byteCells_length]; simp; omega) (by omega)).mono ?_
          rintro e W2 ⟨rfl, h2, b2, k2⟩
          go_wp2
          go_roundw
          case rel => exact ⟨false, rfl, dn.out ([32] ++ encL L) _ hpc.out (by rw [Lib.byteCells_append, Lib.byteCells_append, ← cells_enc, ← List.append_assoc]; exact Or.inr h2) (k2.iter (k1.iter hit2.out (by omega)) (by omega)) ((hbw2.trans b1).trans b2)⟩
          case measure =>
            simp only [World.iterPos, k2.iter (k1.iter hit2.out (by omega)) (by omega), hitk.out]
            omega
        · have hpc : Hid (encL L = (if g && !acc.isEmpty then [32] else []) ++ encL L) := Lib.hid (by cases acc <;> cases g <;> simp_all)
          by_cases hg : g = true
          · subst hg
            have hne : acc = [] := Classical.not_not.1 fun h => hgap ⟨rfl, h⟩
            subst hne
            clear hgap
            go_wp2_with fail
            refine (space_any _ _).mono ?_
            rintro e w' ⟨rfl, rfl⟩
            go_wp2_with fail
            refine (Tryz.Builder_Len_f w.heap.size w.heap.size _ _ hI2).mono ?_
            rintro e w' ⟨rfl, rfl⟩
            go_wp2_with fail
            refine (HLow.out _).mono ?_
            rintro e w' ⟨rfl, rfl⟩
            go_wp2_with fail
            refine (writeRune_k w.heap.size w.heap.size _ _ (by omega) (by omega) _ hI2 (by rw [Lib.byteCells_length]; omega) hsz2).mono ?_
            rintro e W2 ⟨rfl, h2, b2, k2⟩
            go_wp2
            go_roundw
            case rel => exact ⟨false, rfl, dn.out (encL L) _ hpc.out (by rw [Lib.byteCells_append, ← cells_enc]; exact Or.inr h2) (k2.iter hit2.out (by omega)) (hbw2.trans b2)⟩
            case measure =>
              simp only [World.iterPos, k2.iter hit2.out (by omega), hitk.out]
              omega
          · rw [Bool.not_eq_true] at hg
            subst hg
            clear hgap
            go_wp2_with fail
            refine (space_any _ _).mono ?_
            rintro e w' ⟨rfl, rfl⟩
            go_wp2_with fail
            refine (HLow.out _).mono ?_
            rintro e w' ⟨rfl, rfl⟩
            go_wp2_with fail
            refine (writeRune_k w.heap.size w.heap.size _ _ (by omega) (by omega) _ hI2 (by rw [Lib.byteCells_length]; omega) hsz2).mono ?_
            rintro e W2 ⟨rfl, h2, b2, k2⟩
            go_wp2
            go_roundw
            case rel => exact ⟨false, rfl, dn.out (encL L) _ hpc.out (by rw [Lib.byteCells_append, ← cells_enc]; exact Or.inr h2) (k2.iter hit2.out (by omega)) (hbw2.trans b2)⟩
            case measure =>
              simp only [World.iterPos, k2.iter hit2.out (by omega), hitk.out]
              omega
    · have hnx : ∀ ty, (Instr.next (.pointer (some ⟨w.heap.size + 1, 0, none⟩)) true ty).run Tryz.prog wr = _ := fun ty => Lib.run_next_end_at wr (w.heap.size + 1) s pos ty hit hp
      have hR : Hid (acc = R) := Lib.hid (by rw [← Hacc.out, ptsFrom_end s f pos hp]; simp [foldP])
      go_wp2_with (go_at_call 162; refine (Tryz.Builder_String_any_k w.heap.size w.heap.size acc _ hI (by omega)).mono ?_)
      rintro e W1 ⟨rfl, _, b1, _⟩
      go_wp2
      go_ret
      exact ⟨ret_str (by rw [hR.out]), hbw.trans b1⟩

end Go.Proofs.YtpoafhgbhnblmaaGreatDoor
namespace Go.Pub
theorem labB_yes (c : Int) (h : labB c = true) : inB c letterL = true ∨ (inB c letterL = false ∧ (digitB c = true ∨ (digitB c = false ∧ ((c == 32) = true ∨ ((c == 32) = false ∧ ((c == 45) = true ∨ ((c == 45) = false ∧ ((c == 95) = true ∨ ((c == 95) = false ∧ ((c == 46) = true ∨ ((c == 46) = false ∧ (c == 58) = true))))))))))) := by
  unfold labB at h
  cases h1 : inB c letterL <;> cases h2 : digitB c <;> cases h3 : c == 32 <;> cases h4 : c == 45 <;> cases h5 : c == 95 <;> cases h6 : c == 46 <;> cases h7 : c == 58 <;> simp_all
theorem labB_no (c : Int) (h : labB c = false) : inB c letterL = false ∧ digitB c = false ∧ (c == 32) = false ∧ (c == 45) = false ∧ (c == 95) = false ∧ (c == 46) = false ∧ (c == 58) = false := by
  unfold labB at h
  simp only [Bool.or_eq_false_iff] at h
  exact ⟨h.1.1.1.1.1.1, h.1.1.1.1.1.2, h.1.1.1.1.2, h.1.1.1.2, h.1.1.2, h.1.2, h.2⟩
end Go.Pub
namespace Go.Proofs.YtpoafhgbhnblmaaGreatDoor
open Go.RowKit Go.Pub
def LbRel (g : ByteArray) (w w1 : World) (v : Value) (wr : World) : Prop :=
  ∃ (pos f : Nat) (acc : List (Nat × Nat)), v = .string g ∧ wr.heap[w1.heap.size]? = some (.stringIter g pos) ∧ Below w.heap.size w wr ∧ Hid (acc ++ ptsFrom g f pos = pts g) ∧ Hid (acc.all (fun p => labB p.1) = true) ∧ g.size ≤ pos + f ∧ pos ≤ g.size
end Go.Proofs.YtpoafhgbhnblmaaGreatDoor
namespace Go.Pub
/-- Without the spaces ahead. -/
def trimF (l : List UInt8) : List UInt8 := l.dropWhile (· == 32)
/-- Without the spaces at the end. -/
def trimR (l : List UInt8) : List UInt8 := (l.reverse.dropWhile (· == 32)).reverse
def trimS (l : List UInt8) : List UInt8 := trimR (trimF l)
theorem trimR_sp (l : List UInt8) : trimR (l ++ [32]) = trimR l := by
  unfold trimR
  rw [List.reverse_append]
  show ((32 :: l.reverse).dropWhile _).reverse = _
  rw [List.dropWhile_cons_of_pos (by decide)]
theorem trimR_no (l : List UInt8) (c : UInt8) (h : c ≠ 32) : trimR (l ++ [c]) = l ++ [c] := by
  unfold trimR
  rw [List.reverse_append]
  show ((c :: l.reverse).dropWhile _).reverse = _
  rw [List.dropWhile_cons_of_neg (by simpa using h)]
  simp
theorem trimF_sp (l : List UInt8) : trimF (32 :: l) = trimF l := by
  unfold trimF; rw [List.dropWhile_cons_of_pos (by decide)]
theorem trimF_no (l : List UInt8) (c : UInt8) (h : c ≠ 32) : trimF (c :: l) = c :: l := by
  unfold trimF; rw [List.dropWhile_cons_of_neg (by simpa using h)]
/-- The number of spaces ahead. -/
def indN : List UInt8 → Nat
  | [] => 0
  | c :: l => if c = 32 then indN l + 1 else 0
theorem trimF_ind : ∀ l : List UInt8, trimF l = l.drop (indN l)
  | [] => rfl
  | c :: l => by
    unfold indN
    split
    · rename_i h; subst h; rw [trimF_sp, trimF_ind l]; rfl
    · rename_i h; rw [trimF_no _ _ h]; rfl
theorem indN_le : ∀ l : List UInt8, indN l ≤ l.length
  | [] => Nat.le_refl _
  | c :: l => by unfold indN; have := indN_le l; split <;> simp <;> omega
theorem trimR_pre (l : List UInt8) : ∃ r, l = trimR l ++ r := by
  unfold trimR
  refine ⟨(l.reverse.takeWhile (· == 32)).reverse, ?_⟩
  rw [← List.reverse_append, List.takeWhile_append_dropWhile, List.reverse_reverse]
theorem trimS_len (l : List UInt8) : (trimS l).length ≤ l.length := by
  unfold trimS
  obtain ⟨r, hr⟩ := trimR_pre (trimF l)
  have := congrArg List.length hr
  rw [List.length_append, trimF_ind, List.length_drop] at this
  rw [trimF_ind] at *
  omega
/-- A byte ahead of the first part. -/
def ahead (c : UInt8) : List (List UInt8) → List (List UInt8)
  | [] => [[c]]
  | h :: t => (c :: h) :: t
/-- The parts between the separators; e: a backslash stands ahead. -/
def splitGo : Bool → List UInt8 → List (List UInt8)
  | _, [] => [[]]
  | e, c :: l => if c = 124 ∧ e = false then [] :: splitGo false l else ahead c (splitGo (c == 92) l)
theorem splitGo_sep (l : List UInt8) : splitGo false (124 :: l) = [] :: splitGo false l := by
  show (if (124 : UInt8) = 124 ∧ false = false then _ else _) = _
  rw [if_pos ⟨rfl, rfl⟩]
theorem splitGo_no (e : Bool) (c : UInt8) (l : List UInt8) (h : ¬ (c = 124 ∧ e = false)) : splitGo e (c :: l) = ahead c (splitGo (c == 92) l) := by
  show (if _ then _ else _) = _
  rw [if_neg h]
theorem splitGo_ne : ∀ (l : List UInt8) (e : Bool), splitGo e l ≠ []
  | [], _ => by simp [splitGo]
  | c :: l, e => by
    unfold splitGo
    split
    · simp
    · have := splitGo_ne l (c == 92)
      cases h : splitGo (c == 92) l with
      | nil => exact absurd h this
      | cons a b => simp [ahead]
/-- A text ahead of the first part. -/
def aheadL : List UInt8 → List (List UInt8) → List (List UInt8)
  | p, [] => [p]
  | p, h :: t => (p ++ h) :: t
theorem aheadL_snoc (p : List UInt8) (c : UInt8) (ls : List (List UInt8)) (h : ls ≠ []) : aheadL p (ahead c ls) = aheadL (p ++ [c]) ls := by
  cases ls with
  | nil => exact absurd rfl h
  | cons a b => simp [ahead, aheadL]
theorem aheadL_nil (ls : List (List UInt8)) (h : ls ≠ []) : aheadL [] ls = ls := by
  cases ls with
  | nil => exact absurd rfl h
  | cons a b => rfl
/-- The byte at i is a separator. -/
def sepB (s : ByteArray) (i : Nat) : Bool := bt s i == 124 && (i == 0 || bt s (i - 1) != 92)
/-- A backslash stands ahead of i. -/
def slB (s : ByteArray) (i : Nat) : Bool := decide (0 < i) && bt s (i - 1) == 92
/-- The parts from i on, the first of which began at a. -/
def restP (s : ByteArray) (a i : Nat) : List (List UInt8) := aheadL (sub s a i) (splitGo (slB s i) (sfx s i))
theorem sub_self (s : ByteArray) (i : Nat) : sub s i i = [] := by unfold sub; simp
theorem sub_snoc (s : ByteArray) (a i : Nat) (h : a ≤ i) (hi : i < s.size) : sub s a (i + 1) = sub s a i ++ [s.get! i] := by
  unfold sub
  rw [show i + 1 - a = (i - a) + 1 by omega, List.take_add_one]
  congr 1
  rw [List.getElem?_drop, show a + (i - a) = i by omega]
  have := sfx_cons s i hi
  unfold sfx at this
  have h2 : (bytesL s)[i]? = some (s.get! i) := by
    rw [← List.head?_drop, this]; rfl
  rw [h2]; rfl
theorem sepB_iff (s : ByteArray) (i : Nat) : sepB s i = true ↔ (s.get! i = 124 ∧ slB s i = false) := by
  have h : s.get! i = 124 ↔ bt s i = 124 := bt_u8 s i 124 (by decide)
  unfold sepB slB
  rw [h]
  simp only [Bool.and_eq_true, Bool.or_eq_true, beq_iff_eq, bne_iff_ne, ne_eq, Bool.and_eq_false_iff, decide_eq_false_iff_not, beq_eq_false_iff_ne]
  constructor
  · rintro ⟨h1, h2 | h2⟩
    · exact ⟨h1, Or.inl (by omega)⟩
    · exact ⟨h1, Or.inr h2⟩
  · rintro ⟨h1, h2 | h2⟩
    · exact ⟨h1, Or.inl (by omega)⟩
    · exact ⟨h1, Or.inr h2⟩
theorem slB_succ (s : ByteArray) (i : Nat) : slB s (i + 1) = (s.get! i == 92) := by
  have h : s.get! i = 92 ↔ bt s i = 92 := bt_u8 s i 92 (by decide)
  unfold slB
  rw [Bool.eq_iff_iff]
  simp only [Nat.add_sub_cancel, Bool.and_eq_true, decide_eq_true_eq, beq_iff_eq, h]
  exact ⟨fun e => e.2, fun e => ⟨by omega, e⟩⟩
theorem restP_sep (s : ByteArray) (a i : Nat) (hi : i < s.size) (h : sepB s i = true) : restP s a i = sub s a i :: restP s (i + 1) (i + 1) := by
  obtain ⟨h1, h2⟩ := (sepB_iff s i).1 h
  unfold restP
  rw [sfx_cons s i hi, h2, h1, splitGo_sep, sub_self, aheadL_nil _ (splitGo_ne _ _), slB_succ, h1]
  show (sub s a i ++ []) :: _ = _
  rw [List.append_nil]; rfl
theorem restP_no (s : ByteArray) (a i : Nat) (ha : a ≤ i) (hi : i < s.size) (h : sepB s i = false) : restP s a i = restP s a (i + 1) := by
  have h' : ¬ (s.get! i = 124 ∧ slB s i = false) := fun e => by rw [(sepB_iff s i).2 e] at h; exact absurd h (by simp)
  unfold restP
  rw [sfx_cons s i hi, splitGo_no _ _ _ h', aheadL_snoc _ _ _ (splitGo_ne _ _), sub_snoc s a i ha hi, slB_succ]
theorem restP_end (s : ByteArray) (a i : Nat) (hi : s.size ≤ i) : restP s a i = [sub s a i] := by
  unfold restP
  rw [sfx_nil s i hi]
  show [sub s a i ++ []] = _
  rw [List.append_nil]
theorem restP_zero (s : ByteArray) : restP s 0 0 = splitGo false (bytesL s) := by
  unfold restP
  rw [sub_self, aheadL_nil _ (splitGo_ne _ _)]; rfl
theorem splitGo_len : ∀ (l : List UInt8) (e : Bool), (splitGo e l).length ≤ l.length + 1
  | [], _ => by simp [splitGo]
  | c :: l, e => by
    unfold splitGo
    split
    · have := splitGo_len l false; simp; omega
    · have := splitGo_len l (c == 92)
      have h := splitGo_ne l (c == 92)
      cases hs : splitGo (c == 92) l with
      | nil => exact absurd hs h
      | cons a b => rw [hs] at this; simp [ahead] at this ⊢; omega
theorem splitGo_mem : ∀ (l : List UInt8) (e : Bool), ∀ p ∈ splitGo e l, p.length ≤ l.length
  | [], _, p, hp => by simp [splitGo] at hp; subst hp; simp
  | c :: l, e, p, hp => by
    unfold splitGo at hp
    split at hp
    · rcases List.mem_cons.1 hp with rfl | hp
      · simp
      · have := splitGo_mem l false p hp; simp; omega
    · cases hs : splitGo (c == 92) l with
      | nil => exact absurd hs (splitGo_ne _ _)
      | cons a b =>
        rw [hs] at hp
        rcases List.mem_cons.1 hp with rfl | hp
        · have := splitGo_mem l (c == 92) a (by rw [hs]; exact List.mem_cons_self); simp; omega
        · have := splitGo_mem l (c == 92) p (by rw [hs]; exact List.mem_cons_of_mem _ hp); simp; omega
/-- A bar behind a backslash becomes a bar. -/
def unbarL : List UInt8 → List UInt8
  | [] => []
  | c :: l => if c = 92 ∧ l.head? = some 124 then (match l with | [] => [] | d :: l' => d :: unbarL l') else c :: unbarL l
theorem unbarL_cons (c : UInt8) (l : List UInt8) : unbarL (c :: l) = if c = 92 ∧ l.head? = some 124 then (match l with | [] => [] | d :: l' => d :: unbarL l') else c :: unbarL l := by cases l <;> rfl
theorem unbarL_hit (l : List UInt8) : unbarL (92 :: 124 :: l) = 124 :: unbarL l := by rw [unbarL_cons, if_pos ⟨rfl, rfl⟩]
theorem unbarL_no (c : UInt8) (l : List UInt8) (h : ¬ (c = 92 ∧ l.head? = some 124)) : unbarL (c :: l) = c :: unbarL l := by rw [unbarL_cons, if_neg h]
def oldU : List UInt8 := [92, 124]
theorem occ_old (l : List UInt8) (i : Nat) : Lib.occAt l oldU i = true ↔ ((l.drop i).head? = some 92 ∧ (l.drop (i + 1)).head? = some 124) := by
  unfold Lib.occAt oldU
  rw [← List.drop_drop]
  generalize l.drop i = m
  cases m with
  | nil => simp
  | cons a m =>
    cases m with
    | nil => simp
    | cons b m =>
      show ((92 : UInt8) == a && ((124 : UInt8) == b && true)) = true ↔ (some a = some 92 ∧ some b = some 124)
      simp only [Bool.and_true, Bool.and_eq_true, beq_iff_eq, Option.some.injEq]
      exact ⟨fun h => ⟨h.1.symm, h.2.symm⟩, fun h => ⟨h.1.symm, h.2.symm⟩⟩
theorem occ_zero (c : UInt8) (l : List UInt8) : Lib.occAt (c :: l) oldU 0 = true ↔ (c = 92 ∧ l.head? = some 124) := by
  rw [occ_old]; simp
theorem occ_succ (c : UInt8) (l s : List UInt8) (i : Nat) : Lib.occAt (c :: l) s (i + 1) = Lib.occAt l s i := rfl
theorem unbar_none : ∀ l : List UInt8, (∀ j, j ≤ l.length → Lib.occAt l oldU j = false) → unbarL l = l
  | [], _ => rfl
  | c :: l, h => by
    rw [unbarL_no c l (fun e => by have := h 0 (by simp); rw [(occ_zero c l).2 e] at this; exact absurd this (by simp)), unbar_none l (fun j hj => by rw [← occ_succ c]; exact h (j + 1) (by simp; omega))]
theorem unbar_first : ∀ (i : Nat) (l : List UInt8), Lib.occAt l oldU i = true → Lib.NoOcc l oldU i → unbarL l = l.take i ++ [124] ++ unbarL (l.drop (i + 2))
  | 0, l, h, _ => by
    match l with
    | [] => simp [Lib.occAt, oldU] at h
    | [c] => rw [occ_zero] at h; simp at h
    | c :: d :: l =>
      rw [occ_zero] at h
      obtain ⟨rfl, h⟩ := h
      obtain rfl : d = 124 := by simpa using h
      rw [unbarL_hit]; rfl
  | i + 1, l, h, hn => by
    match l with
    | [] => simp [Lib.occAt, oldU] at h
    | c :: l =>
      rw [occ_succ] at h
      have h0 := hn 0 (by omega)
      rw [unbarL_no c l (fun e => by rw [(occ_zero c l).2 e] at h0; exact absurd h0 (by simp)), unbar_first i l h (fun j hj => by rw [← occ_succ c]; exact hn (j + 1) (by omega))]
      rfl
theorem repl_unbar : ∀ (n : Nat) (l : List UInt8), l.length ≤ n → Lib.replaceK oldU [124] (Lib.count l oldU) l = unbarL l
  | n, l, hl => by
    rcases Lib.index_spec l oldU with ⟨h1, h2⟩ | ⟨i, h1, h2, h3, h4⟩
    · rw [Lib.count_miss h1, unbar_none l h2]; rfl
    · have hr := Lib.index_room l oldU (by rw [h1]; omega)
      rw [h1] at hr
      have hr2 : i + 2 ≤ l.length := by have : oldU.length = 2 := rfl; omega
      rw [Lib.count_hit (by decide) h1, Nat.add_comm, Lib.replaceK_hit _ _ _ _ i h1, unbar_first i l h3 h4]
      match n with
      | 0 => omega
      | n + 1 => rw [repl_unbar n (l.drop (i + oldU.length)) (by rw [List.length_drop]; have : oldU.length = 2 := rfl; omega)]; rfl
end Go.Pub
namespace Go.Pub
/-- The first byte from k on that is no space. -/
def indA (s : ByteArray) (k : Nat) : Nat := k + indN (sfx s k)
theorem g32 (s : ByteArray) (k : Nat) : s.get! k = 32 ↔ bt s k = 32 := bt_u8 s k 32 (by decide)
theorem indA_end (s : ByteArray) (k : Nat) (h : s.size ≤ k) : indA s k = k := by unfold indA; rw [sfx_nil s k h]; rfl
theorem indA_yes (s : ByteArray) (k : Nat) (h : k < s.size) (hc : bt s k = 32) : indA s k = indA s (k + 1) := by
  unfold indA; rw [sfx_cons s k h]
  show k + (if s.get! k = 32 then indN (sfx s (k + 1)) + 1 else 0) = _
  rw [if_pos ((g32 s k).2 hc)]; omega
theorem indA_no (s : ByteArray) (k : Nat) (h : k < s.size) (hc : bt s k ≠ 32) : indA s k = k := by
  unfold indA; rw [sfx_cons s k h]
  show k + (if s.get! k = 32 then indN (sfx s (k + 1)) + 1 else 0) = _
  rw [if_neg (fun e => hc ((g32 s k).1 e))]; rfl
theorem indA_le (s : ByteArray) : indA s 0 ≤ s.size := by
  unfold indA; have := indN_le (sfx s 0); rw [sfx_len] at this; omega
theorem ind_extract (s : ByteArray) : bytesL (s.extract (indA s 0) s.size) = trimF (bytesL s) := by
  rw [extract_drop, bytesL_mk', trimF_ind]
  unfold sfx indA sfx
  rw [List.drop_zero, Nat.zero_add]
theorem bytesL_snoc (x : ByteArray) (h : 0 < x.size) : bytesL x = bytesL (x.extract 0 (x.size - 1)) ++ [x.get! (x.size - 1)] := by
  have := sub_snoc x 0 (x.size - 1) (by omega) (by omega)
  rw [show x.size - 1 + 1 = x.size by omega] at this
  have e : sub x 0 x.size = bytesL x := by
    unfold sub; rw [List.drop_zero, List.take_of_length_le (by rw [bytesL_length]; omega)]
  rw [← e, this, bytesL_sub]
theorem trim_step (x : ByteArray) (h : 0 < x.size) (hc : bt x (x.size - 1) = 32) : trimR (bytesL x) = trimR (bytesL (x.extract 0 (x.size - 1))) := by
  rw [bytesL_snoc x h, (g32 x _).2 hc, trimR_sp]
theorem trim_stop (x : ByteArray) (h : 0 < x.size) (hc : bt x (x.size - 1) ≠ 32) : trimR (bytesL x) = bytesL x := by
  rw [bytesL_snoc x h, trimR_no _ _ (fun e => hc ((g32 x _).1 e))]
theorem trim_zero (x : ByteArray) (h : x.size = 0) : trimR (bytesL x) = bytesL x := by
  rw [(size_nil x).1 h]; rfl
def strLen : Value → Nat
  | .string b => b.size
  | _ => 0
end Go.Pub
namespace Go.Proofs.YtpoafhgbhnblmaaGreatDoor
open Go.RowKit Go.Pub
set_option maxRecDepth 100000 in
set_option maxHeartbeats 1000000 in
theorem t_indent (s : ByteArray) (w : World) (hs : s.size ≤ 1000000) : Calls Tryz.prog 58 #[.string s] w fun e w' => e = .returned (.int .i64 (indA s 0)) ∧ w = w' := by
  generalize hR : indA s 0 = R at *
  have HR := Lib.hid hR
  clear hR
  go_enter Tryz.func58, Tryz.ntmps58
  go_wp2
  go_loop [3] (fun v => ∃ k : Nat, k ≤ s.size ∧ v = .int .i64 k ∧ Hid (indA s k = R)) (fun v => s.size - (intOf v).toNat)
  case atStart => exact ⟨0, by omega, rfl, HR⟩
  case round =>
    obtain ⟨k, hk, rfl, Hk⟩ := hrel
    by_cases hlt : k < s.size
    · have hlt2 : ((s[k].toNat : Nat) : Int) < 256 := by rw [get_bt s k hlt]; have := bt_lt s k; omega
      by_cases hc : bt s k = 32
      · have z : (((s[k].toNat : Nat) : Int) == 32) = true := by rw [get_bt s k hlt, hc]; rfl
        have HF : Hid (indA s (k + 1) = R) := Lib.hid (by rw [← Hk.out, indA_yes s k hlt hc])
        clear hc
        go_wp2_with fail
        go_round
        case rel => exact ⟨k + 1, by omega, by go_num, HF⟩
        case measure => simp [intOf]; omega
      · have z : (((s[k].toNat : Nat) : Int) == 32) = false := by rw [get_bt s k hlt, beq_eq_false_iff_ne]; omega
        have HF : Hid (k = R) := Lib.hid (by rw [← Hk.out, indA_no s k hlt hc])
        clear hc
        go_wp2_with fail
        go_ret
        exact ⟨ret_int (by rw [HF.out]), rfl⟩
    · have HF : Hid (k = R) := Lib.hid (by rw [← Hk.out, indA_end s k (by omega)])
      go_wp2_with fail
      go_ret
      exact ⟨ret_int (by rw [HF.out]), rfl⟩

set_option maxRecDepth 100000 in
set_option maxHeartbeats 1000000 in
theorem r_indent (s : ByteArray) (w : World) (hs : s.size ≤ 1000000) : Calls Tryz.prog 26 #[.string s] w fun e w' => e = .returned (.int .i64 (indA s 0)) ∧ w = w' := by
  generalize hR : indA s 0 = R at *
  have HR := Lib.hid hR
  clear hR
  go_enter Tryz.func26, Tryz.ntmps26
  go_wp2
  go_loop [3] (fun v => ∃ k : Nat, k ≤ s.size ∧ v = .int .i64 k ∧ Hid (indA s k = R)) (fun v => s.size - (intOf v).toNat)
  case atStart => exact ⟨0, by omega, rfl, HR⟩
  case round =>
    obtain ⟨k, hk, rfl, Hk⟩ := hrel
    by_cases hlt : k < s.size
    · have hlt2 : ((s[k].toNat : Nat) : Int) < 256 := by rw [get_bt s k hlt]; have := bt_lt s k; omega
      by_cases hc : bt s k = 32
      · have z : (((s[k].toNat : Nat) : Int) == 32) = true := by rw [get_bt s k hlt, hc]; rfl
        have HF : Hid (indA s (k + 1) = R) := Lib.hid (by rw [← Hk.out, indA_yes s k hlt hc])
        clear hc
        go_wp2_with fail
        go_round
        case rel => exact ⟨k + 1, by omega, by go_num, HF⟩
        case measure => simp [intOf]; omega
      · have z : (((s[k].toNat : Nat) : Int) == 32) = false := by rw [get_bt s k hlt, beq_eq_false_iff_ne]; omega
        have HF : Hid (k = R) := Lib.hid (by rw [← Hk.out, indA_no s k hlt hc])
        clear hc
        go_wp2_with fail
        go_ret
        exact ⟨ret_int (by rw [HF.out]), rfl⟩
    · have HF : Hid (k = R) := Lib.hid (by rw [← Hk.out, indA_end s k (by omega)])
      go_wp2_with fail
      go_ret
      exact ⟨ret_int (by rw [HF.out]), rfl⟩

set_option maxRecDepth 100000 in
set_option maxHeartbeats 1000000 in
theorem t_trim (s : ByteArray) (w : World) (hs : s.size ≤ 1000000) : Calls Tryz.prog 105 #[.string s] w fun e w' => e = .returned (.string (mk (trimS (bytesL s)))) ∧ w = w' := by
  have HI := Lib.hid fun W => t_indent s W hs
  have hi := indA_le s
  have HX := Lib.hid (show trimR (bytesL (s.extract (indA s 0) s.size)) = trimS (bytesL s) by rw [ind_extract]; rfl)
  have hz : (s.extract (indA s 0) s.size).size ≤ s.size := by rw [ByteArray.size_extract]; omega
  generalize trimS (bytesL s) = R at *
  generalize indA s 0 = I at *
  go_enter Tryz.func105, Tryz.ntmps105
  go_wp2_with fail
  ((with_reducible refine (HI.out _).mono ?_))
  rintro e w0 ⟨rfl, rfl⟩
  go_wp2_with fail
  go_loop [0] (fun v => ∃ x : ByteArray, v = .string x ∧ x.size ≤ s.size ∧ Hid (trimR (bytesL x) = R)) (fun v => strLen v)
  case atStart => exact ⟨_, rfl, hz, HX⟩
  case round =>
    clear hz HX
    obtain ⟨x, rfl, hx, Hx⟩ := hrel
    by_cases h0 : x.size = 0
    · have HF : Hid (mk R = x) := Lib.hid (by rw [← Hx.out, trim_zero x h0, mk_bytesL])
      obtain ⟨x1, x2⟩ := nil_list x ((size_nil x).1 h0)
      go_wp2_with fail
      go_ret
      exact ⟨ret_str HF.out.symm, rfl⟩
    · obtain ⟨x1, x2⟩ := cons_list x (fun e => h0 ((size_nil x).2 e))
      have hpos : 0 < x.size := by omega
      have hlt : x.size - 1 < x.size := by omega
      have hcast : ((x.size : Int) - 1) = ((x.size - 1 : Nat) : Int) := by omega
      have hnat : ((x.size : Int) - 1).toNat = x.size - 1 := by omega
      by_cases hc : bt x (x.size - 1) = 32
      · have z : (((x[x.size - 1].toNat : Nat) : Int) == 32) = true := by rw [get_bt x _ hlt, hc]; rfl
        have HF : Hid (trimR (bytesL (x.extract 0 (x.size - 1))) = R) := Lib.hid (by rw [← Hx.out, trim_step x hpos hc])
        have hz : (x.extract 0 (x.size - 1)).size = x.size - 1 := by rw [ByteArray.size_extract]; omega
        clear hc h0
        go_wp2_with fail
        go_round
        case rel => exact ⟨_, by rfl, by rw [hz]; omega, HF⟩
        case measure => simp only [strLen]; rw [hz]; omega
      · have z : (((x[x.size - 1].toNat : Nat) : Int) == 32) = false := by rw [get_bt x _ hlt, beq_eq_false_iff_ne]; omega
        have HF : Hid (mk R = x) := Lib.hid (by rw [← Hx.out, trim_stop x hpos hc, mk_bytesL])
        clear hc h0
        go_wp2_with fail
        go_ret
        exact ⟨ret_str HF.out.symm, rfl⟩

set_option maxRecDepth 100000 in
set_option maxHeartbeats 1000000 in
theorem t_sep (s : ByteArray) (i : Nat) (w : World) (hs : s.size ≤ 1000000) (hi : i < s.size) : Calls Tryz.prog 213 #[.string s, .int .i64 i] w fun e w' => e = .returned (.bool (sepB s i)) ∧ w = w' := by
  have hE : sepB s i = (bt s i == 124 && (i == 0 || bt s (i - 1) != 92)) := rfl
  by_cases h1 : bt s i = 124
  · have z1 : (((s[i].toNat : Nat) : Int) == 124) = true := by rw [get_bt s i hi, h1]; rfl
    by_cases h2 : i = 0
    · subst h2
      have HF : Hid (sepB s 0 = true) := Lib.hid (by rw [hE, h1]; rfl)
      clear hE h1
      generalize sepB s 0 = R at *
      go_enter Tryz.func213, Tryz.ntmps213
      go_wp2_with fail
      go_ret
      exact ⟨ret_bool HF.out.symm, rfl⟩
    · have hlt : i - 1 < s.size := by omega
      have hnat : ((i : Int) - 1).toNat = i - 1 := by omega
      have HF : Hid (sepB s i = ((i : Int) == 0 || ((s[i - 1].toNat : Nat) : Int) != 92)) := Lib.hid (by
        rw [hE, h1, get_bt s _ hlt, show (i == 0) = false by rw [beq_eq_false_iff_ne]; exact h2, show ((i : Int) == 0) = false by rw [beq_eq_false_iff_ne]; omega]
        show (bt s (i - 1) != 92) = (((bt s (i - 1) : Nat) : Int) != 92)
        rw [Bool.eq_iff_iff]; simp only [bne_iff_ne, ne_eq]; omega)
      clear hE h1
      generalize sepB s i = R at *
      go_enter Tryz.func213, Tryz.ntmps213
      go_wp2_with fail
      go_ret
      exact ⟨ret_bool HF.out.symm, rfl⟩
  · have z1 : (((s[i].toNat : Nat) : Int) == 124) = false := by rw [get_bt s i hi, beq_eq_false_iff_ne]; omega
    have HF : Hid (sepB s i = false) := Lib.hid (by rw [hE, beq_eq_false_iff_ne.2 h1]; rfl)
    clear hE h1
    generalize sepB s i = R at *
    go_enter Tryz.func213, Tryz.ntmps213
    go_wp2_with fail
    go_ret
    exact ⟨ret_bool HF.out.symm, rfl⟩

end Go.Proofs.YtpoafhgbhnblmaaGreatDoor
namespace Go.Pub
/-- A part, with its bound. -/
abbrev Pt := { x : ByteArray // x.size ≤ 1000000 }
def toPt (p : List UInt8) : Pt := if h : p.length ≤ 1000000 then ⟨mk p, by rw [mk_size]; exact h⟩ else ⟨⟨#[]⟩, by show 0 ≤ _; omega⟩
theorem toPt_val (p : List UInt8) (h : p.length ≤ 1000000) : (toPt p).1 = mk p := by unfold toPt; rw [dif_pos h]
theorem extract_sub (s : ByteArray) (a i : Nat) : s.extract a i = mk (sub s a i) := by rw [← bytesL_sub, mk_bytesL]
theorem toPt_sub (s : ByteArray) (a i : Nat) (h : s.size ≤ 1000000) : (toPt (sub s a i)).1 = s.extract a i := by
  rw [toPt_val _ (by have := sub_len s a i; omega), extract_sub]
/-- The line without the spaces around it and the bar ahead. -/
def core1 (l : List UInt8) : ByteArray := mk (Lib.trimPrefix (trimS l) [124])
/-- What is parted. -/
def coreB (l : List UInt8) : ByteArray := if 0 < (core1 l).size ∧ sepB (core1 l) ((core1 l).size - 1) = true then (core1 l).extract 0 ((core1 l).size - 1) else core1 l
/-- The parts of a line. -/
def partsL (l : List UInt8) : List (List UInt8) := splitGo false (bytesL (coreB l))
theorem core1_size (l : List UInt8) : (core1 l).size ≤ l.length := by
  unfold core1 Lib.trimPrefix
  rw [mk_size]
  have := trimS_len l
  split
  · rw [List.length_drop]; omega
  · exact this
theorem coreB_size (l : List UInt8) : (coreB l).size ≤ l.length := by
  have := core1_size l
  unfold coreB
  split
  · rw [ByteArray.size_extract]; omega
  · exact this
end Go.Pub
namespace Go.Proofs.YtpoafhgbhnblmaaGreatDoor
open Go.RowKit Go.Pub Go.Shelf
attribute [local go_sem] Oper.semAt_some
set_option maxRecDepth 100000 in
set_option maxHeartbeats 1000000 in
theorem t_parts (s : ByteArray) (w : World) (hs : s.size ≤ 1000000) : Calls Tryz.prog 171 #[.string s] w fun e w' =>
    e = .returned (.func (.func 214) #[] #[.pointer (some ⟨w.heap.size, 0, none⟩)]) ∧ w' = w.alloc (.cells #[.string (coreB (bytesL s))] 9) := by
  have HT := Lib.hid fun W => t_trim s W hs
  have HP : Hid (∀ W, Calls Tryz.prog 212 #[.string (mk (trimS (bytesL s))), .string ⟨#[124]⟩] W fun e w' => e = .returned (.string (core1 (bytesL s))) ∧ w' = W) := Lib.hid fun W => by
    have h := Tryz.strings_TrimPrefix (mk (trimS (bytesL s))) ⟨#[124]⟩ W
    exact h
  have HX : Hid (coreB (bytesL s) = if 0 < (core1 (bytesL s)).size ∧ sepB (core1 (bytesL s)) ((core1 (bytesL s)).size - 1) = true then (core1 (bytesL s)).extract 0 ((core1 (bytesL s)).size - 1) else core1 (bytesL s)) := Lib.hid rfl
  have hz := core1_size (bytesL s)
  rw [bytesL_length] at hz
  generalize coreB (bytesL s) = R at *
  generalize core1 (bytesL s) = C at *
  generalize mk (trimS (bytesL s)) = T at *
  by_cases h0 : 0 < C.size
  · have hnat : ((C.size : Int) - 1).toNat = C.size - 1 := by omega
    have hcast : ((C.size : Int) - 1) = ((C.size - 1 : Nat) : Int) := by omega
    have HS := Lib.hid fun W => t_sep C (C.size - 1) W (by omega) (by omega)
    cases hsb : sepB C (C.size - 1)
    · have HF : Hid (R = C) := Lib.hid (by rw [HX.out, if_neg (by rw [hsb]; simp)])
      rw [hsb] at HS
      clear hsb
      go_enter Tryz.func171, Tryz.ntmps171
      go_wp2_with fail
      ((with_reducible refine (HT.out _).mono ?_))
      rintro e w0 ⟨rfl, rfl⟩
      go_wp2_with fail
      ((with_reducible refine (HP.out _).mono ?_))
      rintro e w0 ⟨rfl, rfl⟩
      go_wp2_with fail
      ((with_reducible refine (HS.out _).mono ?_))
      rintro e w0 ⟨rfl, rfl⟩
      go_wp2_with fail
      go_ret
      exact ⟨rfl, by rw [HF.out]⟩
    · have HF : Hid (R = C.extract 0 (C.size - 1)) := Lib.hid (by rw [HX.out, if_pos ⟨h0, hsb⟩])
      rw [hsb] at HS
      clear hsb
      go_enter Tryz.func171, Tryz.ntmps171
      go_wp2_with fail
      ((with_reducible refine (HT.out _).mono ?_))
      rintro e w0 ⟨rfl, rfl⟩
      go_wp2_with fail
      ((with_reducible refine (HP.out _).mono ?_))
      rintro e w0 ⟨rfl, rfl⟩
      go_wp2_with fail
      ((with_reducible refine (HS.out _).mono ?_))
      rintro e w0 ⟨rfl, rfl⟩
      go_wp2_with fail
      go_ret
      exact ⟨rfl, by rw [HF.out]⟩
  · have HF : Hid (R = C) := Lib.hid (by rw [HX.out, if_neg (fun e => h0 e.1)])
    go_enter Tryz.func171, Tryz.ntmps171
    go_wp2_with fail
    ((with_reducible refine (HT.out _).mono ?_))
    rintro e w0 ⟨rfl, rfl⟩
    go_wp2_with fail
    ((with_reducible refine (HP.out _).mono ?_))
    rintro e w0 ⟨rfl, rfl⟩
    go_wp2_with fail
    go_ret
    exact ⟨rfl, by rw [HF.out]⟩

/-- A round keeps what the iterator has captured. -/
def KpB (Bn : Nat) (W W' : World) : Prop := W'.heap[Bn]? = W.heap[Bn]?
set_option maxRecDepth 100000 in
set_option maxHeartbeats 2000000 in
theorem parts_stops (n : Nat) (hn : 1 ≤ n) (Bn : Nat) (s : ByteArray) (hs : s.size ≤ 1000000) (w : World) (hB : w.heap[Bn]? = some (.cells #[.string s] 9 (0, 0))) :
    SeqStopsK Fence.wide n Tryz.prog 214 #[.pointer (some ⟨Bn, 0, none⟩)] (fun x : Pt => #[Value.string x.1]) (KpB Bn) (fun ys => ys = (restP s 0 0).map toPt) (fun pre => pre <+: (restP s 0 0).map toPt) (restP s 0 0).length w := fun l J Jx W hW _ _ hY h0 => by
  have hlt : Bn < w.heap.size := by
    rcases Nat.lt_or_ge Bn w.heap.size with h | h
    · exact h
    · rw [Array.getElem?_eq_none h] at hB; cases hB
  have hBW : W.heap[Bn]? = some (.cells #[.string s] 9 (0, 0)) := (hW.block Bn hlt).trans hB
  have hcW : W.cell? ⟨Bn, 0, none⟩ = some (.string s) := cell_of_row W Bn 0 _ _ _ hBW
  have HA : Hid (restP s 0 0 = restP s 0 0) := Lib.hid rfl
  generalize hall : restP s 0 0 = all at *
  have HALL := Lib.hid hall
  clear hall HA
  refine callsIn_of_wp Tryz.func214 rfl trivial ?_ rfl
  simp only [Tryz.ntmps214, List.size_toArray, List.length_cons, List.length_nil, Nat.reduceAdd, Nat.reduceSub, Array.replicate_succ, Array.replicate_zero, List.push_toArray, List.append_toArray, List.nil_append, List.cons_append]
  gi_wp2
  gi_loopw [3, 7] (fun v3 v7 wr => ∃ (a i : Nat) (done : List (List UInt8)), v3 = .int .i64 a ∧ v7 = .int .i64 i ∧ a ≤ i ∧ i ≤ s.size ∧ wr.heap[Bn]? = some (.cells #[.string s] 9 (0, 0)) ∧ Hid (done ++ restP s a i = all) ∧ J (done.map toPt) wr)
    (fun _ v7 _ => s.size - (intOf v7).toNat)
  case atStart => exact ⟨0, 0, [], rfl, rfl, by omega, by omega, hBW, HALL, h0⟩
  case round =>
    clear hcW hBW h0
    obtain ⟨a, i, done, rfl, rfl, hai, hi, hBr, Hall, hJs⟩ := hrel
    have hc : wr.cell? ⟨Bn, 0, none⟩ = some (.string s) := cell_of_row wr Bn 0 _ _ _ hBr
    by_cases hlt2 : i < s.size
    · have HS := Lib.hid fun W => callsIn_wide (n := n - 1).2 (t_sep s i W hs hlt2)
      cases hsb : sepB s i
      · rw [hsb] at HS
        have HN : Hid (done ++ restP s a (i + 1) = all) := Lib.hid (by rw [← restP_no s a i hai hlt2 hsb]; exact Hall.out)
        clear hsb
        gi_wp2_with fail
        refine ⟨trivial, ?_⟩
        ((with_reducible refine (HS.out _).mono ?_))
        rintro e w0 ⟨rfl, rfl⟩
        gi_wp2_with fail
        go_roundw
        case rel => exact ⟨a, i + 1, done, rfl, by go_num, by omega, by omega, hBr, HN, hJs⟩
        case measure => simp [intOf]; omega
      · rw [hsb] at HS
        have HN : Hid (done ++ [sub s a i] ++ restP s (i + 1) (i + 1) = all) := Lib.hid (by rw [← Hall.out, restP_sep s a i hlt2 hsb]; simp)
        clear hsb
        have ex := toPt_sub s a i hs
        obtain ⟨fn, tmps, assign, body, hy, hR⟩ := hY (done.map toPt) (toPt (sub s a i)) wr hJs (by rw [← HN.out]; simp)
        rw [ex] at hy
        gi_wp2_with fail
        refine ⟨trivial, ?_⟩
        ((with_reducible refine (HS.out _).mono ?_))
        rintro e w0 ⟨rfl, rfl⟩
        gi_wp2_with fail
        refine hR.mono ?_
        rintro e W3 (⟨rfl, hJ3, hk3⟩ | ⟨rfl, hJx3⟩)
        · have hB3 : W3.heap[Bn]? = some (.cells #[.string s] 9 (0, 0)) := hk3.trans hBr
          gi_wp2_with fail
          go_roundw
          case rel => exact ⟨i + 1, i + 1, done ++ [sub s a i], by go_num, by go_num, by omega, by omega, hB3, HN, by rw [List.map_append]; exact hJ3⟩
          case measure => simp [intOf]; omega
        · gi_wp2_with fail
          refine bodyPost_ret (results_none rfl _ _ _) rfl ?_
          exact ⟨⟨_, rfl⟩, .inr ⟨_, ⟨(restP s (i + 1) (i + 1)).map toPt, by rw [← HN.out]; simp⟩, hJx3⟩⟩
    · obtain rfl : i = s.size := by omega
      have HN : Hid (done ++ [sub s a s.size] = all) := Lib.hid (by rw [← Hall.out, restP_end s a s.size (Nat.le_refl _)])
      have ex := toPt_sub s a s.size hs
      obtain ⟨fn, tmps, assign, body, hy, hR⟩ := hY (done.map toPt) (toPt (sub s a s.size)) wr hJs (by rw [← HN.out]; simp)
      rw [ex] at hy
      gi_wp2_with fail
      refine hR.mono ?_
      rintro e W3 (⟨rfl, hJ3, hk3⟩ | ⟨rfl, hJx3⟩)
      · gi_wp2_with fail
        go_end0
        exact ⟨⟨_, rfl⟩, .inl ⟨_, by rw [← HN.out]; simp, hJ3⟩⟩
      · gi_wp2_with fail
        go_end0
        exact ⟨⟨_, rfl⟩, .inr ⟨_, ⟨[], by rw [← HN.out]; simp⟩, hJx3⟩⟩

end Go.Proofs.YtpoafhgbhnblmaaGreatDoor
namespace Go.Pub
open Go Go.RowKit
def isDefer : Op → Bool
  | .defer _ => true
  | _ => false
theorem not_defer {o : Op} (h : isDefer o = false) : ∀ c, o ≠ .defer c := by
  rintro c rfl; cases h
theorem opIn_of_wp {P : Program} {o : Oper} {a : Act} {w : World} {K : Act → World → Prop} {Q : Exit → Act → World → Prop} {l n : Nat} (hd : isDefer o.op = false) (h : o.wp P a w K Q) : o.wpIn (Fence.wide.inRound l) n P a w K Q := by
  unfold Oper.wpIn
  unfold Oper.wp at h
  refine ⟨fun _ _ => trivial, ?_⟩
  rw [show (Fence.wide.inRound l).round = some l from rfl, Oper.semAt_some l _ _ (not_defer hd)]
  generalize (execOp a.eval o).run P w = r at *
  cases r with
  | ok x w' =>
    cases x with
    | value v => exact h
    | skip => exact h
    | defer d => exact h
    | enter f args => exact ⟨fun hh => (by cases hh), CallsIn.inRound l (callsIn_wide.2 h)⟩
    | row r args => exact ⟨fun hh => (by cases hh), fun c cs _ => let ⟨v, w', hr, hs⟩ := h c cs; ⟨v, w', hr, stepsIn_wide.2 hs⟩⟩
    | _ => exact h.elim
  | halt x w' => cases x <;> first | exact h | exact h.elim
theorem anyIn_of_any {P : Program} {ops : Array Oper} {Q : Exit → Act → World → Prop} {md : Region.Mode} {l n : Nat} (hd : ∀ (i : Nat) (o : Oper), ops[i]? = some o → isDefer o.op = false) (hlo : LetsOut Q → False) :
    ∀ (fuel : Nat) (listed : Array Bool) (a : Act) (w : World), wpAny P md ops Q fuel listed a w → wpAnyIn (Fence.wide.inRound l) n P md ops Q fuel listed a w
  | 0, _, _, _, h => h
  | fuel + 1, listed, a, w, h => by
    refine ⟨h.1, fun i hi => ?_⟩
    have h1 := h.2 i hi
    unfold wpOp at h1
    unfold wpOpIn
    cases ho : ops[i]? with
    | none =>
      rw [ho] at h1
      exact anyIn_of_any hd hlo fuel _ _ _ h1
    | some o =>
      rw [ho] at h1
      simp only at h1 ⊢
      split
      · rename_i hw
        rw [if_pos hw] at h1
        rcases h1 with h1 | h1
        · exact Oper.wpIn_mono (fun a w h2 => anyIn_of_any hd hlo fuel _ a w h2) (opIn_of_wp (hd i o ho) h1)
        · exact (hlo h1.2).elim
      · rename_i hw
        rw [if_neg hw] at h1
        exact ⟨fun _ _ => trivial, anyIn_of_any hd hlo fuel _ _ _ h1⟩
/-- The region in a round, by the held walk. -/
theorem regionIn_held {P : Program} {ops : List Oper} {Q : Exit → Act → World → Prop} {S : World → Prop} {id l n : Nat} {a : Act} {w : World} (hm : P.follows .mixedOrders = true) (hd : (ops.all fun o => !isDefer o.op) = true) (hlo : LetsOut Q → False) (hS : S w.drew)
    (h : S w.drew → wpAnyH P .any ops.toArray Q S ops.length (Array.replicate ops.length false) a w.drew) : (Code.region id ops.toArray true).wpIn (Fence.wide.inRound l) n P Q a w := by
  refine wpIn_region_any hm ?_
  refine anyIn_of_any (fun i o ho => ?_) hlo _ _ _ _ (wpAny_of_held _ _ _ _ (h hS))
  have hm2 : o ∈ ops := by
    have := List.mem_of_getElem? (l := ops) (i := i) (by simpa using ho)
    exact this
  have := List.all_eq_true.1 hd o hm2
  simpa using this
theorem keeps_of_below {W W' : World} (h : Below W.heap.size W W') : KeepsOthers W W' :=
  ⟨h.size, fun k o hk _ => (h.block k (Array.getElem?_eq_some_iff.1 hk).1).trans hk⟩
theorem own_base {W : World} {b b' : Nat} {e : TypeId} {size : Nat} {v : Value} {k : Nat} {xs : List Value} (h : W.ownsRow b e size v k xs) (hb : b' ≤ b) : W.ownsRow b' e size v k xs := by
  refine ⟨h.1, ?_⟩
  rcases h.2 with ⟨rfl, h0⟩ | ⟨g, cap, cur, rfl, hg, rest⟩
  · exact .inl ⟨rfl, h0⟩
  · exact .inr ⟨g, cap, cur, rfl, Nat.le_trans hb hg, rest⟩
theorem own_far {W : World} {b : Nat} {e : TypeId} {size : Nat} {v : Value} {k : Nat} {xs : List Value} (h : W.ownsRow b e size v k xs) {g : Nat} (hg : g < b) : some g ≠ v.ownBlock := by
  rcases h.2 with ⟨rfl, h0⟩ | ⟨g', cap, cur, rfl, hg', rest⟩
  · simp [Value.ownBlock]
  · intro e'
    have : g = g' := by simpa [Value.ownBlock] using e'
    omega
/-- 'out = append(out, ..)' in a loop, beside a box that the iterator reads. -/
theorem appended2 {W w1 : World} {B : Nat} {t t2 e : TypeId} {size : Nat} {v v' c : Value} {k m : Nat} {xs ys : List Value} {tmp : Obj}
    (hv : Boxed W B t v) (hs : Boxed W (B + 1) t2 c) (hrow : W.ownsRow (B + 2) e size v k xs)
    (hown' : w1.ownsRow (B + 2) e size v' m ys) (hgrow : (W.alloc tmp).grownBy w1 v.ownBlock) :
    Boxed w1 B t v ∧ Boxed (w1.setCell ⟨B, 0, none⟩ v') B t v' ∧ Boxed (w1.setCell ⟨B, 0, none⟩ v') (B + 1) t2 c ∧ (w1.setCell ⟨B, 0, none⟩ v').ownsRow (B + 2) e size v' m ys ∧ KeepsOthers W (w1.setCell ⟨B, 0, none⟩ v') ∧ Below B W (w1.setCell ⟨B, 0, none⟩ v') := by
  have hlt := hs.lt
  have hv1 : Boxed w1 B t v := (hv.alloc tmp).kept hgrow (own_far hrow (by omega))
  have hs1 : Boxed w1 (B + 1) t2 c := (hs.alloc tmp).kept hgrow (own_far hrow (by omega))
  refine ⟨hv1, hv1.set v', hs1.kept (grownBy_setCell' w1 B v') (by simp), hown'.kept (grownBy_setCell' w1 B v') (.inr (own_far hown' (by omega)).symm), ?_, ?_⟩
  · refine ((KeepsOthers.alloc W tmp).trans (KeepsOthers.of_grownBy hgrow fun j o ej hj => ?_)).trans (KeepsOthers.setCell _ _ _)
    rcases (hrow.alloc tmp).2 with ⟨rfl, _⟩ | ⟨g, cap, cur, rfl, _, hgb, _⟩
    · simp [Value.ownBlock] at ej
    · obtain rfl : g = j := by simpa [Value.ownBlock] using ej
      rw [hgb] at hj; cases hj; rfl
  · refine (((Below.refl B W).alloc (by omega) tmp).grown hgrow (by simp; omega) fun j ej => ?_).setCell (p := ⟨B, 0, none⟩) (Nat.le_refl _) v'
    have := own_far hrow (g := j)
    rcases Nat.lt_or_ge j B with h | h
    · exact absurd ej.symm (this (by omega))
    · exact h
theorem regionIn_any {P : Program} {ops : List Oper} {Q : Exit → Act → World → Prop} {id l n : Nat} {a : Act} {w : World} (hm : P.follows .mixedOrders = true) (hd : (ops.all fun o => !isDefer o.op) = true) (hlo : LetsOut Q → False)
    (h : wpAny P .any ops.toArray Q ops.length (Array.replicate ops.length false) a w.drew) : (Code.region id ops.toArray true).wpIn (Fence.wide.inRound l) n P Q a w := by
  refine wpIn_region_any hm ?_
  refine anyIn_of_any (fun i o ho => ?_) hlo _ _ _ _ h
  have hm2 : o ∈ ops := List.mem_of_getElem? (l := ops) (i := i) (by simpa using ho)
  have := List.all_eq_true.1 hd o hm2
  simpa using this
end Go.Pub
namespace Go.Pub
def letterN (b : Nat) : Bool := (decide (97 ≤ b) && decide (b ≤ 122)) || (decide (65 ≤ b) && decide (b ≤ 90))
def partN (b : Nat) : Bool := letterN b || (decide (48 ≤ b) && decide (b ≤ 57)) || b == 45 || b == 95 || b == 46 || b == 58
def wEnd (s : ByteArray) : Nat → Nat → Nat
  | 0, i => i
  | f + 1, i => if i < s.size ∧ partN (bt s i) = true then wEnd s f (i + 1) else i
def wordAt (s : ByteArray) (i : Nat) : Nat := wEnd s (s.size - i) i
theorem wEnd_step (s : ByteArray) (f i : Nat) (h : i < s.size) (hp : partN (bt s i) = true) (hf : s.size - i ≤ f) : wEnd s f i = wEnd s (f - 1) (i + 1) := by
  obtain ⟨g, rfl⟩ : ∃ g, f = g + 1 := ⟨f - 1, by omega⟩
  simp [wEnd, h, hp]
theorem wEnd_stop (s : ByteArray) (f i : Nat) (h : ¬ (i < s.size ∧ partN (bt s i) = true)) : wEnd s f i = i := by
  cases f with
  | zero => rfl
  | succ f => simp only [wEnd]; rw [if_neg h]
theorem wEnd_bd (s : ByteArray) : ∀ f i, i ≤ wEnd s f i ∧ (i ≤ s.size → wEnd s f i ≤ s.size)
  | 0, i => ⟨Nat.le_refl _, fun h => h⟩
  | f + 1, i => by
    unfold wEnd
    split
    · rename_i h
      have := wEnd_bd s f (i + 1)
      exact ⟨by omega, fun _ => this.2 (by omega)⟩
    · exact ⟨Nat.le_refl _, fun h => h⟩
def nameB (s : ByteArray) : Bool := decide (1 ≤ s.size) && decide (s.size ≤ 60) && letterN (bt s 0) && (wordAt s 0 == s.size)
end Go.Pub
namespace Go.Proofs.YtpoafhgbhnblmaaGreatDoor
open Go.RowKit Go.Pub
set_option maxRecDepth 100000 in
set_option maxHeartbeats 1000000 in
theorem aletter_any (b : Nat) (hb : b < 256) (w : World) : Calls Tryz.prog 96 #[.int .u8 b] w fun e w' => e = .returned (.bool (letterN b)) ∧ w = w' := by
  have H : Hid (letterN b = ((decide (97 ≤ b) && decide (b ≤ 122)) || (decide (65 ≤ b) && decide (b ≤ 90)))) := Lib.hid rfl
  generalize letterN b = r at *
  by_cases h1 : 97 ≤ b
  · by_cases h2 : b ≤ 122
    all_goals
      go_enter Tryz.func96, Tryz.ntmps96
      go_wp2
      go_ret
      exact ⟨ret_bool (by rw [H.out]; first | rfl | (rw [Bool.eq_iff_iff]; simp; omega)), rfl⟩
  · by_cases h2 : 65 ≤ b
    all_goals
      go_enter Tryz.func96, Tryz.ntmps96
      go_wp2
      go_ret
      exact ⟨ret_bool (by rw [H.out]; first | rfl | (rw [Bool.eq_iff_iff]; simp; omega)), rfl⟩

set_option maxRecDepth 100000 in
set_option maxHeartbeats 2000000 in
theorem inName_any (b : Nat) (hb : b < 256) (w : World) : Calls Tryz.prog 156 #[.int .u8 b] w fun e w' => e = .returned (.bool (partN b)) ∧ w = w' := by
  have H : Hid (partN b = (letterN b || (decide (48 ≤ b) && decide (b ≤ 57)) || b == 45 || b == 95 || b == 46 || b == 58)) := Lib.hid rfl
  have HL := Lib.hid (aletter_any b hb)
  generalize partN b = r at *
  generalize letterN b = l at *
  by_cases c1 : b = 45
  · subst c1
    go_enter Tryz.func156, Tryz.ntmps156
    go_wp2_with fail
    go_ret
    exact ⟨ret_bool (by rw [H.out]; simp), rfl⟩
  have z1 : ((b : Int) == 45) = false := by simp; omega
  by_cases c2 : b = 95
  · subst c2
    go_enter Tryz.func156, Tryz.ntmps156
    go_wp2_with fail
    go_ret
    exact ⟨ret_bool (by rw [H.out]; simp), rfl⟩
  have z2 : ((b : Int) == 95) = false := by simp; omega
  by_cases c3 : b = 46
  · subst c3
    go_enter Tryz.func156, Tryz.ntmps156
    go_wp2_with fail
    go_ret
    exact ⟨ret_bool (by rw [H.out]; simp), rfl⟩
  have z3 : ((b : Int) == 46) = false := by simp; omega
  by_cases c4 : b = 58
  · subst c4
    go_enter Tryz.func156, Tryz.ntmps156
    go_wp2_with fail
    go_ret
    exact ⟨ret_bool (by rw [H.out]; simp), rfl⟩
  have z4 : ((b : Int) == 58) = false := by simp; omega
  have H2 : Hid (r = (l || (decide (48 ≤ b) && decide (b ≤ 57)))) := Lib.hid (by
    have b1 : (b == 45) = false := by simpa using c1
    have b2 : (b == 95) = false := by simpa using c2
    have b3 : (b == 46) = false := by simpa using c3
    have b4 : (b == 58) = false := by simpa using c4
    rw [H.out, b1, b2, b3, b4]; simp only [Bool.or_false])
  clear c1 c2 c3 c4
  cases l
  · by_cases h1 : 48 ≤ b
    all_goals
      go_enter Tryz.func156, Tryz.ntmps156
      go_wp2_with fail
      refine (HL.out _).mono ?_
      rintro e w1 ⟨rfl, rfl⟩
      go_wp2
      go_ret
      exact ⟨ret_bool (by rw [H2.out]; first | rfl | (simp [show ¬ 48 ≤ b by omega]; done) | (rw [Bool.eq_iff_iff, Bool.or_eq_true, Bool.and_eq_true]; simp only [decide_eq_true_eq, Bool.false_eq_true, false_or]; omega)), rfl⟩
  · go_enter Tryz.func156, Tryz.ntmps156
    go_wp2_with fail
    refine (HL.out _).mono ?_
    rintro e w1 ⟨rfl, rfl⟩
    go_wp2
    go_ret
    exact ⟨ret_bool (by rw [H2.out]; rfl), rfl⟩

set_option maxRecDepth 100000 in
set_option maxHeartbeats 2000000 in
theorem wordEnd_any (s : ByteArray) (i : Nat) (w : World) (hs : s.size < 9223372036854775807) : Calls Tryz.prog 97 #[.string s, .int .i64 i] w fun e w' => e = .returned (.int .i64 (wordAt s i)) ∧ w = w' := by
  have HW : Hid (wEnd s (s.size - i) i = wordAt s i) := Lib.hid rfl
  generalize wordAt s i = R at *
  go_enter Tryz.func97, Tryz.ntmps97
  go_wp2
  go_loop [1] (fun v => ∃ k f : Nat, v = .int .i64 k ∧ wEnd s f k = R ∧ s.size - k ≤ f) (fun v => s.size - (intOf v).toNat)
  case atStart => exact ⟨i, s.size - i, rfl, HW.out, Nat.le_refl _⟩
  case round =>
    obtain ⟨k, f, rfl, hR, hf⟩ := hrel
    have HR := Lib.hid hR
    clear hR
    by_cases hk : k < s.size
    · have hb := bt_lt s k
      have hbt := Lib.hid (get_bt s k hk)
      have hst := Lib.hid (wEnd_step s f k hk)
      have hsp := Lib.hid (wEnd_stop s f k)
      have HP : Hid (∀ W, Calls Tryz.prog 156 #[.int .u8 s[k].toNat] W fun e w' => e = .returned (.bool (partN (bt s k))) ∧ W = w') := Lib.hid fun W => by rw [get_bt s k hk]; exact inName_any _ hb W
      generalize partN (bt s k) = p at *
      cases p
      · go_wp2_with fail
        refine (HP.out _).mono ?_
        rintro e w1 ⟨rfl, rfl⟩
        go_wp2
        go_ret
        exact ⟨ret_int (by rw [← HR.out, hsp.out (by simp)]), rfl⟩
      · go_wp2_with fail
        refine (HP.out _).mono ?_
        rintro e w1 ⟨rfl, rfl⟩
        go_wp2
        go_round
        case rel => exact ⟨k + 1, f - 1, by go_num, by rw [← HR.out, hst.out (by first | rfl | trivial) hf], by omega⟩
        case measure => simp [intOf]; omega
    · have hsp := Lib.hid (wEnd_stop s f k (by omega))
      go_wp2
      go_ret
      exact ⟨ret_int (by rw [← HR.out, hsp.out]), rfl⟩

set_option maxRecDepth 100000 in
set_option maxHeartbeats 2000000 in
theorem name_any (s : ByteArray) (w : World) (hs : s.size < 9223372036854775807) : Calls Tryz.prog 51 #[.string s] w fun e w' => e = .returned (.bool (nameB s)) ∧ w = w' := by
  have H : Hid (nameB s = (decide (1 ≤ s.size) && decide (s.size ≤ 60) && letterN (bt s 0) && (wordAt s 0 == s.size))) := Lib.hid rfl
  have HW := Lib.hid (wordEnd_any s 0)
  generalize nameB s = R at *
  by_cases h0 : s.size = 0
  · have z0 : ((s.size : Int) == 0) = true := by rw [h0]; rfl
    have hR : Hid (R = false) := Lib.hid (by rw [H.out, h0]; rfl)
    clear h0
    go_enter Tryz.func51, Tryz.ntmps51
    go_wp2_with fail
    go_ret
    exact ⟨ret_bool hR.out.symm, rfl⟩
  have hp : 0 < s.size := by omega
  have z0 : ((s.size : Int) == 0) = false := by rw [beq_eq_false_iff_ne]; omega
  clear h0
  by_cases h1 : 60 < s.size
  · have hR : Hid (R = false) := Lib.hid (by rw [H.out, show decide (s.size ≤ 60) = false by simpa using h1]; simp)
    go_enter Tryz.func51, Tryz.ntmps51
    go_wp2_with fail
    go_ret
    exact ⟨ret_bool hR.out.symm, rfl⟩
  have hb := bt_lt s 0
  have HL : Hid (∀ W, Calls Tryz.prog 96 #[.int .u8 s[0].toNat] W fun e w' => e = .returned (.bool (letterN (bt s 0))) ∧ W = w') := Lib.hid fun W => by rw [get_bt s 0 hp]; exact aletter_any _ hb W
  have H2 : Hid (R = (letterN (bt s 0) && (wordAt s 0 == s.size))) := Lib.hid (by rw [H.out]; simp [show 1 ≤ s.size by omega, show s.size ≤ 60 by omega])
  have d1 : decide (60 < s.size) = false := by simpa using h1
  generalize letterN (bt s 0) = l at *
  generalize wordAt s 0 = e0 at *
  cases l
  · go_enter Tryz.func51, Tryz.ntmps51
    go_wp2_with fail
    refine (HL.out _).mono ?_
    rintro e w1 ⟨rfl, rfl⟩
    go_wp2_with fail
    go_ret
    exact ⟨ret_bool (by rw [H2.out]; rfl), rfl⟩
  · go_enter Tryz.func51, Tryz.ntmps51
    go_wp2_with fail
    refine (HL.out _).mono ?_
    rintro e w1 ⟨rfl, rfl⟩
    go_wp2_with fail
    refine (HW.out _ hs).mono ?_
    rintro e w1 ⟨rfl, rfl⟩
    go_wp2
    go_ret
    exact ⟨ret_bool (by rw [H2.out, Bool.eq_iff_iff]; simp; try omega), rfl⟩

end Go.Proofs.YtpoafhgbhnblmaaGreatDoor
