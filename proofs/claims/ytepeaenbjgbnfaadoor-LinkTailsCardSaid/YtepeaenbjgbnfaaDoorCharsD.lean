/-
  chars.Fold.
-/
import Derived.Test.YtepeaenbjgbnfaaDoorCharsC
set_option linter.unusedVariables false
set_option linter.unusedSimpArgs false
namespace Go.Proofs.YtepeaenbjgbnfaaDoor
open Go.RowKit Go.Pub

theorem foldP_space (g : Bool) (acc : List UInt8) (p : Nat × Nat) (l : List (Nat × Nat)) (h : spaceB p.1 = true) : foldP g acc (p :: l) = foldP true acc l := by simp [foldP, h]
theorem foldP_other (g : Bool) (acc : List UInt8) (p : Nat × Nat) (l : List (Nat × Nat)) (h : spaceB p.1 = false) : foldP g acc (p :: l) = foldP false (acc ++ ((if g && !acc.isEmpty then [32] else []) ++ encL (lowerZ p.1))) l := by simp [foldP, h]

def FoldRel (s : ByteArray) (R : List UInt8) (w : World) (g : Bool) (wr : World) : Prop :=
  ∃ (pos f : Nat) (acc : List UInt8), Lib.IsBuilderF 49 5 w.heap.size w.heap.size (Lib.byteCells acc) wr ∧ wr.heap[w.heap.size + 1]? = some (.stringIter s pos) ∧ Below w.heap.size w wr ∧ foldP g acc (ptsFrom s f pos) = R ∧ s.size ≤ pos + f ∧ acc.length ≤ 8 * pos ∧ pos ≤ s.size

set_option maxHeartbeats 8000000 in
set_option maxRecDepth 1000000 in
theorem fold_any (s : ByteArray) (w : World) (hs : s.size ≤ 1000000) :
    Calls Tryd.prog 34 #[.string s] w fun e w' => e = .returned (.string ⟨(foldL s).toArray⟩) ∧ Below w.heap.size w w' := by
  have HC : Hid (foldP false [] (pts s) = foldL s) := Lib.hid rfl
  generalize foldL s = R at *
  go_enter Tryd.func34, Tryd.ntmps34
  go_wp2
  go_loopw [4] (fun gv wr => ∃ g : Bool, gv = .bool g ∧ FoldRel s R w g wr) (fun _ wr => s.size - wr.iterPos (w.heap.size + 1))
  case atStart =>
    refine ⟨false, rfl, 0, s.size, [], (Lib.IsBuilderF.of (Lib.fresh_isBuilder 49 5 w)).alloc _, ?_, ((Below.refl _ w).alloc (Nat.le_refl _) _).alloc (by simp) _, HC.out, by omega, by simp, by omega⟩
    have := World.iter_heap (w.alloc (.cells #[.pointer none, .slice none 0 0] 49)) s 0
    simpa using this
  case round =>
    obtain ⟨g, rfl, pos, f, acc, hI, hit, hbw, hacc, hf, hal, hps⟩ := hrel
    have Hacc := Lib.hid hacc
    clear hacc
    have hsz : w.heap.size + 1 < wr.heap.size := (Array.getElem?_eq_some_iff.1 hit).1
    by_cases hp : pos < s.size
    · have hd := dec_bd s pos hp
      have hstep : Hid (foldP g acc (Utf8.decode s pos :: ptsFrom s (f - 1) (pos + (Utf8.decode s pos).2)) = R) := Lib.hid (by
        rw [← Hacc.out, ptsFrom_step s f pos hp hf])
      have hnx : ∀ ty, (Instr.next (.pointer (some ⟨w.heap.size + 1, 0, none⟩)) true ty).run Tryd.prog wr = _ := fun ty => Lib.run_next_any_at wr (w.heap.size + 1) s pos ty hit hp
      have hI2 := hI.iterAt hit (pos + (Utf8.decode s pos).2)
      have hit2 := Lib.hid (Lib.iterAt_heap wr (w.heap.size + 1) s pos (pos + (Utf8.decode s pos).2) hit)
      have hbw2 := Lib.below_iterAt hbw (k := w.heap.size + 1) (by omega) s (pos + (Utf8.decode s pos).2)
      have hsz2 : w.heap.size ≤ (wr.iterAt (w.heap.size + 1) s (pos + (Utf8.decode s pos).2)).heap.size := by rw [Lib.iterAt_size]; omega
      have hitk := Lib.hid hit
      clear hit
      generalize Utf8.decode s pos = D at *
      by_cases csp : spaceB D.1 = true
      · have dn : Hid (∀ (w1 : World), Lib.IsBuilderF 49 5 w.heap.size w.heap.size (Lib.byteCells acc) w1 → w1.heap[w.heap.size + 1]? = some (.stringIter s (pos + D.2)) → Below w.heap.size w w1 → FoldRel s R w true w1) := Lib.hid (by
          intro w1 h1 h2 h3
          refine ⟨pos + D.2, f - 1, acc, h1, h2, h3, ?_, by omega, by omega, by omega⟩
          rw [← hstep.out, foldP_space _ _ _ _ csp])
        go_wp2_with (go_at_call 44; refine (space_any _ _).mono ?_; rintro e w' ⟨rfl, rfl⟩)
        go_roundw
        case rel => exact ⟨true, rfl, dn.out _ hI2 hit2.out hbw2⟩
        case measure =>
          simp only [World.iterPos, hit2.out, hitk.out]
          omega
      · rw [Bool.not_eq_true] at csp
        have hlo := lowerZ_bd D.1 (by omega) (by omega)
        have hlen := encL_length (lowerZ D.1)
        have dn : Hid (∀ (acc' : List UInt8) (w1 : World), acc' = (if g && !acc.isEmpty then [32] else []) ++ encL (lowerZ D.1) → Lib.IsBuilderF 49 5 w.heap.size w.heap.size (Lib.byteCells (acc ++ acc')) w1 → w1.heap[w.heap.size + 1]? = some (.stringIter s (pos + D.2)) → Below w.heap.size w w1 → FoldRel s R w false w1) := Lib.hid (by
          intro acc' w1 e h1 h2 h3
          refine ⟨pos + D.2, f - 1, acc ++ acc', h1, h2, h3, ?_, by omega, ?_, by omega⟩
          · rw [e, ← hstep.out, foldP_other _ _ _ _ csp]
          · rw [e]; simp only [List.length_append]; split <;> simp <;> omega)
        clear hlen
        have HLow : Hid (∀ W, Calls Tryd.prog 55 #[.int .i64 D.1] W fun e w' => e = .returned (.int .i64 (lowerZ D.1)) ∧ W = w') := Lib.hid fun W => lower_any D.1 W
        generalize lowerZ D.1 = L at *
        by_cases hgap : g = true ∧ acc ≠ []
        · obtain ⟨rfl, hne⟩ := hgap
          have hpos : 0 < acc.length := List.length_pos_iff.2 hne
          have hpc : Hid ([32] ++ encL L = (if true && !acc.isEmpty then [32] else []) ++ encL L) := Lib.hid (by cases acc <;> simp_all)
          clear hne
          have hbl := Lib.hid (Lib.byteCells_length acc)
          have hpz : 0 < (Lib.byteCells acc).length := by rw [Lib.byteCells_length]; exact hpos
          go_wp2_with fail
          refine (space_any _ _).mono ?_
          rintro e w' ⟨rfl, rfl⟩
          go_wp2_with fail
          refine (Tryd.Builder_Len_f w.heap.size w.heap.size _ _ hI2).mono ?_
          rintro e w' ⟨rfl, rfl⟩
          go_wp2_with fail
          refine (writeByte_k w.heap.size w.heap.size _ 32 _ hI2 (by rw [Lib.byteCells_length]; omega) hsz2).mono ?_
          rintro e W1 ⟨rfl, h1, b1, k1⟩
          have hz1 := b1.size
          go_wp2_with fail
          refine (HLow.out _).mono ?_
          rintro e w' ⟨rfl, rfl⟩
          go_wp2_with fail
          refine (writeRune_k w.heap.size w.heap.size _ _ (by omega) (by omega) _ (Or.inr h1) (by rw [List.length_append, Lib.byteCells_length]; simp; omega) (by omega)).mono ?_
          rintro e W2 ⟨rfl, h2, b2, k2⟩
          go_wp2
          go_roundw
          case rel => exact ⟨false, rfl, dn.out ([32] ++ encL L) _ hpc.out (by rw [Lib.byteCells_append, Lib.byteCells_append, ← cells_enc, ← List.append_assoc]; exact Or.inr h2) (k2.iter (k1.iter hit2.out (by omega)) (by omega)) ((hbw2.trans b1).trans b2)⟩
          case measure =>
            simp only [World.iterPos, k2.iter (k1.iter hit2.out (by omega)) (by omega), hitk.out]
            omega
        · have hpc : Hid (encL L = (if g && !acc.isEmpty then [32] else []) ++ encL L) := Lib.hid (by cases acc <;> cases g <;> simp_all)
          by_cases hg : g = true
          · subst hg
            have hne : acc = [] := Classical.not_not.1 fun h => hgap ⟨rfl, h⟩
            subst hne
            clear hgap
            go_wp2_with fail
            refine (space_any _ _).mono ?_
            rintro e w' ⟨rfl, rfl⟩
            go_wp2_with fail
            refine (Tryd.Builder_Len_f w.heap.size w.heap.size _ _ hI2).mono ?_
            rintro e w' ⟨rfl, rfl⟩
            go_wp2_with fail
            refine (HLow.out _).mono ?_
            rintro e w' ⟨rfl, rfl⟩
            go_wp2_with fail
            refine (writeRune_k w.heap.size w.heap.size _ _ (by omega) (by omega) _ hI2 (by rw [Lib.byteCells_length]; omega) hsz2).mono ?_
            rintro e W2 ⟨rfl, h2, b2, k2⟩
            go_wp2
            go_roundw
            case rel => exact ⟨false, rfl, dn.out (encL L) _ hpc.out (by rw [Lib.byteCells_append, ← cells_enc]; exact Or.inr h2) (k2.iter hit2.out (by omega)) (hbw2.trans b2)⟩
            case measure =>
              simp only [World.iterPos, k2.iter hit2.out (by omega), hitk.out]
              omega
          · rw [Bool.not_eq_true] at hg
            subst hg
            clear hgap
            go_wp2_with fail
            refine (space_any _ _).mono ?_
            rintro e w' ⟨rfl, rfl⟩
            go_wp2_with fail
            refine (HLow.out _).mono ?_
            rintro e w' ⟨rfl, rfl⟩
            go_wp2_with fail
            refine (writeRune_k w.heap.size w.heap.size _ _ (by omega) (by omega) _ hI2 (by rw [Lib.byteCells_length]; omega) hsz2).mono ?_
            rintro e W2 ⟨rfl, h2, b2, k2⟩
            go_wp2
            go_roundw
            case rel => exact ⟨false, rfl, dn.out (encL L) _ hpc.out (by rw [Lib.byteCells_append, ← cells_enc]; exact Or.inr h2) (k2.iter hit2.out (by omega)) (hbw2.trans b2)⟩
            case measure =>
              simp only [World.iterPos, k2.iter hit2.out (by omega), hitk.out]
              omega
    · have hnx : ∀ ty, (Instr.next (.pointer (some ⟨w.heap.size + 1, 0, none⟩)) true ty).run Tryd.prog wr = _ := fun ty => Lib.run_next_end_at wr (w.heap.size + 1) s pos ty hit hp
      have hR : Hid (acc = R) := Lib.hid (by rw [← Hacc.out, ptsFrom_end s f pos hp]; simp [foldP])
      go_wp2_with (go_at_call 39; refine (Tryd.Builder_String_any_k w.heap.size w.heap.size acc _ hI (by omega)).mono ?_)
      rintro e W1 ⟨rfl, _, b1, _⟩
      go_wp2
      go_ret
      exact ⟨ret_str (by rw [hR.out]), hbw.trans b1⟩
end Go.Proofs.YtepeaenbjgbnfaaDoor
