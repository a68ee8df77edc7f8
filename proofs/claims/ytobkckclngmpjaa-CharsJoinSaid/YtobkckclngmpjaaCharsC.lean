/-
  chars.Clean.
-/
import Derived.Test.YtobkckclngmpjaaCharsB
import Derived.Test.YtobkckclngmpjaaBuild
import Derived.Test.YtobkckclngmpjaaFold
set_option linter.unusedVariables false
set_option linter.unusedSimpArgs false
namespace Go.Proofs.Ytobkckclngmpjaa
open Go.RowKit Go.Pub

theorem cells_enc (r : Int) : Lib.runeCells r = Lib.byteCells (encL r) := by rw [← Lib.byteCells_encodeRune, encodeRune_eq]

set_option maxHeartbeats 8000000 in
set_option maxRecDepth 1000000 in
theorem clean_any (s : ByteArray) (w : World) (hs : s.size ≤ 1000000) :
    Calls Try.prog 30 #[.string s] w fun e w' => e = .returned (.string ⟨(cleanL s).toArray⟩) ∧ Below w.heap.size w w' := by
  have HC : Hid (cleanL s = cleanP (pts s)) := Lib.hid rfl
  generalize cleanL s = R at *
  go_enter Try.func30, Try.ntmps30
  go_wp2
  go_loopw [] (fun wr => ∃ (pos f : Nat) (acc : List UInt8), Lib.IsBuilderF 51 5 w.heap.size w.heap.size (Lib.byteCells acc) wr ∧ wr.heap[w.heap.size + 1]? = some (.stringIter s pos) ∧ Below w.heap.size w wr ∧ acc ++ cleanP (ptsFrom s f pos) = R ∧ s.size ≤ pos + f ∧ acc.length ≤ 4 * pos ∧ pos ≤ s.size) (fun wr => s.size - wr.iterPos (w.heap.size + 1))
  case atStart =>
    refine ⟨0, s.size, [], (Lib.IsBuilderF.of (Lib.fresh_isBuilder 51 5 w)).alloc _, ?_, ((Below.refl _ w).alloc (Nat.le_refl _) _).alloc (by simp) _, HC.out.symm, by omega, by simp, by omega⟩
    have := World.iter_heap (w.alloc (.cells #[.pointer none, .slice none 0 0] 51)) s 0
    simpa using this
  case round =>
    obtain ⟨pos, f, acc, hI, hit, hbw, hacc, hf, hal, hps⟩ := hrel
    have Hacc := Lib.hid hacc
    clear hacc
    have hsz : w.heap.size + 1 < wr.heap.size := (Array.getElem?_eq_some_iff.1 hit).1
    by_cases hp : pos < s.size
    · have hd := dec_bd s pos hp
      have hstep : Hid (acc ++ (cleanPiece (Utf8.decode s pos).1 (decide (pos + (Utf8.decode s pos).2 < s.size) && bt s (pos + (Utf8.decode s pos).2) == 10) ++ cleanP (ptsFrom s (f - 1) (pos + (Utf8.decode s pos).2))) = R) := Lib.hid (by
        rw [← headLF_from s (f - 1) (pos + (Utf8.decode s pos).2) (by omega)]
        rw [← Hacc.out, ptsFrom_step s f pos hp hf]; rfl)
      have hnx : ∀ ty, (Instr.next (.pointer (some ⟨w.heap.size + 1, 0, none⟩)) true ty).run Try.prog wr = _ := fun ty => Lib.run_next_any_at wr (w.heap.size + 1) s pos ty hit hp
      have hI2 := hI.iterAt hit (pos + (Utf8.decode s pos).2)
      have hit2 := Lib.hid (Lib.iterAt_heap wr (w.heap.size + 1) s pos (pos + (Utf8.decode s pos).2) hit)
      have hbw2 := Lib.below_iterAt hbw (k := w.heap.size + 1) (by omega) s (pos + (Utf8.decode s pos).2)
      have hsz2 : w.heap.size ≤ (wr.iterAt (w.heap.size + 1) s (pos + (Utf8.decode s pos).2)).heap.size := by rw [Lib.iterAt_size]; omega
      have h13 : (Utf8.decode s pos).1 = 13 → (Utf8.decode s pos).2 = 1 := by
        intro h
        by_cases h0 : bt s pos < 128
        · rw [dec_one s pos h0]
        · exfalso
          have hb := bt_lt s pos
          have g1 := bt_lt s (pos + 1)
          rw [Lib.decode_at] at h
          have h' : (Lib.decodeN (s.size - pos) (bt s pos) (bt s (pos + 1)) (bt s (pos + 2)) (bt s (pos + 3))).1 = 13 := h
          unfold Lib.decodeN at h'
          (repeat' split at h') <;> (simp at h'; try omega)
      have hitk := Lib.hid hit
      clear hit
      generalize Utf8.decode s pos = D at *
      have dn : Hid (∀ (acc' : List UInt8) (w1 : World), acc' = cleanPiece D.1 (decide (pos + D.2 < s.size) && bt s (pos + D.2) == 10) → Lib.IsBuilderF 51 5 w.heap.size w.heap.size (Lib.byteCells (acc ++ acc')) w1 → w1.heap[w.heap.size + 1]? = some (.stringIter s (pos + D.2)) → Below w.heap.size w w1 →
          ∃ (pos f : Nat) (acc : List UInt8), Lib.IsBuilderF 51 5 w.heap.size w.heap.size (Lib.byteCells acc) w1 ∧ w1.heap[w.heap.size + 1]? = some (.stringIter s pos) ∧ Below w.heap.size w w1 ∧ acc ++ cleanP (ptsFrom s f pos) = R ∧ s.size ≤ pos + f ∧ acc.length ≤ 4 * pos ∧ pos ≤ s.size) := Lib.hid (by
        intro acc' w1 e h1 h2 h3
        have hl := cleanPiece_length D.1 (decide (pos + D.2 < s.size) && bt s (pos + D.2) == 10)
        refine ⟨pos + D.2, f - 1, acc ++ acc', h1, h2, h3, ?_, by omega, by rw [e]; simp; omega, by omega⟩
        rw [e, ← hstep.out]; simp)
      by_cases c13 : D.1 = 13
      · have e2 := h13 c13
        obtain ⟨D1, D2⟩ := D
        simp only at c13 e2 hd hal
        subst c13 e2
        clear h13
        by_cases hn : pos + 1 < s.size
        · have hbn := Lib.hid (get_bt s (pos + 1) hn)
          have hlt : ((s[pos + 1].toNat : Nat) : Int) < 256 := by rw [get_bt s _ hn]; have := bt_lt s (pos + 1); omega
          by_cases h10 : bt s (pos + 1) = 10
          · have z : (((s[pos + 1].toNat : Nat) : Int) != 10) = false := by rw [get_bt s _ hn, h10]; rfl
            have hpc : Hid (([] : List UInt8) = cleanPiece 13 (decide (pos + 1 < s.size) && bt s (pos + 1) == 10)) := Lib.hid (by simp [cleanPiece, hn, h10])
            clear h10
            go_wp2
            go_roundw
            case rel => exact dn.out [] _ hpc.out (by rw [List.append_nil]; exact hI2) hit2.out hbw2
            case measure =>
              simp only [World.iterPos, hit2.out, hitk.out]
              omega
          · have z : (((s[pos + 1].toNat : Nat) : Int) != 10) = true := by rw [get_bt s _ hn]; simp; omega
            have hpc : Hid (([10] : List UInt8) = cleanPiece 13 (decide (pos + 1 < s.size) && bt s (pos + 1) == 10)) := Lib.hid (by simp [cleanPiece, h10])
            clear h10
            go_wp2_with (go_at_call 43; refine (writeByte_k w.heap.size w.heap.size _ 10 _ hI2 (by rw [Lib.byteCells_length]; omega) hsz2).mono ?_; rintro e W1 ⟨rfl, h1, b1, k1⟩)
            go_roundw
            case rel => exact dn.out [10] _ hpc.out (by rw [Lib.byteCells_append]; exact Or.inr h1) (k1.iter hit2.out (by omega)) (hbw2.trans b1)
            case measure =>
              simp only [World.iterPos, k1.iter hit2.out (by omega), hitk.out]
              omega
        · have hpc : Hid (([10] : List UInt8) = cleanPiece 13 (decide (pos + 1 < s.size) && bt s (pos + 1) == 10)) := Lib.hid (by simp [cleanPiece, hn])
          go_wp2_with (go_at_call 43; refine (writeByte_k w.heap.size w.heap.size _ 10 _ hI2 (by rw [Lib.byteCells_length]; omega) hsz2).mono ?_; rintro e W1 ⟨rfl, h1, b1, k1⟩)
          go_roundw
          case rel => exact dn.out [10] _ hpc.out (by rw [Lib.byteCells_append]; exact Or.inr h1) (k1.iter hit2.out (by omega)) (hbw2.trans b1)
          case measure =>
            simp only [World.iterPos, k1.iter hit2.out (by omega), hitk.out]
            omega
      · have z13 : ((D.1 : Int) == 13) = false := by simp; omega
        clear h13
        by_cases c9 : D.1 = 9
        · obtain ⟨D1, D2⟩ := D
          simp only at c9 hd hal c13 z13
          subst c9
          have hpc : Hid (([32, 32, 32, 32] : List UInt8) = cleanPiece 9 (decide (pos + D2 < s.size) && bt s (pos + D2) == 10)) := Lib.hid (by simp [cleanPiece])
          clear c13 z13
          go_wp2_with (go_at_call 44; refine (writeString_k w.heap.size w.heap.size _ _ _ hI2 (by rw [Lib.byteCells_length]; simp [ByteArray.size]; omega) hsz2).mono ?_; rintro e W1 ⟨rfl, h1, b1, k1⟩)
          go_roundw
          case rel => exact dn.out [32, 32, 32, 32] _ hpc.out (by rw [Lib.byteCells_append]; exact Or.inr h1) (k1.iter hit2.out (by omega)) (hbw2.trans b1)
          case measure =>
            simp only [World.iterPos, k1.iter hit2.out (by omega), hitk.out]
            omega
        · have z9 : ((D.1 : Int) == 9) = false := by simp; omega
          by_cases cu : uncleanB D.1 = true
          · have hpc : Hid (encL 65533 = cleanPiece D.1 (decide (pos + D.2 < s.size) && bt s (pos + D.2) == 10)) := Lib.hid (by simp [cleanPiece, c13, c9, cu])
            clear c13 c9
            go_wp2_with (first | (go_at_call 41; refine (unclean_any _ _).mono ?_; rintro e w' ⟨rfl, rfl⟩) | (go_at_call 45; refine (writeRune_k w.heap.size w.heap.size _ 65533 (by omega) (by omega) _ hI2 (by rw [Lib.byteCells_length]; omega) hsz2).mono ?_; rintro e W1 ⟨rfl, h1, b1, k1⟩))
            go_roundw
            case rel => exact dn.out (encL 65533) _ hpc.out (by rw [Lib.byteCells_append, ← cells_enc]; exact Or.inr h1) (k1.iter hit2.out (by omega)) (hbw2.trans b1)
            case measure =>
              simp only [World.iterPos, k1.iter hit2.out (by omega), hitk.out]
              omega
          · rw [Bool.not_eq_true] at cu
            have hpc : Hid (encL D.1 = cleanPiece D.1 (decide (pos + D.2 < s.size) && bt s (pos + D.2) == 10)) := Lib.hid (by simp [cleanPiece, c13, c9, cu])
            clear c13 c9
            go_wp2_with (first | (go_at_call 41; refine (unclean_any _ _).mono ?_; rintro e w' ⟨rfl, rfl⟩) | (go_at_call 45; refine (writeRune_k w.heap.size w.heap.size _ _ (by omega) (by omega) _ hI2 (by rw [Lib.byteCells_length]; omega) hsz2).mono ?_; rintro e W1 ⟨rfl, h1, b1, k1⟩))
            go_roundw
            case rel => exact dn.out (encL D.1) _ hpc.out (by rw [Lib.byteCells_append, ← cells_enc]; exact Or.inr h1) (k1.iter hit2.out (by omega)) (hbw2.trans b1)
            case measure =>
              simp only [World.iterPos, k1.iter hit2.out (by omega), hitk.out]
              omega
    · have hnx : ∀ ty, (Instr.next (.pointer (some ⟨w.heap.size + 1, 0, none⟩)) true ty).run Try.prog wr = _ := fun ty => Lib.run_next_end_at wr (w.heap.size + 1) s pos ty hit hp
      have hR : Hid (acc = R) := Lib.hid (by rw [← Hacc.out, ptsFrom_end s f pos hp]; simp [cleanP])
      go_wp2_with (go_at_call 46; refine (Try.Builder_String_any_k w.heap.size w.heap.size acc _ hI (by omega)).mono ?_)
      rintro e W1 ⟨rfl, _, b1, _⟩
      go_wp2
      go_ret
      exact ⟨ret_str (by rw [hR.out]), hbw.trans b1⟩
end Go.Proofs.Ytobkckclngmpjaa
