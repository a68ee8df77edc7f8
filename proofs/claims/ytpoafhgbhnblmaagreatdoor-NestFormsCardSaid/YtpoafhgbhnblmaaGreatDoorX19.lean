/-
  Texts of the proof, put together (what this law reaches): CharsC, CharsD, LinkE, MkJ.
-/
import Derived.Test.YtpoafhgbhnblmaaGreatDoorX03
import Derived.Test.YtpoafhgbhnblmaaGreatDoorX05
import Derived.Test.YtpoafhgbhnblmaaGreatDoorX04
import Derived.Test.YtpoafhgbhnblmaaGreatDoorX13
import Derived.Test.YtpoafhgbhnblmaaGreatDoorX14
import Derived.Deep.CutRange
import Derived.Deep.DeepCutAuto
set_option linter.unusedVariables false
set_option linter.unusedSimpArgs false
namespace Go.Proofs.YtpoafhgbhnblmaaGreatDoor
open Go.RowKit Go.Pub
theorem cells_enc (r : Int) : Lib.runeCells r = Lib.byteCells (encL r) := by rw [← Lib.byteCells_encodeRune, encodeRune_eq]
end Go.Proofs.YtpoafhgbhnblmaaGreatDoor
namespace Go.Proofs.YtpoafhgbhnblmaaGreatDoor
open Go.RowKit Go.Pub
theorem foldP_space (g : Bool) (acc : List UInt8) (p : Nat × Nat) (l : List (Nat × Nat)) (h : spaceB p.1 = true) : foldP g acc (p :: l) = foldP true acc l := by simp [foldP, h]
theorem foldP_other (g : Bool) (acc : List UInt8) (p : Nat × Nat) (l : List (Nat × Nat)) (h : spaceB p.1 = false) : foldP g acc (p :: l) = foldP false (acc ++ ((if g && !acc.isEmpty then [32] else []) ++ encL (lowerZ p.1))) l := by simp [foldP, h]
def FoldRel (s : ByteArray) (R : List UInt8) (w : World) (g : Bool) (wr : World) : Prop :=
  ∃ (pos f : Nat) (acc : List UInt8), Lib.IsBuilderF 158 5 w.heap.size w.heap.size (Lib.byteCells acc) wr ∧ wr.heap[w.heap.size + 1]? = some (.stringIter s pos) ∧ Below w.heap.size w wr ∧ foldP g acc (ptsFrom s f pos) = R ∧ s.size ≤ pos + f ∧ acc.length ≤ 8 * pos ∧ pos ≤ s.size
set_option maxHeartbeats 8000000 in
set_option maxRecDepth 1000000 in
theorem fold_any (s : ByteArray) (w : World) (hs : s.size ≤ 1000000) :
    Calls Tryz.prog 99 #[.string s] w fun e w' => e = .returned (.string ⟨(foldL s).toArray⟩) ∧ Below w.heap.size w w' := by
  have HC : Hid (foldP false [] (pts s) = foldL s) := Lib.hid rfl
  generalize foldL s = R at *
  go_enter Tryz.func99, Tryz.ntmps99
  go_wp2
  go_loopw [4] (fun gv wr => ∃ g : Bool, gv = .bool g ∧ FoldRel s R w g wr) (fun _ wr => s.size - wr.iterPos (w.heap.size + 1))
  case atStart =>
    refine ⟨false, rfl, 0, s.size, [], (Lib.IsBuilderF.of (Lib.fresh_isBuilder 158 5 w)).alloc _, ?_, ((Below.refl _ w).alloc (Nat.le_refl _) _).alloc (by simp) _, HC.out, by omega, by simp, by omega⟩
    have := World.iter_heap (w.alloc (.cells #[.pointer none, .slice none 0 0] 158)) s 0
    simpa using this
  case round =>
    obtain ⟨g, rfl, pos, f, acc, hI, hit, hbw, hacc, hf, hal, hps⟩ := hrel
    have Hacc := Lib.hid hacc
    clear hacc
    have hsz : w.heap.size + 1 < wr.heap.size := (Array.getElem?_eq_some_iff.1 hit).1
    by_cases hp : pos < s.size
    · have hd := dec_bd s pos hp
      have hstep : Hid (foldP g acc (Utf8.decode s pos :: ptsFrom s (f - 1) (pos + (Utf8.decode s pos).2)) = R) := Lib.hid (by
        rw [← Hacc.out, ptsFrom_step s f pos hp hf])
      have hnx : ∀ ty, (Instr.next (.pointer (some ⟨w.heap.size + 1, 0, none⟩)) true ty).run Tryz.prog wr = _ := fun ty => Lib.run_next_any_at wr (w.heap.size + 1) s pos ty hit hp
      have hI2 := hI.iterAt hit (pos + (Utf8.decode s pos).2)
      have hit2 := Lib.hid (Lib.iterAt_heap wr (w.heap.size + 1) s pos (pos + (Utf8.decode s pos).2) hit)
      have hbw2 := Lib.below_iterAt hbw (k := w.heap.size + 1) (by omega) s (pos + (Utf8.decode s pos).2)
      have hsz2 : w.heap.size ≤ (wr.iterAt (w.heap.size + 1) s (pos + (Utf8.decode s pos).2)).heap.size := by rw [Lib.iterAt_size]; omega
      have hitk := Lib.hid hit
      clear hit
      generalize Utf8.decode s pos = D at *
      by_cases csp : spaceB D.1 = true
      · have dn : Hid (∀ (w1 : World), Lib.IsBuilderF 158 5 w.heap.size w.heap.size (Lib.byteCells acc) w1 → w1.heap[w.heap.size + 1]? = some (.stringIter s (pos + D.2)) → Below w.heap.size w w1 → FoldRel s R w true w1) := Lib.hid (by
          intro w1 h1 h2 h3
          refine ⟨pos + D.2, f - 1, acc, h1, h2, h3, ?_, by omega, by omega, by omega⟩
          rw [← hstep.out, foldP_space _ _ _ _ csp])
        go_wp2_with (go_at_call 157; refine (space_any _ _).mono ?_; rintro e w' ⟨rfl, rfl⟩)
        go_roundw
        case rel => exact ⟨true, rfl, dn.out _ hI2 hit2.out hbw2⟩
        case measure =>
          simp only [World.iterPos, hit2.out, hitk.out]
          omega
      · rw [Bool.not_eq_true] at csp
        have hlo := lowerZ_bd D.1 (by omega) (by omega)
        have hlen := encL_length (lowerZ D.1)
        have dn : Hid (∀ (acc' : List UInt8) (w1 : World), acc' = (if g && !acc.isEmpty then [32] else []) ++ encL (lowerZ D.1) → Lib.IsBuilderF 158 5 w.heap.size w.heap.size (Lib.byteCells (acc ++ acc')) w1 → w1.heap[w.heap.size + 1]? = some (.stringIter s (pos + D.2)) → Below w.heap.size w w1 → FoldRel s R w false w1) := Lib.hid (by
          intro acc' w1 e h1 h2 h3
          refine ⟨pos + D.2, f - 1, acc ++ acc', h1, h2, h3, ?_, by omega, ?_, by omega⟩
          · rw [e, ← hstep.out, foldP_other _ _ _ _ csp]
          · rw [e]; simp only [List.length_append]; split <;> simp <;> omega)
        clear hlen
        have HLow : Hid (∀ W, Calls Tryz.prog 161 #[.int .i64 D.1] W fun e w' => e = .returned (.int .i64 (lowerZ D.1)) ∧ W = w') := Lib.hid fun W => lower_any D.1 W
        generalize lowerZ D.1 = L at *
        by_cases hgap : g = true ∧ acc ≠ []
        · obtain ⟨rfl, hne⟩ := hgap
          have hpos : 0 < acc.length := List.length_pos_iff.2 hne
          have hpc : Hid ([32] ++ encL L = (if true && !acc.isEmpty then [32] else []) ++ encL L) := Lib.hid (by cases acc <;> simp_all)
          clear hne
          have hbl := Lib.hid (Lib.byteCells_length acc)
          have hpz : 0 < (Lib.byteCells acc).length := by rw [Lib.byteCells_length]; exact hpos
          go_wp2_with fail
          refine (space_any _ _).mono ?_
          rintro e w' ⟨rfl, rfl⟩
          go_wp2_with fail
          refine (Tryz.Builder_Len_f w.heap.size w.heap.size _ _ hI2).mono ?_
          rintro e w' ⟨rfl, rfl⟩
          go_wp2_with fail
          refine (writeByte_k w.heap.size w.heap.size _ 32 _ hI2 (by rw [Lib.byteCells_length]; omega) hsz2).mono ?_
          rintro e W1 ⟨rfl, h1, b1, k1⟩
          have hz1 := b1.size
          go_wp2_with fail
          refine (HLow.out _).mono ?_
          rintro e w' ⟨rfl, rfl⟩
          go_wp2_with fail
          refine (writeRune_k w.heap.size w.heap.size _ _ (by omega) (by omega) _ (Or.inr h1) (by rw [List.length_append, Lib.byteCells_length]; simp; omega) (by omega)).mono ?_
          rintro e W2 ⟨rfl, h2, b2, k2⟩
          go_wp2
          go_roundw
          case rel => exact ⟨false, rfl, dn.out ([32] ++ encL L) _ hpc.out (by rw [Lib.byteCells_append, Lib.byteCells_append, ← cells_enc, ← List.append_assoc]; exact Or.inr h2) (k2.iter (k1.iter hit2.out (by omega)) (by omega)) ((hbw2.trans b1).trans b2)⟩
          case measure =>
            simp only [World.iterPos, k2.iter (k1.iter hit2.out (by omega)) (by omega), hitk.out]
            omega
        · have hpc : Hid (encL L = (if g && !acc.isEmpty then [32] else []) ++ encL L) := Lib.hid (by cases acc <;> cases g <;> simp_all)
          by_cases hg : g = true
          · subst hg
            have hne : acc = [] := Classical.not_not.1 fun h => hgap ⟨rfl, h⟩
            subst hne
            clear hgap
            go_wp2_with fail
            refine (space_any _ _).mono ?_
            rintro e w' ⟨rfl, rfl⟩
            go_wp2_with fail
            refine (Tryz.Builder_Len_f w.heap.size w.heap.size _ _ hI2).mono ?_
            rintro e w' ⟨rfl, rfl⟩
            go_wp2_with fail
            refine (HLow.out _).mono ?_
            rintro e w' ⟨rfl, rfl⟩
            go_wp2_with fail
            refine (writeRune_k w.heap.size w.heap.size _ _ (by omega) (by omega) _ hI2 (by rw [Lib.byteCells_length]; omega) hsz2).mono ?_
            rintro e W2 ⟨rfl, h2, b2, k2⟩
            go_wp2
            go_roundw
            case rel => exact ⟨false, rfl, dn.out (encL L) _ hpc.out (by rw [Lib.byteCells_append, ← cells_enc]; exact Or.inr h2) (k2.iter hit2.out (by omega)) (hbw2.trans b2)⟩
            case measure =>
              simp only [World.iterPos, k2.iter hit2.out (by omega), hitk.out]
              omega
          · rw [Bool.not_eq_true] at hg
            subst hg
            clear hgap
            go_wp2_with fail
            refine (space_any _ _).mono ?_
            rintro e w' ⟨rfl, rfl⟩
            go_wp2_with fail
            refine (HLow.out _).mono ?_
            rintro e w' ⟨rfl, rfl⟩
            go_wp2_with fail
            refine (writeRune_k w.heap.size w.heap.size _ _ (by omega) (by omega) _ hI2 (by rw [Lib.byteCells_length]; omega) hsz2).mono ?_
            rintro e W2 ⟨rfl, h2, b2, k2⟩
            go_wp2
            go_roundw
            case rel => exact ⟨false, rfl, dn.out (encL L) _ hpc.out (by rw [Lib.byteCells_append, ← cells_enc]; exact Or.inr h2) (k2.iter hit2.out (by omega)) (hbw2.trans b2)⟩
            case measure =>
              simp only [World.iterPos, k2.iter hit2.out (by omega), hitk.out]
              omega
    · have hnx : ∀ ty, (Instr.next (.pointer (some ⟨w.heap.size + 1, 0, none⟩)) true ty).run Tryz.prog wr = _ := fun ty => Lib.run_next_end_at wr (w.heap.size + 1) s pos ty hit hp
      have hR : Hid (acc = R) := Lib.hid (by rw [← Hacc.out, ptsFrom_end s f pos hp]; simp [foldP])
      go_wp2_with (go_at_call 162; refine (Tryz.Builder_String_any_k w.heap.size w.heap.size acc _ hI (by omega)).mono ?_)
      rintro e W1 ⟨rfl, _, b1, _⟩
      go_wp2
      go_ret
      exact ⟨ret_str (by rw [hR.out]), hbw.trans b1⟩

end Go.Proofs.YtpoafhgbhnblmaaGreatDoor
namespace Go.Pub
theorem labB_yes (c : Int) (h : labB c = true) : inB c letterL = true ∨ (inB c letterL = false ∧ (digitB c = true ∨ (digitB c = false ∧ ((c == 32) = true ∨ ((c == 32) = false ∧ ((c == 45) = true ∨ ((c == 45) = false ∧ ((c == 95) = true ∨ ((c == 95) = false ∧ ((c == 46) = true ∨ ((c == 46) = false ∧ (c == 58) = true))))))))))) := by
  unfold labB at h
  cases h1 : inB c letterL <;> cases h2 : digitB c <;> cases h3 : c == 32 <;> cases h4 : c == 45 <;> cases h5 : c == 95 <;> cases h6 : c == 46 <;> cases h7 : c == 58 <;> simp_all
theorem labB_no (c : Int) (h : labB c = false) : inB c letterL = false ∧ digitB c = false ∧ (c == 32) = false ∧ (c == 45) = false ∧ (c == 95) = false ∧ (c == 46) = false ∧ (c == 58) = false := by
  unfold labB at h
  simp only [Bool.or_eq_false_iff] at h
  exact ⟨h.1.1.1.1.1.1, h.1.1.1.1.1.2, h.1.1.1.1.2, h.1.1.1.2, h.1.1.2, h.1.2, h.2⟩
end Go.Pub
namespace Go.Proofs.YtpoafhgbhnblmaaGreatDoor
open Go.RowKit Go.Pub
def LbRel (g : ByteArray) (w w1 : World) (v : Value) (wr : World) : Prop :=
  ∃ (pos f : Nat) (acc : List (Nat × Nat)), v = .string g ∧ wr.heap[w1.heap.size]? = some (.stringIter g pos) ∧ Below w.heap.size w wr ∧ Hid (acc ++ ptsFrom g f pos = pts g) ∧ Hid (acc.all (fun p => labB p.1) = true) ∧ g.size ≤ pos + f ∧ pos ≤ g.size
end Go.Proofs.YtpoafhgbhnblmaaGreatDoor
namespace Go.Proofs.YtpoafhgbhnblmaaGreatDoor
open Go.RowKit Go.Pub
set_option maxRecDepth 100000 in
set_option maxHeartbeats 1000000 in
theorem m_escaped (s : ByteArray) (k : Nat) (w : World) (hs : s.size ≤ 1000000) (hk : k < s.size) :
    Calls Tryz.prog 167 #[.string s, .int .i64 k] w fun e w' => e = .returned (.bool (escAt s k)) ∧ w = w' := by
  have hlt2 : ((s[k].toNat : Nat) : Int) < 256 := by rw [get_bt s k hk]; have := bt_lt s k; omega
  by_cases h0 : bt s k = 92
  · have z0 : (((s[k].toNat : Nat) : Int) == 92) = true := by rw [get_bt s k hk, h0]; rfl
    by_cases h1 : k + 1 < s.size
    · have HE := Lib.hid (escAt_in s k h1)
      have hlt3 : ((s[k + 1].toNat : Nat) : Int) < 256 := by rw [get_bt s (k + 1) h1]; have := bt_lt s (k + 1); omega
      have hbi := Lib.hid (bt_int s (k + 1) h1)
      have H0 := Lib.hid h0
      clear h0
      generalize escAt s k = E at *
      by_cases h2 : bt s (k + 1) < 128
      · have z2 : ((s[k + 1].toNat : Nat) : Int) < 128 := by rw [get_bt s (k + 1) h1]; omega
        have HR : Hid (E = inB (bt s (k + 1) : Int) punctL) := Lib.hid (by rw [HE.out, H0.out, decide_eq_true h2]; simp)
        go_enter Tryz.func167, Tryz.ntmps167
        go_wp2_with (go_at_call 211; refine (punct_any _ _).mono ?_; rintro e w' ⟨rfl, rfl⟩)
        go_ret
        exact ⟨ret_bool (by rw [HR.out, hbi.out]), rfl⟩
      · have z2 : 128 ≤ ((s[k + 1].toNat : Nat) : Int) := by rw [get_bt s (k + 1) h1]; omega
        have HR : Hid (E = false) := Lib.hid (by rw [HE.out, decide_eq_false h2]; simp)
        go_enter Tryz.func167, Tryz.ntmps167
        go_wp2
        go_ret
        exact ⟨ret_bool (by rw [HR.out]), rfl⟩
    · have HR := Lib.hid (escAt_end s k (by omega))
      generalize escAt s k = E at *
      go_enter Tryz.func167, Tryz.ntmps167
      go_wp2
      go_ret
      exact ⟨ret_bool (by rw [HR.out]), rfl⟩
  · have z0 : (((s[k].toNat : Nat) : Int) == 92) = false := by rw [get_bt s k hk, beq_eq_false_iff_ne]; omega
    have HR := Lib.hid (escAt_not s k h0)
    generalize escAt s k = E at *
    go_enter Tryz.func167, Tryz.ntmps167
    go_wp2
    go_ret
    exact ⟨ret_bool (by rw [HR.out]), rfl⟩

set_option maxRecDepth 100000 in
set_option maxHeartbeats 4000000 in
theorem m_unescape (s : ByteArray) (w : World) (hs : s.size ≤ 1000000) : Calls Tryz.prog 168 #[.string s] w fun e w' => e = .returned (.string (mk (unescL (bytesL s)))) ∧ Below w.heap.size w w' := by
  have HX : Hid (unescL (sfx s 0) = unescL (bytesL s)) := Lib.hid rfl
  generalize unescL (bytesL s) = R at *
  go_enter Tryz.func168, Tryz.ntmps168
  go_wp2
  go_loopw [4] (fun v wr => URel s R w v wr) (fun v _ => s.size - (intOf v).toNat)
  case atStart => exact ⟨0, [], rfl, by omega, Lib.IsBuilderF.of (Lib.fresh_isBuilder 158 5 w), (Below.refl _ w).alloc (Nat.le_refl _) _, HX, by simp, by simp⟩
  case round =>
    obtain ⟨k, acc, rfl, hk, hI, hbw, Hacc, hal, hsz⟩ := hrel
    by_cases hlt : k < s.size
    · have HC := Lib.hid fun W => m_escaped s k W hs hlt
      by_cases hE : escAt s k = true
      · have hk1 : k + 1 < s.size := (escAt_lt hE).1
        have hst := Lib.hid (unesc_esc s k hE)
        have hlt2 : ((s[k + 1].toNat : Nat) : Int) < 256 := by rw [get_bt s (k + 1) hk1]; have := bt_lt s (k + 1); omega
        have hbi := Lib.hid (bt_int s (k + 1) hk1)
        rw [hE] at HC
        clear hE
        go_wp2_with fail
        ((with_reducible refine (HC.out _).mono ?_))
        rintro e w' ⟨rfl, rfl⟩
        go_wp2_with fail
        refine (writeByte_k w.heap.size w.heap.size _ _ _ hI (by rw [Lib.byteCells_length]; omega) (by omega)).mono ?_
        rintro e W1 ⟨rfl, h1, b1, _⟩
        have hz1 := b1.size
        go_wp2
        go_roundw
        case rel =>
          refine ⟨k + 2, acc ++ [s.get! (k + 1)], by go_num, by omega, by rw [Lib.byteCells_append, byteCell1, ← hbi.out]; exact Or.inr h1, hbw.trans b1, Lib.hid (by rw [← Hacc.out, hst.out]; simp), by simp; omega, by omega⟩
        case measure => simp [intOf]; omega
      · rw [Bool.not_eq_true] at hE
        have hst := Lib.hid (unesc_step s k hlt hE)
        have hlt2 : ((s[k].toNat : Nat) : Int) < 256 := by rw [get_bt s k hlt]; have := bt_lt s k; omega
        have hbi := Lib.hid (bt_int s k hlt)
        rw [hE] at HC
        clear hE
        go_wp2_with fail
        ((with_reducible refine (HC.out _).mono ?_))
        rintro e w' ⟨rfl, rfl⟩
        go_wp2_with fail
        refine (writeByte_k w.heap.size w.heap.size _ _ _ hI (by rw [Lib.byteCells_length]; omega) (by omega)).mono ?_
        rintro e W1 ⟨rfl, h1, b1, _⟩
        have hz1 := b1.size
        go_wp2
        go_roundw
        case rel =>
          refine ⟨k + 1, acc ++ [s.get! k], by go_num, by omega, by rw [Lib.byteCells_append, byteCell1, ← hbi.out]; exact Or.inr h1, hbw.trans b1, Lib.hid (by rw [← Hacc.out, hst.out]; simp), by simp; omega, by omega⟩
        case measure => simp [intOf]; omega
    · have HR : Hid (acc = R) := Lib.hid (by rw [← Hacc.out, unesc_end s k (by omega), List.append_nil])
      go_wp2_with fail
      refine (Tryz.Builder_String_any_k w.heap.size w.heap.size acc _ hI (by omega)).mono ?_
      rintro e W1 ⟨rfl, h1, b1, _⟩
      go_wp2
      go_ret
      exact ⟨ret_str (by rw [HR.out]; rfl), hbw.trans b1⟩

theorem m_unescape_sub (s : ByteArray) (i k : Nat) (w : World) (hs : s.size ≤ 1000000) : Calls Tryz.prog 168 #[.string (s.extract i k)] w fun e w' => e = .returned (.string (mk (unescL (sub s i k)))) ∧ Below w.heap.size w w' := by
  have h := m_unescape (s.extract i k) w (by have : (s.extract i k).size ≤ s.size := (by rw [ByteArray.size_extract]; omega); omega)
  rw [bytesL_sub] at h
  exact h
set_option maxRecDepth 100000 in
set_option maxHeartbeats 8000000 in
theorem m_label (s : ByteArray) (w : World) (hs : s.size ≤ 1000000) :
    Calls Tryz.prog 112 #[.string s] w fun e w' => e = .returned (.string (mk (labelL (bytesL s)))) ∧ Below w.heap.size w w' := by
  have HC := Lib.hid fun W => fold_any s W hs
  have hR : labelL (bytesL s) = if 60 < (foldL s).length then [] else if (pts (mk (foldL s))).all fun p => labB p.1 then foldL s else [] := by unfold labelL; rw [mk_bytesL]
  have HR := Lib.hid hR
  clear hR
  generalize labelL (bytesL s) = R at *
  generalize foldL s = F at *
  obtain ⟨g, hg⟩ : ∃ g : ByteArray, g = mk F := ⟨_, rfl⟩
  have HG : Hid (mk F = g) := Lib.hid hg.symm
  have hgs : g.size = F.length := by rw [hg]; show F.toArray.size = _; simp
  have HC' : Hid (∀ W, Calls Tryz.prog 99 #[.string s] W fun e w' => e = .returned (.string g) ∧ Below W.heap.size W w') := Lib.hid (by rw [hg]; exact HC.out)
  clear HC hg
  by_cases hl : 60 < g.size
  · have HF : Hid (R = []) := Lib.hid (by rw [HR.out, if_pos (by omega)])
    clear hgs
    go_enter Tryz.func112, Tryz.ntmps112
    go_wp2_with fail
    ((with_reducible refine (HC'.out _).mono ?_))
    rintro e w1 ⟨rfl, b1⟩
    go_wp2
    go_ret
    exact ⟨ret_str (by rw [HF.out]; rfl), b1⟩
  · have HR2 : Hid (R = if (pts g).all (fun p => labB p.1) then F else []) := Lib.hid (by rw [HR.out, if_neg (by omega), HG.out])
    have zl : decide (60 < (g.size : Int)) = false := by simp; omega
    clear hgs HR
    go_enter Tryz.func112, Tryz.ntmps112
    go_wp2_with fail
    ((with_reducible refine (HC'.out _).mono ?_))
    rintro e w1 ⟨rfl, b1⟩
    have hz1 := b1.size
    go_wp2
    go_loopw [] (fun wr => LbRel g w w1 (.string g) wr) (fun wr => g.size - wr.iterPos w1.heap.size)
    case atStart =>
      exact ⟨0, g.size, [], rfl, World.iter_heap w1 g 0, b1.alloc hz1 _, Lib.hid rfl, Lib.hid rfl, by omega, by omega⟩
    case round =>
      obtain ⟨pos, f, acc, _, hit, hbw, Hacc, Hok, hf, hps⟩ := hrel
      by_cases hp : pos < g.size
      · have hd := dec_bd g pos hp
        have hall : Hid (pts g = (acc ++ [Utf8.decode g pos]) ++ ptsFrom g (f - 1) (pos + (Utf8.decode g pos).2)) := Lib.hid (by rw [← Hacc.out, ptsFrom_step g f pos hp hf]; simp)
        have hnx : ∀ ty, (Instr.next (.pointer (some ⟨w1.heap.size, 0, none⟩)) true ty).run Tryz.prog wr = _ := fun ty => Lib.run_next_any_at wr w1.heap.size g pos ty hit hp
        have hit2 := Lib.hid (Lib.iterAt_heap wr w1.heap.size g pos (pos + (Utf8.decode g pos).2) hit)
        have hbw2 := Lib.below_iterAt hbw (k := w1.heap.size) hz1 g (pos + (Utf8.decode g pos).2)
        have hitk := Lib.hid hit
        clear hit
        generalize Utf8.decode g pos = D at *
        have HL : Hid (∀ W, Calls Tryz.prog 100 #[.int .i64 D.1] W fun e w' => e = .returned (.bool (inB D.1 letterL)) ∧ W = w') := Lib.hid fun W => letter_any D.1 W
        have HD : Hid (∀ W, Calls Tryz.prog 101 #[.int .i64 D.1] W fun e w' => e = .returned (.bool (digitB D.1)) ∧ W = w') := Lib.hid fun W => digit_any D.1 W
        cases hlb : labB (D.1 : Int)
        · have HF : Hid (R = []) := Lib.hid (by
            rw [HR2.out, hall.out, if_neg]
            simp only [List.all_append, List.all_cons, hlb]
            simp)
          obtain ⟨y1, y2, y3, y4, y5, y6, y7⟩ := labB_no _ hlb
          clear hlb
          rw [y1] at HL
          rw [y2] at HD
          clear y1 y2
          go_wp2_with fail
          ((with_reducible refine (HL.out _).mono ?_))
          rintro e w' ⟨rfl, rfl⟩
          go_wp2_with fail
          ((with_reducible refine (HD.out _).mono ?_))
          rintro e w' ⟨rfl, rfl⟩
          go_wp2
          go_ret
          exact ⟨ret_str (by rw [HF.out]; rfl), hbw2⟩
        · have dn : Hid (LbRel g w w1 (.string g) (wr.iterAt w1.heap.size g (pos + D.2))) := Lib.hid
            ⟨pos + D.2, f - 1, acc ++ [D], rfl, hit2.out, hbw2, Lib.hid hall.out.symm, Lib.hid (by rw [List.all_append, Hok.out]; simp [hlb]), by omega, by omega⟩
          have hy := labB_yes _ hlb
          clear hlb
          rcases hy with y1 | ⟨y1, y2 | ⟨y2, y3 | ⟨y3, y4 | ⟨y4, y5 | ⟨y5, y6 | ⟨y6, y7⟩⟩⟩⟩⟩⟩
          · rw [y1] at HL
            clear y1
            go_wp2_with fail
            ((with_reducible refine (HL.out _).mono ?_))
            rintro e w' ⟨rfl, rfl⟩
            go_wp2
            go_roundw
            case rel => exact dn.out
            case measure =>
              simp only [World.iterPos, hit2.out, hitk.out]
              omega
          all_goals
            rw [y1] at HL
            rw [y2] at HD
            clear y1 y2
            go_wp2_with fail
            ((with_reducible refine (HL.out _).mono ?_))
            rintro e w' ⟨rfl, rfl⟩
            go_wp2_with fail
            ((with_reducible refine (HD.out _).mono ?_))
            rintro e w' ⟨rfl, rfl⟩
            go_wp2
            go_roundw
            case rel => exact dn.out
            case measure =>
              simp only [World.iterPos, hit2.out, hitk.out]
              omega
      · have hnx : ∀ ty, (Instr.next (.pointer (some ⟨w1.heap.size, 0, none⟩)) true ty).run Tryz.prog wr = _ := fun ty => Lib.run_next_end_at wr w1.heap.size g pos ty hit hp
        have HF : Hid (R = F) := Lib.hid (by rw [HR2.out, if_pos]; rw [← Hacc.out, ptsFrom_end g f pos hp, List.append_nil]; exact Hok.out)
        go_wp2
        go_ret
        exact ⟨ret_str (by rw [HF.out]; exact HG.out.symm), hbw⟩

set_option maxRecDepth 100000 in
set_option maxHeartbeats 4000000 in
theorem m_angled (s : ByteArray) (w : World) (hs : s.size ≤ 1000000) (hi : 0 < s.size) :
    Calls Tryz.prog 166 #[.string s] w (PartPost (betw s 0 62 60) w) := by
  have HS : Hid (∀ k, scanA s 62 60 (1) = some k → betw s 0 62 60 = some (unescL (sub s (1) k), k + 1)) := Lib.hid fun k h => by rw [show betw s 0 62 60 = (scanA s 62 60 1).map fun k => (unescL (sub s 1 k), k + 1) from rfl, h]; rfl
  have HN : Hid (scanA s 62 60 (1) = none → betw s 0 62 60 = none) := Lib.hid fun h => by rw [show betw s 0 62 60 = (scanA s 62 60 1).map fun k => (unescL (sub s 1 k), k + 1) from rfl, h]; rfl
  generalize betw s 0 62 60 = R at *
  go_enter Tryz.func166, Tryz.ntmps166
  go_wp2
  go_loop [5] (fun v => ∃ k : Nat, 1 ≤ k ∧ k ≤ s.size ∧ v = .int .i64 k ∧ Hid (scanA s 62 60 k = scanA s 62 60 (1))) (fun v => s.size - (intOf v).toNat)
  case atStart => exact ⟨1, by omega, by omega, rfl, Lib.hid rfl⟩
  case round =>
    obtain ⟨k, hk1, hk, rfl, Hk⟩ := hrel
    by_cases hlt : k < s.size
    · have HC := Lib.hid fun W => m_escaped s k W hs hlt
      have hlt2 : ((s[k].toNat : Nat) : Int) < 256 := by rw [get_bt s k hlt]; have := bt_lt s k; omega
      by_cases hE : escAt s k = true
      · have hk2 : k + 1 < s.size := (escAt_lt hE).1
        have hst : Hid (scanA s 62 60 (k + 2) = scanA s 62 60 (1)) := Lib.hid (by rw [← Hk.out]; exact (scanA_esc s 62 60 k (by decide) (by decide) (by decide) (by decide) hE).symm)
        rw [hE] at HC
        clear hE
        go_wp2_with fail
        ((with_reducible refine (HC.out _).mono ?_))
        rintro e w' ⟨rfl, rfl⟩
        go_wp2
        go_round
        case rel => exact ⟨k + 2, by omega, by omega, by go_num, hst⟩
        case measure => simp [intOf]; omega
      · rw [Bool.not_eq_true] at hE
        have HE := Lib.hid hE
        rw [hE] at HC
        clear hE
        by_cases c1 : bt s k = 62
        · have z1 : (((s[k].toNat : Nat) : Int) == 62) = true := by rw [get_bt s k hlt, c1]; rfl
          have HR : Hid (R = some (unescL (sub s (1) k), k + 1)) := Lib.hid (HS.out k (by rw [← Hk.out]; exact scanA_stop s 62 60 k hlt (by decide) c1))
          have HU := Lib.hid fun W => m_unescape_sub s (1) k W hs
          clear c1
          go_wp2_with fail
          ((with_reducible refine (HC.out _).mono ?_))
          rintro e w' ⟨rfl, rfl⟩
          go_wp2_with fail
          ((with_reducible refine (HU.out _).mono ?_))
          rintro e w' ⟨rfl, b1⟩
          go_wp2
          go_ret3
          exact part_some HR.out (by omega) b1
        · have z1 : (((s[k].toNat : Nat) : Int) == 62) = false := by rw [get_bt s k hlt, beq_eq_false_iff_ne]; omega
          by_cases c2 : bt s k = 60 ∨ bt s k = 10
          · have HR : Hid (R = none) := Lib.hid (HN.out (by rw [← Hk.out]; exact scanA_bad s 62 60 k hlt (by decide) (by decide) c1 c2))
            have cc : (((s[k].toNat : Nat) : Int) == 60) = true ∨ ((((s[k].toNat : Nat) : Int) == 60) = false ∧ (((s[k].toNat : Nat) : Int) == 10) = true) := by
              rw [get_bt s k hlt]
              rcases c2 with c | c
              · left; rw [c]; rfl
              · right; rw [c]; exact ⟨rfl, rfl⟩
            clear c1 c2
            rcases cc with z2 | ⟨z2, z3⟩
            all_goals
              go_wp2_with fail
              ((with_reducible refine (HC.out _).mono ?_))
              rintro e w' ⟨rfl, rfl⟩
              go_wp2
              go_ret3
              exact part_none HR.out (Below.refl _ _)
          · have z2 : (((s[k].toNat : Nat) : Int) == 60) = false := by rw [get_bt s k hlt, beq_eq_false_iff_ne]; omega
            have z3 : (((s[k].toNat : Nat) : Int) == 10) = false := by rw [get_bt s k hlt, beq_eq_false_iff_ne]; omega
            have hst : Hid (scanA s 62 60 (k + 1) = scanA s 62 60 (1)) := Lib.hid (by rw [← Hk.out]; exact (scanA_step s 62 60 k hlt (by decide) (by decide) c1 (by omega) (by omega) HE.out).symm)
            clear c1 c2
            go_wp2_with fail
            ((with_reducible refine (HC.out _).mono ?_))
            rintro e w' ⟨rfl, rfl⟩
            go_wp2
            go_round
            case rel => exact ⟨k + 1, by omega, by omega, by go_num, hst⟩
            case measure => simp [intOf]; omega
    · have HR : Hid (R = none) := Lib.hid (HN.out (by rw [← Hk.out]; exact scanA_end s 62 60 k (by omega)))
      go_wp2
      go_ret3
      exact part_none HR.out (Below.refl _ _)

set_option maxRecDepth 100000 in
set_option maxHeartbeats 4000000 in
theorem m_title_in (s : ByteArray) (q : Nat) (w : World) (hs : s.size ≤ 1000000) (hi : 0 < s.size) (hq : q = 34 ∨ q = 39) (hq0 : bt s 0 = q) :
    Calls Tryz.prog 115 #[.string s] w (PartPost (betw s 0 q q) w) := by
  have HS : Hid (∀ k, scanA s q q (1) = some k → betw s 0 q q = some (unescL (sub s (1) k), k + 1)) := Lib.hid fun k h => by rw [show betw s 0 q q = (scanA s q q 1).map fun k => (unescL (sub s 1 k), k + 1) from rfl, h]; rfl
  have HN : Hid (scanA s q q (1) = none → betw s 0 q q = none) := Lib.hid fun h => by rw [show betw s 0 q q = (scanA s q q 1).map fun k => (unescL (sub s 1 k), k + 1) from rfl, h]; rfl
  generalize betw s 0 q q = R at *
  have hq1 : q < 256 ∧ q ≠ 92 ∧ q ≠ 10 := by omega
  have hg0 : s[0].toNat = q := by rw [get_bt s 0 hi, hq0]
  have hqq : (((q : Nat) : Int) != 34) = false ∨ ((((q : Nat) : Int) != 34) = true ∧ (((q : Nat) : Int) != 39) = false) := by
    rcases hq with h | h
    · left; rw [h]; rfl
    · right; rw [h]; exact ⟨rfl, rfl⟩
  obtain ⟨x1, x2⟩ := cons_list s (fun e => by have := (size_nil s).2 e; omega)
  clear hq hq0
  go_enter Tryz.func115, Tryz.ntmps115
  go_upto_region 1 with fail
  go_cut [17] (fun s17 wx => s17 = .bool false ∧ w = wx)
  case first =>
    rcases hqq with z | ⟨z, z'⟩
    all_goals
      go_wp2_with fail
      go_meet
      exact ⟨rfl, rfl⟩
  case rest =>
  obtain ⟨rfl, rfl⟩ := hcut
  clear hqq
  go_wp2_with fail
  go_loopw [5] (fun v wr => ∃ k : Nat, 1 ≤ k ∧ k ≤ s.size ∧ v = .int .i64 k ∧ Hid (scanA s q q k = scanA s q q 1) ∧ Below w.heap.size w wr) (fun v _ => s.size - (intOf v).toNat)
  case atStart => exact ⟨1, by omega, by omega, rfl, Lib.hid rfl, Below.refl _ _⟩
  case round =>
    obtain ⟨k, hk1, hk, rfl, Hk, hbw⟩ := hrel
    have HBW := Lib.hid hbw
    clear hbw
    by_cases hlt : k < s.size
    · have HC := Lib.hid fun W => m_escaped s k W hs hlt
      have hlt2 : ((s[k].toNat : Nat) : Int) < 256 := by rw [get_bt s k hlt]; have := bt_lt s k; omega
      by_cases hE : escAt s k = true
      · have hk2 : k + 1 < s.size := (escAt_lt hE).1
        have hst : Hid (scanA s q q (k + 2) = scanA s q q (1)) := Lib.hid (by rw [← Hk.out]; exact (scanA_esc s q q k hq1.1 hq1.1 hq1.2.1 hq1.2.1 hE).symm)
        rw [hE] at HC
        clear hE
        go_wp2_with fail
        ((with_reducible refine (HC.out _).mono ?_))
        rintro e w' ⟨rfl, rfl⟩
        go_wp2
        go_roundw
        case rel => exact ⟨k + 2, by omega, by omega, by go_num, hst, HBW.out⟩
        case measure => simp [intOf]; omega
      · rw [Bool.not_eq_true] at hE
        have HE := Lib.hid hE
        rw [hE] at HC
        clear hE
        by_cases c1 : bt s k = q
        · have z1 : (((s[k].toNat : Nat) : Int) == (q : Int)) = true := by rw [get_bt s k hlt, c1]; simp
          have z1' : (s[k].toNat == q) = true := by rw [get_bt s k hlt, c1]; simp
          have HR : Hid (R = some (unescL (sub s (1) k), k + 1)) := Lib.hid (HS.out k (by rw [← Hk.out]; exact scanA_stop s q q k hlt hq1.1 c1))
          have HU := Lib.hid fun W => m_unescape_sub s (1) k W hs
          clear c1
          go_wp2_with fail
          ((with_reducible refine (HC.out _).mono ?_))
          rintro e w' ⟨rfl, rfl⟩
          go_wp2_with fail
          go_quiet (fail)
          go_wp2_with fail
          ((with_reducible refine (HU.out _).mono ?_))
          rintro e w' ⟨rfl, b1⟩
          go_wp2
          go_ret3
          exact part_some HR.out (by omega) ((below_drewN HBW.out _).trans (b1.mono HBW.out.size))
        · have z1 : (((s[k].toNat : Nat) : Int) == (q : Int)) = false := by rw [get_bt s k hlt, beq_eq_false_iff_ne]; omega
          have z1' : (s[k].toNat == q) = false := by rw [get_bt s k hlt, beq_eq_false_iff_ne]; omega
          by_cases c2 : bt s k = 10
          · have HR : Hid (R = none) := Lib.hid (HN.out (by rw [← Hk.out]; exact scanA_bad s q q k hlt hq1.1 hq1.1 c1 (Or.inr c2)))
            have z2 : (((s[k].toNat : Nat) : Int) == 10) = true := by rw [get_bt s k hlt, c2]; rfl
            clear c1 c2
            go_wp2_with fail
            ((with_reducible refine (HC.out _).mono ?_))
            rintro e w' ⟨rfl, rfl⟩
            go_wp2_with fail
            go_quiet (fail)
            go_wp2
            go_ret3
            exact part_none HR.out (below_drewN HBW.out _)
          · have z3 : (((s[k].toNat : Nat) : Int) == 10) = false := by rw [get_bt s k hlt, beq_eq_false_iff_ne]; omega
            have hst : Hid (scanA s q q (k + 1) = scanA s q q (1)) := Lib.hid (by rw [← Hk.out]; exact (scanA_step s q q k hlt hq1.1 hq1.1 c1 c1 c2 HE.out).symm)
            clear c1 c2
            go_wp2_with fail
            ((with_reducible refine (HC.out _).mono ?_))
            rintro e w' ⟨rfl, rfl⟩
            go_wp2_with fail
            go_quiet (fail)
            go_wp2
            go_roundw
            case rel => exact ⟨k + 1, by omega, by omega, by go_num, hst, below_drewN HBW.out _⟩
            case measure => simp [intOf]; omega
    · have HR : Hid (R = none) := Lib.hid (HN.out (by rw [← Hk.out]; exact scanA_end s q q k (by omega)))
      go_wp2
      go_ret3
      exact part_none HR.out HBW.out

set_option maxRecDepth 100000 in
set_option maxHeartbeats 1000000 in
theorem m_title (s : ByteArray) (w : World) (hs : s.size ≤ 1000000) : Calls Tryz.prog 115 #[.string s] w (PartPost (titleR s 0) w) := by
  by_cases h0 : s.size = 0
  · have hR : titleR s 0 = none := by unfold titleR; rw [if_neg (by omega)]
    have e0 : s = ⟨#[]⟩ := by rw [← mk_bytesL s, (size_nil s).1 h0]; rfl
    subst e0
    go_enter Tryz.func115, Tryz.ntmps115
    go_wp2_with fail
    go_ret3
    exact part_none hR (Below.refl _ _)
  · have hi : 0 < s.size := by omega
    by_cases hq : bt s 0 = 34 ∨ bt s 0 = 39
    · have hR : titleR s 0 = betw s 0 (bt s 0) (bt s 0) := by
        unfold titleR
        rw [if_pos ⟨by omega, by omega⟩, show ((0 : Int).toNat) = 0 from rfl]
        rcases hq with h | h
        · rw [if_pos h, h]
        · rw [if_neg (by omega), if_pos h, h]
      rw [hR]
      exact m_title_in s (bt s 0) w hs hi hq rfl
    · have hR : titleR s 0 = none := by
        unfold titleR
        rw [if_pos ⟨by omega, by omega⟩, show ((0 : Int).toNat) = 0 from rfl, if_neg (fun h => hq (Or.inl h)), if_neg (fun h => hq (Or.inr h))]
      have hg0 := get_bt s 0 hi
      have z1 : (((bt s 0 : Nat) : Int) != 34) = true := by rw [bne_iff_ne]; omega
      have z2 : (((bt s 0 : Nat) : Int) != 39) = true := by rw [bne_iff_ne]; omega
      obtain ⟨x1, x2⟩ := cons_list s (fun e => by have := (size_nil s).2 e; omega)
      have HR := Lib.hid hR
      clear hR hq
      generalize titleR s 0 = R at *
      go_enter Tryz.func115, Tryz.ntmps115
      go_wp2_with fail
      go_ret3
      exact part_none HR.out (Below.refl _ _)

set_option maxRecDepth 100000 in
set_option maxHeartbeats 1000000 in
theorem m_dest_ang (s : ByteArray) (w : World) (hs : s.size ≤ 1000000) (hi : 0 < s.size) (h : bt s 0 = 60) :
    Calls Tryz.prog 114 #[.string s] w (PartPost (destR s 0) w) := by
  have HC : Hid (∀ W, Calls Tryz.prog 166 #[.string s] W (PartPost (destR s 0) W)) := Lib.hid fun W => by
    have e : destR s 0 = betw s 0 62 60 := by unfold destR; rw [if_pos ⟨by omega, by omega⟩, show ((0 : Int).toNat) = 0 from rfl, if_pos h]
    rw [e]; exact m_angled s W hs hi
  generalize destR s 0 = R at *
  have z0 : (((s[0].toNat : Nat) : Int) == 60) = true := by rw [get_bt s 0 hi, h]; rfl
  obtain ⟨x1, x2⟩ := cons_list s (fun e => by have := (size_nil s).2 e; omega)
  clear h
  cases R with
  | none =>
    go_enter Tryz.func114, Tryz.ntmps114
    go_wp2_with fail
    ((with_reducible refine (HC.out _).mono ?_))
    rintro e w' ⟨rfl, b1⟩
    go_wp2
    go_ret3
    exact part_none rfl b1
  | some p =>
    go_enter Tryz.func114, Tryz.ntmps114
    go_wp2_with fail
    ((with_reducible refine (HC.out _).mono ?_))
    rintro e w' ⟨rfl, b1⟩
    go_wp2
    go_ret3
    exact part_some rfl rfl b1

set_option maxRecDepth 100000 in
set_option maxHeartbeats 8000000 in
theorem m_dest_plain (s : ByteArray) (w : World) (hs : s.size ≤ 1000000) (hi : 0 < s.size) (h : bt s 0 ≠ 60) :
    Calls Tryz.prog 114 #[.string s] w (PartPost (destR s 0) w) := by
  have e : destR s 0 = (destA s 0 0).bind fun k => if k = 0 then none else some (unescL (sub s 0 k), k) := by unfold destR; rw [if_pos ⟨by omega, by omega⟩, show ((0 : Int).toNat) = 0 from rfl, if_neg h]
  have HS : Hid (∀ k, k ≠ 0 → destA s 0 0 = some k → destR s 0 = some (unescL (sub s 0 k), k)) := Lib.hid fun k hk hd => by rw [e, hd]; exact if_neg hk
  have HN : Hid (destA s 0 0 = none → destR s 0 = none) := Lib.hid fun hd => by rw [e, hd]; rfl
  have HI : Hid (destA s 0 0 = some 0 → destR s 0 = none) := Lib.hid fun hd => by rw [e, hd]; rfl
  clear e
  generalize destR s 0 = R at *
  have z0 : (((s[0].toNat : Nat) : Int) == 60) = false := by rw [get_bt s 0 hi, beq_eq_false_iff_ne]; omega
  obtain ⟨x1, x2⟩ := cons_list s (fun e => by have := (size_nil s).2 e; omega)
  clear h
  go_enter Tryz.func114, Tryz.ntmps114
  go_wp2
  go_loop [5, 6] (fun a b => DRel s 0 a b) (fun _ b => s.size - (intOf b).toNat)
  case atStart => exact ⟨0, 0, by omega, by omega, by omega, rfl, rfl, Lib.hid rfl⟩
  case round =>
    obtain ⟨o, k, ho, hk1, hk, rfl, rfl, Hk⟩ := hrel
    by_cases hx : s.size ≤ k ∨ (k < s.size ∧ dstop s o k)
    · have hv : destA s o k = if o = 0 then some k else none := by
        rcases hx with hx | ⟨hx, hy⟩
        · exact destA_end s o k hx
        · exact destA_stop s o k hx hy
      have HV := Lib.hid hv
      clear hv
      have hw : s.size ≤ k ∨ (∃ hlt : k < s.size, (((s[k].toNat : Nat) : Int) == 32) = true) ∨ (∃ hlt : k < s.size, (((s[k].toNat : Nat) : Int) == 32) = false ∧ (((s[k].toNat : Nat) : Int) == 10) = true) ∨ (∃ hlt : k < s.size, (((s[k].toNat : Nat) : Int) == 32) = false ∧ (((s[k].toNat : Nat) : Int) == 10) = false ∧ (((s[k].toNat : Nat) : Int) == 41) = true ∧ o = 0) := by
        rcases hx with hx | ⟨hx, hy⟩
        · exact Or.inl hx
        · right
          rcases hy with hy | hy | ⟨hy, hz⟩
          · left; exact ⟨hx, by rw [get_bt s k hx, hy]; rfl⟩
          · right; left; exact ⟨hx, by rw [get_bt s k hx, hy]; exact ⟨rfl, rfl⟩⟩
          · right; right; exact ⟨hx, by rw [get_bt s k hx, hy]; exact ⟨rfl, rfl, rfl, hz⟩⟩
      clear hx
      by_cases e1 : k = 0 ∨ 0 < o
      · have HR : Hid (R = none) := Lib.hid (by
          by_cases h0 : o = 0
          · obtain rfl : k = 0 := by omega
            exact HI.out (by rw [← Hk.out, HV.out, if_pos h0])
          · exact HN.out (by rw [← Hk.out, HV.out, if_neg h0]))
        have hE : (((k : Int) == 0) = true ∧ (k == 0) = true) ∨ (((k : Int) == 0) = false ∧ (k == 0) = false ∧ 0 < o) := by
          by_cases h0 : k = 0
          · left; rw [h0]; simp
          · right; exact ⟨by rw [beq_eq_false_iff_ne]; omega, by rw [beq_eq_false_iff_ne]; omega, by omega⟩
        clear e1
        rcases hw with hw | ⟨hlt, y1⟩ | ⟨hlt, y1, y2⟩ | ⟨hlt, y1, y2, y3, rfl⟩
        all_goals
          rcases hE with ⟨x1, x3⟩ | ⟨x1, x3, x2⟩
          all_goals
            first
            | omega
            | (go_wp2
               go_ret3
               exact part_none HR.out (Below.refl _ _))
      · obtain rfl : o = 0 := by omega
        have HR : Hid (R = some (unescL (sub s 0 k), k)) := Lib.hid (HS.out k (by omega) (by rw [← Hk.out, HV.out, if_pos rfl]))
        have x1 : ((k : Int) == 0) = false := by rw [beq_eq_false_iff_ne]; omega
        have x2 : (k == 0) = false := by rw [beq_eq_false_iff_ne]; omega
        have HU := Lib.hid fun W => m_unescape_sub s 0 k W hs
        clear e1
        rcases hw with hw | ⟨hlt, y1⟩ | ⟨hlt, y1, y2⟩ | ⟨hlt, y1, y2, y3, _⟩
        all_goals
          go_wp2_with fail
          ((with_reducible refine (HU.out _).mono ?_))
          rintro e w' ⟨rfl, b1⟩
          go_wp2
          go_ret3
          exact part_some HR.out rfl b1
    · have hlt : k < s.size := by omega
      have hns : ¬ dstop s o k := fun e => hx (Or.inr ⟨hlt, e⟩)
      clear hx
      have HC := Lib.hid fun W => m_escaped s k W hs hlt
      have hlt2 : ((s[k].toNat : Nat) : Int) < 256 := by rw [get_bt s k hlt]; have := bt_lt s k; omega
      have n32 : bt s k ≠ 32 := fun e => hns (Or.inl e)
      have n10 : bt s k ≠ 10 := fun e => hns (Or.inr (Or.inl e))
      have y1 : (((s[k].toNat : Nat) : Int) == 32) = false := by rw [get_bt s k hlt, beq_eq_false_iff_ne]; omega
      have y2 : (((s[k].toNat : Nat) : Int) == 10) = false := by rw [get_bt s k hlt, beq_eq_false_iff_ne]; omega
      by_cases hE : escAt s k = true
      · obtain ⟨hk2, h92⟩ := escAt_lt hE
        have y3 : (((s[k].toNat : Nat) : Int) == 41) = false := by rw [get_bt s k hlt, beq_eq_false_iff_ne]; omega
        have hst : Hid (destA s o (k + 2) = destA s 0 0) := Lib.hid (by rw [← Hk.out]; exact (destA_esc s o k hE).symm)
        rw [hE] at HC
        clear hE n32 n10 hns h92
        go_wp2_with fail
        ((with_reducible refine (HC.out _).mono ?_))
        rintro e w' ⟨rfl, rfl⟩
        go_wp2
        go_round
        case rel => exact ⟨o, k + 2, by omega, by omega, by omega, rfl, by go_num, hst⟩
        case measure => simp [intOf]; omega
      · rw [Bool.not_eq_true] at hE
        have HE := Lib.hid hE
        rw [hE] at HC
        clear hE
        by_cases c40 : bt s k = 40
        · have y3 : (((s[k].toNat : Nat) : Int) == 41) = false := by rw [get_bt s k hlt, beq_eq_false_iff_ne]; omega
          have y4 : (((s[k].toNat : Nat) : Int) == 40) = true := by rw [get_bt s k hlt, c40]; rfl
          have hst := destA_open s o k hlt c40
          have Hst := Lib.hid hst
          clear n32 n10 hns hst c40
          by_cases h8 : 8 ≤ o
          · obtain rfl : o = 8 := by omega
            have HR : Hid (R = none) := Lib.hid (HN.out (by rw [← Hk.out, Hst.out, if_pos h8]))
            go_wp2_with fail
            ((with_reducible refine (HC.out _).mono ?_))
            rintro e w' ⟨rfl, rfl⟩
            go_wp2
            go_ret3
            exact part_none HR.out (Below.refl _ _)
          · have hst : Hid (destA s (o + 1) (k + 1) = destA s 0 0) := Lib.hid (by rw [← Hk.out, Hst.out, if_neg h8])
            go_wp2_with fail
            ((with_reducible refine (HC.out _).mono ?_))
            rintro e w' ⟨rfl, rfl⟩
            go_wp2
            go_round
            case rel => exact ⟨o + 1, k + 1, by omega, by omega, by omega, by go_num, by go_num, hst⟩
            case measure => simp [intOf]; omega
        · have y4 : (((s[k].toNat : Nat) : Int) == 40) = false := by rw [get_bt s k hlt, beq_eq_false_iff_ne]; omega
          by_cases c41 : bt s k = 41
          · have y3 : (((s[k].toNat : Nat) : Int) == 41) = true := by rw [get_bt s k hlt, c41]; rfl
            have ho0 : 0 < o := by
              rcases Nat.eq_zero_or_pos o with e | e
              · exact absurd (Or.inr (Or.inr ⟨c41, e⟩)) hns
              · exact e
            have y5 : ((o : Int) == 0) = false := by rw [beq_eq_false_iff_ne]; omega
            have hst : Hid (destA s (o - 1) (k + 1) = destA s 0 0) := Lib.hid (by rw [← Hk.out, destA_close s o k hlt c41 ho0])
            clear n32 n10 hns c40 c41
            go_wp2_with fail
            ((with_reducible refine (HC.out _).mono ?_))
            rintro e w' ⟨rfl, rfl⟩
            go_wp2
            go_round
            case rel => exact ⟨o - 1, k + 1, by omega, by omega, by omega, congrArg (Value.int .i64) (by omega), by go_num, hst⟩
            case measure => simp [intOf]; omega
          · have y3 : (((s[k].toNat : Nat) : Int) == 41) = false := by rw [get_bt s k hlt, beq_eq_false_iff_ne]; omega
            have hst : Hid (destA s o (k + 1) = destA s 0 0) := Lib.hid (by rw [← Hk.out, destA_step s o k hlt hns HE.out c40 c41])
            clear n32 n10 hns c40 c41
            go_wp2_with fail
            ((with_reducible refine (HC.out _).mono ?_))
            rintro e w' ⟨rfl, rfl⟩
            go_wp2
            go_round
            case rel => exact ⟨o, k + 1, by omega, by omega, by omega, rfl, by go_num, hst⟩
            case measure => simp [intOf]; omega

theorem m_dest (s : ByteArray) (w : World) (hs : s.size ≤ 1000000) : Calls Tryz.prog 114 #[.string s] w (PartPost (destR s 0) w) := by
  by_cases h0 : s.size = 0
  · have hR : destR s 0 = none := by unfold destR; rw [if_neg (by omega)]
    have e0 : s = ⟨#[]⟩ := by rw [← mk_bytesL s, (size_nil s).1 h0]; rfl
    subst e0
    go_enter Tryz.func114, Tryz.ntmps114
    go_wp2_with fail
    go_ret3
    exact part_none hR (Below.refl _ _)
  · by_cases hc : bt s 0 = 60
    · exact m_dest_ang s w hs (by omega) hc
    · exact m_dest_plain s w hs (by omega) hc
end Go.Proofs.YtpoafhgbhnblmaaGreatDoor
