/-
  link.Label, strings.Cut at one byte, link.bracketed.
-/
import Derived.Test.YtepeaenbjgbnfaaDoorLinkD
import Derived.Test.YtepeaenbjgbnfaaDoorCharsD
set_option linter.unusedVariables false
set_option linter.unusedSimpArgs false
namespace Go.Pub
theorem labB_yes (c : Int) (h : labB c = true) : inB c letterL = true ∨ (inB c letterL = false ∧ (digitB c = true ∨ (digitB c = false ∧ ((c == 32) = true ∨ ((c == 32) = false ∧ ((c == 45) = true ∨ ((c == 45) = false ∧ ((c == 95) = true ∨ ((c == 95) = false ∧ ((c == 46) = true ∨ ((c == 46) = false ∧ (c == 58) = true))))))))))) := by
  unfold labB at h
  cases h1 : inB c letterL <;> cases h2 : digitB c <;> cases h3 : c == 32 <;> cases h4 : c == 45 <;> cases h5 : c == 95 <;> cases h6 : c == 46 <;> cases h7 : c == 58 <;> simp_all
theorem labB_no (c : Int) (h : labB c = false) : inB c letterL = false ∧ digitB c = false ∧ (c == 32) = false ∧ (c == 45) = false ∧ (c == 95) = false ∧ (c == 46) = false ∧ (c == 58) = false := by
  unfold labB at h
  simp only [Bool.or_eq_false_iff] at h
  exact ⟨h.1.1.1.1.1.1, h.1.1.1.1.1.2, h.1.1.1.1.2, h.1.1.1.2, h.1.1.2, h.1.2, h.2⟩
end Go.Pub
namespace Go.Proofs.YtepeaenbjgbnfaaDoor
open Go.RowKit Go.Pub

def LbRel (g : ByteArray) (w w1 : World) (v : Value) (wr : World) : Prop :=
  ∃ (pos f : Nat) (acc : List (Nat × Nat)), v = .string g ∧ wr.heap[w1.heap.size]? = some (.stringIter g pos) ∧ Below w.heap.size w wr ∧ Hid (acc ++ ptsFrom g f pos = pts g) ∧ Hid (acc.all (fun p => labB p.1) = true) ∧ g.size ≤ pos + f ∧ pos ≤ g.size

set_option maxRecDepth 100000 in
set_option maxHeartbeats 8000000 in
theorem l_label (s : ByteArray) (w : World) (hs : s.size ≤ 1000000) :
    Calls Tryd.prog 18 #[.string s] w fun e w' => e = .returned (.string (mk (labelL (bytesL s)))) ∧ Below w.heap.size w w' := by
  have HC := Lib.hid fun W => fold_any s W hs
  have hR : labelL (bytesL s) = if 60 < (foldL s).length then [] else if (pts (mk (foldL s))).all fun p => labB p.1 then foldL s else [] := by unfold labelL; rw [mk_bytesL]
  have HR := Lib.hid hR
  clear hR
  generalize labelL (bytesL s) = R at *
  generalize foldL s = F at *
  obtain ⟨g, hg⟩ : ∃ g : ByteArray, g = mk F := ⟨_, rfl⟩
  have HG : Hid (mk F = g) := Lib.hid hg.symm
  have hgs : g.size = F.length := by rw [hg]; show F.toArray.size = _; simp
  have HC' : Hid (∀ W, Calls Tryd.prog 34 #[.string s] W fun e w' => e = .returned (.string g) ∧ Below W.heap.size W w') := Lib.hid (by rw [hg]; exact HC.out)
  clear HC hg
  by_cases hl : 60 < g.size
  · have HF : Hid (R = []) := Lib.hid (by rw [HR.out, if_pos (by omega)])
    clear hgs
    go_enter Tryd.func18, Tryd.ntmps18
    go_wp2_with fail
    ((with_reducible refine (HC'.out _).mono ?_))
    rintro e w1 ⟨rfl, b1⟩
    go_wp2
    go_ret
    exact ⟨ret_str (by rw [HF.out]; rfl), b1⟩
  · have HR2 : Hid (R = if (pts g).all (fun p => labB p.1) then F else []) := Lib.hid (by rw [HR.out, if_neg (by omega), HG.out])
    have zl : decide (60 < (g.size : Int)) = false := by simp; omega
    clear hgs HR
    go_enter Tryd.func18, Tryd.ntmps18
    go_wp2_with fail
    ((with_reducible refine (HC'.out _).mono ?_))
    rintro e w1 ⟨rfl, b1⟩
    have hz1 := b1.size
    go_wp2
    go_loopw [] (fun wr => LbRel g w w1 (.string g) wr) (fun wr => g.size - wr.iterPos w1.heap.size)
    case atStart =>
      exact ⟨0, g.size, [], rfl, World.iter_heap w1 g 0, b1.alloc hz1 _, Lib.hid rfl, Lib.hid rfl, by omega, by omega⟩
    case round =>
      obtain ⟨pos, f, acc, _, hit, hbw, Hacc, Hok, hf, hps⟩ := hrel
      by_cases hp : pos < g.size
      · have hd := dec_bd g pos hp
        have hall : Hid (pts g = (acc ++ [Utf8.decode g pos]) ++ ptsFrom g (f - 1) (pos + (Utf8.decode g pos).2)) := Lib.hid (by rw [← Hacc.out, ptsFrom_step g f pos hp hf]; simp)
        have hnx : ∀ ty, (Instr.next (.pointer (some ⟨w1.heap.size, 0, none⟩)) true ty).run Tryd.prog wr = _ := fun ty => Lib.run_next_any_at wr w1.heap.size g pos ty hit hp
        have hit2 := Lib.hid (Lib.iterAt_heap wr w1.heap.size g pos (pos + (Utf8.decode g pos).2) hit)
        have hbw2 := Lib.below_iterAt hbw (k := w1.heap.size) hz1 g (pos + (Utf8.decode g pos).2)
        have hitk := Lib.hid hit
        clear hit
        generalize Utf8.decode g pos = D at *
        have HL : Hid (∀ W, Calls Tryd.prog 35 #[.int .i64 D.1] W fun e w' => e = .returned (.bool (inB D.1 letterL)) ∧ W = w') := Lib.hid fun W => letter_any D.1 W
        have HD : Hid (∀ W, Calls Tryd.prog 36 #[.int .i64 D.1] W fun e w' => e = .returned (.bool (digitB D.1)) ∧ W = w') := Lib.hid fun W => digit_any D.1 W
        cases hlb : labB (D.1 : Int)
        · have HF : Hid (R = []) := Lib.hid (by
            rw [HR2.out, hall.out, if_neg]
            simp only [List.all_append, List.all_cons, hlb]
            simp)
          obtain ⟨y1, y2, y3, y4, y5, y6, y7⟩ := labB_no _ hlb
          clear hlb
          rw [y1] at HL
          rw [y2] at HD
          clear y1 y2
          go_wp2_with fail
          ((with_reducible refine (HL.out _).mono ?_))
          rintro e w' ⟨rfl, rfl⟩
          go_wp2_with fail
          ((with_reducible refine (HD.out _).mono ?_))
          rintro e w' ⟨rfl, rfl⟩
          go_wp2
          go_ret
          exact ⟨ret_str (by rw [HF.out]; rfl), hbw2⟩
        · have dn : Hid (LbRel g w w1 (.string g) (wr.iterAt w1.heap.size g (pos + D.2))) := Lib.hid
            ⟨pos + D.2, f - 1, acc ++ [D], rfl, hit2.out, hbw2, Lib.hid hall.out.symm, Lib.hid (by rw [List.all_append, Hok.out]; simp [hlb]), by omega, by omega⟩
          have hy := labB_yes _ hlb
          clear hlb
          rcases hy with y1 | ⟨y1, y2 | ⟨y2, y3 | ⟨y3, y4 | ⟨y4, y5 | ⟨y5, y6 | ⟨y6, y7⟩⟩⟩⟩⟩⟩
          · rw [y1] at HL
            clear y1
            go_wp2_with fail
            ((with_reducible refine (HL.out _).mono ?_))
            rintro e w' ⟨rfl, rfl⟩
            go_wp2
            go_roundw
            case rel => exact dn.out
            case measure =>
              simp only [World.iterPos, hit2.out, hitk.out]
              omega
          all_goals
            rw [y1] at HL
            rw [y2] at HD
            clear y1 y2
            go_wp2_with fail
            ((with_reducible refine (HL.out _).mono ?_))
            rintro e w' ⟨rfl, rfl⟩
            go_wp2_with fail
            ((with_reducible refine (HD.out _).mono ?_))
            rintro e w' ⟨rfl, rfl⟩
            go_wp2
            go_roundw
            case rel => exact dn.out
            case measure =>
              simp only [World.iterPos, hit2.out, hitk.out]
              omega
      · have hnx : ∀ ty, (Instr.next (.pointer (some ⟨w1.heap.size, 0, none⟩)) true ty).run Tryd.prog wr = _ := fun ty => Lib.run_next_end_at wr w1.heap.size g pos ty hit hp
        have HF : Hid (R = F) := Lib.hid (by rw [HR2.out, if_pos]; rw [← Hacc.out, ptsFrom_end g f pos hp, List.append_nil]; exact Hok.out)
        go_wp2
        go_ret
        exact ⟨ret_str (by rw [HF.out]; exact HG.out.symm), hbw⟩
end Go.Proofs.YtepeaenbjgbnfaaDoor
