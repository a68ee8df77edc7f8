/-
  The reference's Label and ReadLabel (layer 5).
-/
import Derived.Test.YtepeaenbjgbnfaaDoorLinkJ
import Derived.Test.YtepeaenbjgbnfaaDoorLinkG
import Derived.Test.YtepeaenbjgbnfaaDoorRefG
set_option linter.unusedVariables false
set_option linter.unusedSimpArgs false
namespace Go.Pub
theorem labB_bne (c : Int) (h : labB c = true) : inB c letterL = true ∨ (inB c letterL = false ∧ (digitB c = true ∨ (digitB c = false ∧ ((c != 32) = false ∨ ((c != 32) = true ∧ ((c != 45) = false ∨ ((c != 45) = true ∧ ((c != 95) = false ∨ ((c != 95) = true ∧ ((c != 46) = false ∨ ((c != 46) = true ∧ (c != 58) = false))))))))))) := by
  unfold labB at h
  unfold bne
  cases h1 : inB c letterL <;> cases h2 : digitB c <;> cases h3 : c == 32 <;> cases h4 : c == 45 <;> cases h5 : c == 95 <;> cases h6 : c == 46 <;> cases h7 : c == 58 <;> simp_all
theorem labB_bnn (c : Int) (h : labB c = false) : inB c letterL = false ∧ digitB c = false ∧ (c != 32) = true ∧ (c != 45) = true ∧ (c != 95) = true ∧ (c != 46) = true ∧ (c != 58) = true := by
  unfold labB at h
  simp only [Bool.or_eq_false_iff] at h
  unfold bne
  rw [h.1.1.1.1.2, h.1.1.1.2, h.1.1.2, h.1.2, h.2]
  exact ⟨h.1.1.1.1.1.1, h.1.1.1.1.1.2, rfl, rfl, rfl, rfl, rfl⟩
end Go.Pub
namespace Go.Proofs.YtepeaenbjgbnfaaDoor
open Go.RowKit Go.Pub

set_option maxRecDepth 100000 in
set_option maxHeartbeats 8000000 in
theorem r_label (s : ByteArray) (w : World) (hs : s.size ≤ 1000000) :
    Calls Tryd.prog 47 #[.string s] w fun e w' => e = .returned (.string (mk (labelL (bytesL s)))) ∧ Below w.heap.size w w' := by
  have HC := Lib.hid fun W => rFold_any s W hs
  have hR : labelL (bytesL s) = if 60 < (foldL s).length then [] else if (pts (mk (foldL s))).all fun p => labB p.1 then foldL s else [] := by unfold labelL; rw [mk_bytesL]
  have HR := Lib.hid hR
  clear hR
  generalize labelL (bytesL s) = R at *
  generalize foldL s = F at *
  obtain ⟨g, hg⟩ : ∃ g : ByteArray, g = mk F := ⟨_, rfl⟩
  have HG : Hid (mk F = g) := Lib.hid hg.symm
  have hgs : g.size = F.length := by rw [hg]; show F.toArray.size = _; simp
  have HC' : Hid (∀ W, Calls Tryd.prog 59 #[.string s] W fun e w' => e = .returned (.string g) ∧ Below W.heap.size W w') := Lib.hid (by rw [hg]; exact HC.out)
  clear HC hg
  by_cases hl : g.size < 1 ∨ 60 < g.size
  · have HF : Hid (R = []) := Lib.hid (by
      rw [HR.out]
      rcases hl with hl | hl
      · have : F = [] := List.length_eq_zero_iff.1 (by omega)
        rw [this, if_neg (by simp)]; split <;> rfl
      · rw [if_pos (by omega)])
    clear hgs
    have hw : g.size = 0 ∨ (decide ((g.size : Int) < 1) = false ∧ 60 < g.size) := by
      rcases hl with hl | hl
      · exact Or.inl (by omega)
      · exact Or.inr ⟨by simp; omega, hl⟩
    clear hl
    rcases hw with z1 | ⟨z1, z2⟩
    all_goals
      go_enter Tryd.func47, Tryd.ntmps47
      go_wp2_with fail
      ((with_reducible refine (HC'.out _).mono ?_))
      rintro e w1 ⟨rfl, b1⟩
      go_wp2
      go_ret
      exact ⟨ret_str (by rw [HF.out]; rfl), b1⟩
  · have HR2 : Hid (R = if (pts g).all (fun p => labB p.1) then F else []) := Lib.hid (by rw [HR.out, if_neg (by omega), HG.out])
    have zl : decide (60 < (g.size : Int)) = false := by simp; omega
    have zk : decide ((g.size : Int) < 1) = false := by simp; omega
    have HP := Lib.hid (points_any g)
    have hlen := pts_length g
    generalize pts g = l at *
    clear hgs HR
    go_enter Tryd.func47, Tryd.ntmps47
    go_wp2_with fail
    ((with_reducible refine (HC'.out _).mono ?_))
    rintro e w1 ⟨rfl, b1⟩
    have hz1 := b1.size
    go_wp2_with fail
    refine (HP.out _ (by omega)).mono ?_
    rintro e w2 ⟨v0, rfl, hown0, b2⟩
    obtain ⟨A, cp, rfl⟩ := own_slice hown0
    have hrd := Reads.of_own hown0
    have hz2 := b2.size
    go_wp2
    go_loopw [20] (fun i wr => ∃ k : Nat, i = .int .i64 k ∧ k ≤ l.length ∧ Below w2.heap.size w2 wr ∧ Hid (l.all (fun p => labB p.1) = (l.drop k).all (fun p => labB p.1))) (fun i _ => l.length - (intOf i).toNat)
    case atStart => exact ⟨0, rfl, by omega, Below.refl _ _, Lib.hid (by rw [List.drop_zero])⟩
    case round =>
      obtain ⟨k, rfl, hk, hb, Hal⟩ := hrel
      by_cases hlt : k < l.length
      · obtain ⟨ad, rfl, hadb, hcell⟩ := hrd.2 (by omega)
        obtain ⟨gb, hg⟩ : ∃ g, ad = ⟨g, 0, none⟩ := by
          obtain ⟨g, cap, hv, _⟩ := hown0.form (by omega)
          injection hv with h1 h2 h3
          injection h1 with h1
          exact ⟨g, h1⟩
        subst hg
        have hp := ptCells_at l k l[k] (List.getElem?_eq_getElem hlt)
        have hc0 : wr.cell? ⟨gb, k * 2, none⟩ = some (.int .i64 l[k].1) := (hb.cell (p := ⟨gb, k * 2, none⟩) hadb).trans (by rw [← add_plain]; exact hcell _ _ hp.1)
        have hc1 : wr.cell? ⟨gb, k * 2 + 1, none⟩ = some (.int .i64 l[k].2) := (hb.cell (p := ⟨gb, k * 2 + 1, none⟩) hadb).trans (by rw [← add_plain]; exact hcell _ _ hp.2)
        have hz := hb.size
        have hst : Hid (l.all (fun p => labB p.1) = (labB l[k].1 && (l.drop (k + 1)).all (fun p => labB p.1))) := Lib.hid (by rw [Hal.out, List.drop_eq_getElem_cons hlt, List.all_cons])
        clear hp hcell
        have HL := Lib.hid fun W => rLetter_any (l[k].1 : Int) W
        have HD := Lib.hid fun W => rDigit_any (l[k].1 : Int) W
        generalize l[k] = D at *
        cases hlb : labB (D.1 : Int)
        · have HF : Hid (R = []) := Lib.hid (by rw [HR2.out, hst.out, hlb, if_neg (by simp)])
          obtain ⟨y1, y2, y3, y4, y5, y6, y7⟩ := labB_bnn _ hlb
          clear hlb
          rw [y1] at HL
          rw [y2] at HD
          clear y1 y2
          go_wp2_with fail
          ((with_reducible refine (HL.out _).mono ?_))
          rintro e w3 ⟨rfl, b3⟩
          go_wp2_with fail
          ((with_reducible refine (HD.out _).mono ?_))
          rintro e w' ⟨rfl, rfl⟩
          go_wp2_with fail
          go_ret
          exact ⟨ret_str (by rw [HF.out]; rfl), b1.trans ((b2.trans (((hb.alloc hz _).trans (b3.mono (by simp; omega))).mono hz2)).mono hz1)⟩
        · have hst2 : Hid (l.all (fun p => labB p.1) = (l.drop (k + 1)).all (fun p => labB p.1)) := Lib.hid (by rw [hst.out, hlb, Bool.true_and])
          have hy := labB_bne _ hlb
          clear hlb
          rcases hy with y1 | ⟨y1, y2 | ⟨y2, y3 | ⟨y3, y4 | ⟨y4, y5 | ⟨y5, y6 | ⟨y6, y7⟩⟩⟩⟩⟩⟩
          · rw [y1] at HL
            clear y1
            go_wp2_with fail
            ((with_reducible refine (HL.out _).mono ?_))
            rintro e w3 ⟨rfl, b3⟩
            go_wp2_with fail
            go_roundw
            case rel => exact ⟨k + 1, by go_num, by omega, (hb.alloc hz _).trans (b3.mono (by simp; omega)), hst2⟩
            case measure => simp [intOf]; omega
          all_goals
            rw [y1] at HL
            rw [y2] at HD
            clear y1 y2
            go_wp2_with fail
            ((with_reducible refine (HL.out _).mono ?_))
            rintro e w3 ⟨rfl, b3⟩
            go_wp2_with fail
            ((with_reducible refine (HD.out _).mono ?_))
            rintro e w' ⟨rfl, rfl⟩
            go_wp2_with fail
            go_roundw
            case rel => exact ⟨k + 1, by go_num, by omega, (hb.alloc hz _).trans (b3.mono (by simp; omega)), hst2⟩
            case measure => simp [intOf]; omega
      · obtain rfl : k = l.length := by omega
        have HF : Hid (R = F) := Lib.hid (by rw [HR2.out, Hal.out, List.drop_length]; rfl)
        go_wp2_with fail
        go_ret
        exact ⟨ret_str (by rw [HF.out]; exact HG.out.symm), b1.trans ((b2.trans (hb.mono hz2)).mono hz1)⟩
end Go.Proofs.YtepeaenbjgbnfaaDoor
