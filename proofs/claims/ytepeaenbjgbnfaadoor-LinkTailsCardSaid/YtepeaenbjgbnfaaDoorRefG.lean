/-
  The reference's Fold (layer 1).
-/
import Derived.Test.YtepeaenbjgbnfaaDoorRefF
import Derived.Test.YtepeaenbjgbnfaaDoorRefD
import Derived.Test.YtepeaenbjgbnfaaDoorCharsD
set_option linter.unusedVariables false
set_option linter.unusedSimpArgs false
namespace Go.Proofs.YtepeaenbjgbnfaaDoor
open Go.RowKit Go.Pub

theorem flat_empty (acc : List Int) : (acc.flatMap encL).isEmpty = acc.isEmpty := by
  cases acc with
  | nil => rfl
  | cons a l =>
    have := encL_length a
    simp only [List.flatMap_cons]
    cases h : encL a with
    | nil => rw [h] at this; simp at this
    | cons x y => rfl

def RfRel (l : List (Nat × Nat)) (R : List UInt8) (w1 : World) (v gv i : Value) (wr : World) : Prop :=
  ∃ (k : Nat) (g : Bool) (acc : List Int), i = .int .i64 k ∧ gv = .bool g ∧ k ≤ l.length ∧ wr.ownsRow w1.heap.size 3 1 v acc.length (intCells acc) ∧ Below w1.heap.size w1 wr ∧ foldP g (acc.flatMap encL) (l.drop k) = R ∧ acc.length ≤ 2 * k

set_option maxRecDepth 100000 in
set_option maxHeartbeats 8000000 in
theorem rFold_any (s : ByteArray) (w : World) (hs : s.size ≤ 1000000) : Calls Tryd.prog 59 #[.string s] w fun e w' => e = .returned (.string ⟨(foldL s).toArray⟩) ∧ Below w.heap.size w w' := by
  have HC : Hid (foldP false [] (pts s) = foldL s) := Lib.hid rfl
  have HP := Lib.hid (points_any s)
  have hlen := pts_length s
  generalize foldL s = R at *
  generalize pts s = l at *
  obtain ⟨i0, hi0, hz0, hz1, hz2⟩ := info_parts intInfo
  go_enter Tryd.func59, Tryd.ntmps59
  go_wp2_with fail
  refine (HP.out _ hs).mono ?_
  rintro e w1 ⟨v0, rfl, hown0, hb1⟩
  obtain ⟨A, cp, rfl⟩ := own_slice hown0
  have hrd := Reads.of_own hown0
  go_wp2
  go_loopw [3, 4, 10] (fun v g i wr => RfRel l R w1 v g i wr) (fun _ _ i _ => l.length - (intOf i).toNat)
  case atStart => exact ⟨0, false, [], rfl, rfl, by omega, World.ownsRow_nil _ _ _ _, Below.refl _ w1, HC.out, by simp⟩
  case round =>
    obtain ⟨k, g, acc, rfl, rfl, hk, hown, hb, hacc, hacl⟩ := hrel
    have Hacc := Lib.hid hacc
    clear hacc
    by_cases hlt : k < l.length
    · obtain ⟨ad, rfl, hadb, hcell⟩ := hrd.2 (by omega)
      obtain ⟨gb, hg⟩ : ∃ g, ad = ⟨g, 0, none⟩ := by
        obtain ⟨g, cap, hv, _⟩ := hown0.form (by omega)
        injection hv with h1 h2 h3
        injection h1 with h1
        exact ⟨g, h1⟩
      subst hg
      have hp := ptCells_at l k l[k] (List.getElem?_eq_getElem hlt)
      have hc0 : wr.cell? ⟨gb, k * 2, none⟩ = some (.int .i64 l[k].1) := (hb.cell (p := ⟨gb, k * 2, none⟩) hadb).trans (by rw [← add_plain]; exact hcell _ _ hp.1)
      have hc1 : wr.cell? ⟨gb, k * 2 + 1, none⟩ = some (.int .i64 l[k].2) := (hb.cell (p := ⟨gb, k * 2 + 1, none⟩) hadb).trans (by rw [← add_plain]; exact hcell _ _ hp.2)
      have hz := hb.size
      have hstep : Hid (foldP g (acc.flatMap encL) (l[k] :: l.drop (k + 1)) = R) := Lib.hid (by rw [← Hacc.out, List.drop_eq_getElem_cons hlt])
      have hsp := Lib.hid (rSpace_any (l[k].1 : Int))
      have hlow := Lib.hid (rLower_any (l[k].1 : Int))
      clear hp hcell
      have hlk := hlt
      generalize l[k] = D at *
      by_cases csp : spaceB D.1 = true
      · have hst := Lib.hid ((foldP_space g (acc.flatMap encL) D (l.drop (k + 1)) csp).symm.trans hstep.out)
        go_wp2_with fail
        refine (hsp.out _).mono ?_
        rw [csp]
        rintro e w' ⟨rfl, rfl⟩
        go_wp2
        go_roundw
        case rel => exact ⟨k + 1, true, acc, by go_num, rfl, by omega, hown.alloc _, hb.alloc hz _, hst.out, by omega⟩
        case measure => simp [intOf]; omega
      · rw [Bool.not_eq_true] at csp
        have hst := Lib.hid ((foldP_other g (acc.flatMap encL) D (l.drop (k + 1)) csp).symm.trans hstep.out)
        have dn : Hid (∀ (pre : List Int) (v : Value) (w2 : World), pre.flatMap encL = (if g && !(acc.flatMap encL).isEmpty then [32] else []) → pre.length ≤ 1 → w2.ownsRow w1.heap.size 3 1 v ((acc ++ pre).length + [lowerZ (D.1 : Int)].length) (intCells (acc ++ pre) ++ intCells [lowerZ (D.1 : Int)]) → Below w1.heap.size w1 w2 → RfRel l R w1 v (.bool false) (.int .i64 ((k : Int) + 1)) w2) := Lib.hid (by
          intro pre v w2 e hl h1 h3
          refine ⟨k + 1, false, (acc ++ pre) ++ [lowerZ (D.1 : Int)], by go_num, rfl, by omega, ?_, h3, ?_, by simp; omega⟩
          · rw [intCells_append, List.length_append]; exact h1
          · rw [← hst.out, List.flatMap_append, List.flatMap_append, e]; simp)
        generalize lowerZ (D.1 : Int) = L at *
        by_cases hgap : g = true ∧ acc ≠ []
        · obtain ⟨rfl, hne⟩ := hgap
          have hpos : 0 < acc.length := List.length_pos_iff.2 hne
          have hpc : Hid (([32] : List Int).flatMap encL = (if true && !(acc.flatMap encL).isEmpty then [32] else [])) := Lib.hid (by
            rw [flat_empty, show acc.isEmpty = false by cases acc <;> simp_all]
            show encL ((32 : Nat) : Int) ++ [] = _
            rw [encL_ascii 32 (by decide)]; rfl)
          clear hne
          obtain ⟨A2, cp2, rfl⟩ := own_slice hown
          go_wp2_with fail
          refine (hsp.out _).mono ?_
          rw [csp]
          rintro e w' ⟨rfl, rfl⟩
          go_wp2_with (at_builtin; refine wpList_append_own _ rfl _ _ 87 rfl w1.heap.size 3 i0 _ 1 8 Tryd.underlying87 hi0 hz0 hz1 hz2 rfl (by decide) _ _ _ rfl ((hown.alloc _).alloc _) ⟨wr.heap.size + 1, 0, none⟩ 1 1 (intCells [32]) rfl rfl ?c1 ?c2 ?c3 ?c4 ?c5 ?_)
          case c1 =>
            intro j u hj
            match j, hj with
            | 0, hj => simp [intCells] at hj; subst hj; simp [Addr.add]
          case c2 => intro u hu; simp [intCells] at hu; subst hu; rfl
          case c3 => unfold maxLen; omega
          case c4 => omega
          case c5 => first | (simp; omega) | omega
          intro v' w2 hown2 hgrow _
          obtain ⟨t1, t2, t3⟩ := two_cells hown hgrow hb rfl
          have hown3 : w2.ownsRow w1.heap.size 3 1 v' (acc ++ [32]).length (intCells (acc ++ [32])) := by rw [intCells_append, List.length_append]; exact hown2
          have hzz := t3.size
          have hlz : (acc ++ [32]).length = acc.length + 1 := by simp
          have HLZ := Lib.hid hlz
          go_wp2_with fail
          refine (hlow.out _).mono ?_
          rintro e w' ⟨rfl, rfl⟩
          clear hlz
          go_wp2_with (at_builtin; refine wpList_append_own _ rfl _ _ 87 rfl w1.heap.size 3 i0 _ 1 8 Tryd.underlying87 hi0 hz0 hz1 hz2 rfl (by decide) _ _ _ rfl (hown3.alloc _) ⟨w2.heap.size, 0, none⟩ 1 1 (intCells [L]) rfl rfl ?c1 ?c2 ?c3 ?c4 ?c5 ?_)
          case c1 =>
            intro j u hj
            match j, hj with
            | 0, hj => simp [intCells] at hj; subst hj; simp [Addr.add]
          case c2 => intro u hu; simp [intCells] at hu; subst hu; rfl
          case c3 => rw [HLZ.out]; unfold maxLen; omega
          case c4 => rw [HLZ.out]; omega
          case c5 => first | (simp; omega) | omega
          intro v'' w4 hown4 hgrow4 _
          go_wp2
          go_roundw
          case rel => exact dn.out [32] _ _ hpc.out (by simp) (by rw [HLZ.out]; exact hown4) ((t3.alloc hzz _).grown hgrow4 (by simp; omega) (fun k hk => (hown3.lt k hk).1))
          case measure => simp [intOf]; omega
        · have hpc : Hid (([] : List Int).flatMap encL = (if g && !(acc.flatMap encL).isEmpty then [32] else [])) := Lib.hid (by
            rw [flat_empty]
            cases acc <;> cases g <;> simp_all)
          by_cases hg : g = true
          · subst hg
            have hne : acc = [] := Classical.not_not.1 fun h => hgap ⟨rfl, h⟩
            subst hne
            clear hgap
            obtain ⟨A2, cp2, rfl⟩ := own_slice hown
            go_wp2_with fail
            refine (hsp.out _).mono ?_
            rw [csp]
            rintro e w' ⟨rfl, rfl⟩
            go_wp2_with fail
            refine (hlow.out _).mono ?_
            rintro e w' ⟨rfl, rfl⟩
            go_wp2_with (at_builtin; refine wpList_append_own _ rfl _ _ 87 rfl w1.heap.size 3 i0 _ 1 8 Tryd.underlying87 hi0 hz0 hz1 hz2 rfl (by decide) _ _ _ rfl ((hown.alloc _).alloc _) ⟨wr.heap.size + 1, 0, none⟩ 1 1 (intCells [L]) rfl rfl ?c1 ?c2 ?c3 ?c4 ?c5 ?_)
            case c1 =>
              intro j u hj
              match j, hj with
              | 0, hj => simp [intCells] at hj; subst hj; simp [Addr.add]
            case c2 => intro u hu; simp [intCells] at hu; subst hu; rfl
            case c3 => unfold maxLen; omega
            case c4 => omega
            case c5 => first | (simp; omega) | omega
            intro v' w2 hown2 hgrow _
            obtain ⟨t1, t2, t3⟩ := two_cells hown hgrow hb rfl
            go_wp2
            go_roundw
            case rel => exact dn.out [] _ _ hpc.out (by simp) (by rw [List.append_nil]; exact hown2) t3
            case measure => simp [intOf]; omega
          · rw [Bool.not_eq_true] at hg
            subst hg
            clear hgap
            go_wp2_with fail
            refine (hsp.out _).mono ?_
            rw [csp]
            rintro e w' ⟨rfl, rfl⟩
            go_wp2_with fail
            refine (hlow.out _).mono ?_
            rintro e w' ⟨rfl, rfl⟩
            go_wp2_with (at_builtin; refine wpList_append_own _ rfl _ _ 87 rfl w1.heap.size 3 i0 _ 1 8 Tryd.underlying87 hi0 hz0 hz1 hz2 rfl (by decide) _ _ _ rfl ((hown.alloc _).alloc _) ⟨wr.heap.size + 1, 0, none⟩ 1 1 (intCells [L]) rfl rfl ?c1 ?c2 ?c3 ?c4 ?c5 ?_)
            case c1 =>
              intro j u hj
              match j, hj with
              | 0, hj => simp [intCells] at hj; subst hj; simp [Addr.add]
            case c2 => intro u hu; simp [intCells] at hu; subst hu; rfl
            case c3 => unfold maxLen; omega
            case c4 => omega
            case c5 => first | (simp; omega) | omega
            intro v' w2 hown2 hgrow _
            obtain ⟨t1, t2, t3⟩ := two_cells hown hgrow hb rfl
            go_wp2
            go_roundw
            case rel => exact dn.out [] _ _ hpc.out (by simp) (by rw [List.append_nil]; exact hown2) t3
            case measure => simp [intOf]; omega
    · obtain rfl : k = l.length := by omega
      have hR : Hid (acc.flatMap encL = R) := Lib.hid (by rw [← Hacc.out, List.drop_length]; rfl)
      obtain ⟨A2, cp2, rfl⟩ := own_slice hown
      have hA : A2 = none ∨ ∃ g, A2 = some ⟨g, 0, none⟩ := by
        rcases hown.2 with ⟨hv, _⟩ | ⟨g, cap, cur, hv, _⟩
        · injection hv with h1; exact .inl h1
        · injection hv with h1; exact .inr ⟨g, h1⟩
      have HT := Lib.hid (rText_any acc A2 cp2 wr (by omega) ⟨_, Nat.le_refl _, Reads.of_own hown⟩ hA)
      have hz := hb.size
      have hz1 := hb1.size
      go_wp2_with fail
      refine HT.out.mono ?_
      rintro e w3 ⟨rfl, b3⟩
      go_wp2
      go_ret
      exact ⟨ret_str (by rw [hR.out]), (hb1.trans (hb.mono hb1.size)).trans (b3.mono (by omega))⟩
end Go.Proofs.YtepeaenbjgbnfaaDoor
