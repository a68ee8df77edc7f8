/-
  The reference's Clean (layer 1).
-/
import Derived.Test.YtobkckclngmpjaaRefE
set_option linter.unusedVariables false
set_option linter.unusedSimpArgs false
namespace Go.Pub
open Go.RowKit
theorem intCells_append (a b : List Int) : intCells (a ++ b) = intCells a ++ intCells b := by simp [intCells]
theorem intCells_length (a : List Int) : (intCells a).length = a.length := by simp [intCells]
theorem encL_ascii (n : Nat) (h : n < 128) : encL (n : Int) = [UInt8.ofNat n] := by
  rw [encL_nat n (valid_of n (by omega)), encN_one n h]; rfl
/-- What an append next to a struct of two cells of the call's own leaves of it. -/
theorem two_cells {w w1 w2 : World} {B n : Nat} {v x y : Value} {e t : TypeId} {xs : List Value} {o2 : Obj} (hown1 : w1.ownsRow B e 1 v n xs) (hgrow : ((w1.alloc (.cells #[x, y] t)).alloc o2).grownBy w2 v.ownBlock)
    (hbw : Below w.heap.size w w1) (hB : B = w.heap.size) :
    w2.cell? ⟨w1.heap.size, 0, none⟩ = some x ∧ w2.cell? ⟨w1.heap.size, 1, none⟩ = some y ∧ Below w.heap.size w w2 := by
  have hne : some w1.heap.size ≠ v.ownBlock := fun e => by have := (hown1.lt _ e.symm).2; omega
  have hz := hbw.size
  refine ⟨hgrow.cell ?_ hne, hgrow.cell ?_ hne, ((hbw.alloc hz _).alloc (by simp; omega) _).grown hgrow (by simp; omega) (fun k hk => by have := (hown1.lt k hk).1; omega)⟩
  · simp
  · simp
end Go.Pub
namespace Go.Proofs.Ytobkckclngmpjaa
open Go.RowKit Go.Pub

theorem intInfo : (Try.prog.info? 3).map (fun i => (i.zero, i.size, i.bytes)) = some (some (.int .i64 0), 1, 8) := by kernel_rfl

def RcRel (s : ByteArray) (R : List UInt8) (w : World) (v i : Value) (wr : World) : Prop :=
  ∃ (pos f : Nat) (acc : List Int), i = .int .i64 pos ∧ wr.ownsRow w.heap.size 3 1 v acc.length (intCells acc) ∧ Below w.heap.size w wr ∧ acc.flatMap encL ++ cleanP (ptsFrom s f pos) = R ∧ s.size ≤ pos + f ∧ pos ≤ s.size ∧ acc.length ≤ 4 * pos

theorem cleanP_lf (l : List (Nat × Nat)) (p : Nat × Nat) (h : p.1 = 10) : cleanP (p :: l) = [10] ++ cleanP l := by
  show cleanPiece p.1 (headLF l) ++ cleanP l = _
  rw [h]
  have : cleanPiece 10 (headLF l) = [10] := by
    unfold cleanPiece
    rw [if_neg (by decide), if_neg (by decide), if_neg (by decide)]
    exact encL_ascii 10 (by decide)
  rw [this]

set_option maxRecDepth 100000 in
set_option maxHeartbeats 8000000 in
theorem rClean_any (s : ByteArray) (w : World) (hs : s.size ≤ 1000000) : Calls Try.prog 31 #[.string s] w fun e w' => e = .returned (.string ⟨(cleanL s).toArray⟩) ∧ Below w.heap.size w w' := by
  have HC : Hid (cleanL s = cleanP (pts s)) := Lib.hid rfl
  generalize cleanL s = R at *
  obtain ⟨i0, hi0, hz0, hz1, hz2⟩ := info_parts intInfo
  go_enter Try.func31, Try.ntmps31
  go_wp2
  go_loopw [3, 4] (fun v i wr => RcRel s R w v i wr) (fun _ i _ => s.size - (intOf i).toNat)
  case atStart => exact ⟨0, s.size, [], rfl, World.ownsRow_nil _ _ _ _, Below.refl _ w, HC.out.symm, by omega, by omega, by simp⟩
  case round =>
    obtain ⟨pos, f, acc, rfl, hown, hbw, hacc, hf, hal, hacl⟩ := hrel
    have Hacc := Lib.hid hacc
    clear hacc
    by_cases hp : pos < s.size
    · have hd := dec_bd s pos hp
      have HN : Hid (∀ W, Calls Try.prog 36 #[.string s, .int .i64 pos] W (PointBelow (Utf8.decode s pos).1 (Utf8.decode s pos).2 W)) := Lib.hid fun W => at_any s pos W (by omega) hp
      have hstep : Hid (acc.flatMap encL ++ (cleanPiece (Utf8.decode s pos).1 (decide (pos + (Utf8.decode s pos).2 < s.size) && bt s (pos + (Utf8.decode s pos).2) == 10) ++ cleanP (ptsFrom s (f - 1) (pos + (Utf8.decode s pos).2))) = R) := Lib.hid (by
        rw [← headLF_from s (f - 1) (pos + (Utf8.decode s pos).2) (by omega)]
        rw [← Hacc.out, ptsFrom_step s f pos hp hf]; rfl)
      have h13 : (Utf8.decode s pos).1 = 13 → (Utf8.decode s pos).2 = 1 := by
        intro h
        by_cases h0 : bt s pos < 128
        · rw [dec_one s pos h0]
        · exfalso
          have hb := bt_lt s pos
          have g1 := bt_lt s (pos + 1)
          rw [Lib.decode_at] at h
          have h' : (Lib.decodeN (s.size - pos) (bt s pos) (bt s (pos + 1)) (bt s (pos + 2)) (bt s (pos + 3))).1 = 13 := h
          unfold Lib.decodeN at h'
          (repeat' split at h') <;> (simp at h'; try omega)
      generalize Utf8.decode s pos = D at *
      have dn : Hid (∀ (news : List Int) (v : Value) (w2 : World), news.flatMap encL = cleanPiece D.1 (decide (pos + D.2 < s.size) && bt s (pos + D.2) == 10) → news.length ≤ 4 → w2.ownsRow w.heap.size 3 1 v (acc.length + news.length) (intCells acc ++ intCells news) → Below w.heap.size w w2 → RcRel s R w v (.int .i64 ((pos : Int) + (D.2 : Int))) w2) := Lib.hid (by
        intro news v w2 e hl h1 h3
        refine ⟨pos + D.2, f - 1, acc ++ news, by go_num, by rw [intCells_append, List.length_append]; exact h1, h3, ?_, by omega, by omega, by simp; omega⟩
        rw [List.flatMap_append, e, ← hstep.out]; simp)
      go_wp2_with fail
      refine (HN.out _).mono ?_
      rintro e w1 ⟨rfl, hb1⟩
      have hbw1 : Below w.heap.size w w1 := hbw.trans (hb1.mono hbw.size)
      have hz := hb1.size
      have hzw := hbw.size
      have hown1 := own_below hown hb1
      by_cases c13 : D.1 = 13
      · have e2 := h13 c13
        obtain ⟨D1, D2⟩ := D
        simp only at c13 e2 hd hal
        subst c13 e2
        clear h13
        by_cases hn : pos + 1 < s.size
        · have hbn := Lib.hid (get_bt s (pos + 1) hn)
          have hlt : ((s[pos + 1].toNat : Nat) : Int) < 256 := by rw [get_bt s _ hn]; have := bt_lt s (pos + 1); omega
          by_cases h10 : bt s (pos + 1) = 10
          · have z : (((s[pos + 1].toNat : Nat) : Int) == 10) = true := by rw [get_bt s _ hn, h10]; rfl
            have hcr : Hid ((acc ++ [10]).flatMap encL ++ cleanP (ptsFrom s (f - 2) (pos + 2)) = R) := Lib.hid (by
              have hdd : Utf8.decode s (pos + 1) = (10, 1) := by rw [dec_one s (pos + 1) (by omega), h10]
              rw [← hstep.out, ptsFrom_step s (f - 1) (pos + 1) hn (by omega), hdd, cleanP_lf _ _ rfl]
              rw [show f - 1 - 1 = f - 2 by omega, show pos + 1 + 1 = pos + 2 by omega]
              simp only [cleanPiece, if_true, decide_eq_true hn, h10, Bool.true_and, beq_self_eq_true, List.nil_append, List.flatMap_append]
              rw [show ([10] : List Int).flatMap encL = [10] from by show encL ((10 : Nat) : Int) ++ [] = _; rw [encL_ascii 10 (by decide)]; rfl]
              simp)
            clear h10
            go_wp2_with (at_builtin; refine wpList_append_own _ rfl _ _ 59 rfl w.heap.size 3 i0 _ 1 8 Try.underlying59 hi0 hz0 hz1 hz2 rfl (by decide) _ _ _ rfl ((hown1.alloc _).alloc _) ⟨w1.heap.size + 1, 0, none⟩ 1 1 (intCells [10]) rfl rfl ?c1 ?c2 ?c3 ?c4 ?c5 ?_)
            case c1 =>
              intro j u hj
              match j, hj with
              | 0, hj => simp [intCells] at hj; subst hj; simp [Addr.add]
            case c2 => intro u hu; simp [intCells] at hu; subst hu; rfl
            case c3 => unfold maxLen; omega
            case c4 => omega
            case c5 => first | (simp; omega) | omega
            intro v' w2 hown2 hgrow _
            obtain ⟨t1, t2, t3⟩ := two_cells hown1 hgrow hbw1 rfl
            go_wp2
            go_roundw
            case rel => exact ⟨pos + 2, f - 2, acc ++ [10], by go_num, by rw [intCells_append, List.length_append]; exact hown2, t3, hcr.out, by omega, by omega, by simp; omega⟩
            case measure => first | (simp [intOf]; omega) | omega
          · have z : (((s[pos + 1].toNat : Nat) : Int) == 10) = false := by rw [get_bt s _ hn]; simp; omega
            have hpc : Hid (([10] : List Int).flatMap encL = cleanPiece 13 (decide (pos + 1 < s.size) && bt s (pos + 1) == 10)) := Lib.hid (by simp [cleanPiece, h10]; exact encL_ascii 10 (by decide))
            clear h10
            go_wp2_with (at_builtin; refine wpList_append_own _ rfl _ _ 59 rfl w.heap.size 3 i0 _ 1 8 Try.underlying59 hi0 hz0 hz1 hz2 rfl (by decide) _ _ _ rfl ((hown1.alloc _).alloc _) ⟨w1.heap.size + 1, 0, none⟩ 1 1 (intCells [10]) rfl rfl ?c1 ?c2 ?c3 ?c4 ?c5 ?_)
            case c1 =>
              intro j u hj
              match j, hj with
              | 0, hj => simp [intCells] at hj; subst hj; simp [Addr.add]
            case c2 => intro u hu; simp [intCells] at hu; subst hu; rfl
            case c3 => unfold maxLen; omega
            case c4 => omega
            case c5 => first | (simp; omega) | omega
            intro v' w2 hown2 hgrow _
            obtain ⟨t1, t2, t3⟩ := two_cells hown1 hgrow hbw1 rfl
            go_wp2
            go_roundw
            case rel => exact dn.out [10] _ _ hpc.out (by simp) hown2 t3
            case measure => first | (simp [intOf]; omega) | omega
        · have hpc : Hid (([10] : List Int).flatMap encL = cleanPiece 13 (decide (pos + 1 < s.size) && bt s (pos + 1) == 10)) := Lib.hid (by simp [cleanPiece, hn]; exact encL_ascii 10 (by decide))
          go_wp2_with (at_builtin; refine wpList_append_own _ rfl _ _ 59 rfl w.heap.size 3 i0 _ 1 8 Try.underlying59 hi0 hz0 hz1 hz2 rfl (by decide) _ _ _ rfl ((hown1.alloc _).alloc _) ⟨w1.heap.size + 1, 0, none⟩ 1 1 (intCells [10]) rfl rfl ?c1 ?c2 ?c3 ?c4 ?c5 ?_)
          case c1 =>
            intro j u hj
            match j, hj with
            | 0, hj => simp [intCells] at hj; subst hj; simp [Addr.add]
          case c2 => intro u hu; simp [intCells] at hu; subst hu; rfl
          case c3 => unfold maxLen; omega
          case c4 => omega
          case c5 => first | (simp; omega) | omega
          intro v' w2 hown2 hgrow _
          obtain ⟨t1, t2, t3⟩ := two_cells hown1 hgrow hbw1 rfl
          go_wp2
          go_roundw
          case rel => exact dn.out [10] _ _ hpc.out (by simp) hown2 t3
          case measure => first | (simp [intOf]; omega) | omega
      · have z13 : ((D.1 : Int) == 13) = false := by simp; omega
        clear h13
        by_cases c9 : D.1 = 9
        · obtain ⟨D1, D2⟩ := D
          simp only at c9 hd hal c13 z13
          subst c9
          have hpc : Hid (([32, 32, 32, 32] : List Int).flatMap encL = cleanPiece 9 (decide (pos + D2 < s.size) && bt s (pos + D2) == 10)) := Lib.hid (by
            have e32 : encL (32 : Int) = [32] := encL_ascii 32 (by decide)
            simp [cleanPiece, e32])
          clear c13 z13
          go_wp2_with (at_builtin; refine wpList_append_own _ rfl _ _ 59 rfl w.heap.size 3 i0 _ 1 8 Try.underlying59 hi0 hz0 hz1 hz2 rfl (by decide) _ _ _ rfl ((hown1.alloc _).alloc _) ⟨w1.heap.size + 1, 0, none⟩ 4 4 (intCells [32, 32, 32, 32]) rfl rfl ?c1 ?c2 ?c3 ?c4 ?c5 ?_)
          case c1 =>
            intro j u hj
            match j, hj with
            | 0, hj => simp [intCells] at hj; subst hj; simp [Addr.add]
            | 1, hj => simp [intCells] at hj; subst hj; simp [Addr.add]
            | 2, hj => simp [intCells] at hj; subst hj; simp [Addr.add]
            | 3, hj => simp [intCells] at hj; subst hj; simp [Addr.add]
          case c2 => intro u hu; simp [intCells] at hu; subst hu; rfl
          case c3 => unfold maxLen; omega
          case c4 => omega
          case c5 => first | (simp; omega) | omega
          intro v' w2 hown2 hgrow _
          obtain ⟨t1, t2, t3⟩ := two_cells hown1 hgrow hbw1 rfl
          go_wp2
          go_roundw
          case rel => exact dn.out [32, 32, 32, 32] _ _ hpc.out (by simp) hown2 t3
          case measure => first | (simp [intOf]; omega) | omega
        · have z9 : ((D.1 : Int) == 9) = false := by simp; omega
          have hcl := Lib.hid (rclean_any (D.1 : Int))
          by_cases cu : uncleanB D.1 = true
          · have hpc : Hid (([65533] : List Int).flatMap encL = cleanPiece D.1 (decide (pos + D.2 < s.size) && bt s (pos + D.2) == 10)) := Lib.hid (by simp [cleanPiece, c13, c9, cu])
            clear c13 c9
            go_wp2_with fail
            refine (hcl.out _).mono ?_
            rw [cu]
            rintro e w' ⟨rfl, rfl⟩
            go_wp2_with (at_builtin; refine wpList_append_own _ rfl _ _ 59 rfl w.heap.size 3 i0 _ 1 8 Try.underlying59 hi0 hz0 hz1 hz2 rfl (by decide) _ _ _ rfl ((hown1.alloc _).alloc _) ⟨w1.heap.size + 1, 0, none⟩ 1 1 (intCells [65533]) rfl rfl ?c1 ?c2 ?c3 ?c4 ?c5 ?_)
            case c1 =>
              intro j u hj
              match j, hj with
              | 0, hj => simp [intCells] at hj; subst hj; simp [Addr.add]
            case c2 => intro u hu; simp [intCells] at hu; subst hu; rfl
            case c3 => unfold maxLen; omega
            case c4 => omega
            case c5 => first | (simp; omega) | omega
            intro v' w2 hown2 hgrow _
            obtain ⟨t1, t2, t3⟩ := two_cells hown1 hgrow hbw1 rfl
            go_wp2
            go_roundw
            case rel => exact dn.out [65533] _ _ hpc.out (by simp) hown2 t3
            case measure => first | (simp [intOf]; omega) | omega
          · rw [Bool.not_eq_true] at cu
            have hpc : Hid (([(D.1 : Int)] : List Int).flatMap encL = cleanPiece D.1 (decide (pos + D.2 < s.size) && bt s (pos + D.2) == 10)) := Lib.hid (by simp [cleanPiece, c13, c9, cu])
            clear c13 c9
            go_wp2_with fail
            refine (hcl.out _).mono ?_
            rw [cu]
            rintro e w' ⟨rfl, rfl⟩
            go_wp2_with (at_builtin; refine wpList_append_own _ rfl _ _ 59 rfl w.heap.size 3 i0 _ 1 8 Try.underlying59 hi0 hz0 hz1 hz2 rfl (by decide) _ _ _ rfl ((hown1.alloc _).alloc _) ⟨w1.heap.size + 1, 0, none⟩ 1 1 (intCells [(D.1 : Int)]) rfl rfl ?c1 ?c2 ?c3 ?c4 ?c5 ?_)
            case c1 =>
              intro j u hj
              match j, hj with
              | 0, hj => simp [intCells] at hj; subst hj; simp [Addr.add]
            case c2 => intro u hu; simp [intCells] at hu; subst hu; rfl
            case c3 => unfold maxLen; omega
            case c4 => omega
            case c5 => first | (simp; omega) | omega
            intro v' w2 hown2 hgrow _
            obtain ⟨t1, t2, t3⟩ := two_cells hown1 hgrow hbw1 rfl
            go_wp2
            go_roundw
            case rel => exact dn.out [(D.1 : Int)] _ _ hpc.out (by simp) hown2 t3
            case measure => first | (simp [intOf]; omega) | omega
    · have hR : Hid (acc.flatMap encL = R) := Lib.hid (by rw [← Hacc.out, ptsFrom_end s f pos hp]; simp [cleanP])
      obtain ⟨A2, cp2, rfl⟩ := own_slice hown
      have hA : A2 = none ∨ ∃ g, A2 = some ⟨g, 0, none⟩ := by
        rcases hown.2 with ⟨hv, _⟩ | ⟨g, cap, cur, hv, _⟩
        · injection hv with h1; exact .inl h1
        · injection hv with h1; exact .inr ⟨g, h1⟩
      have HT := Lib.hid (rText_any acc A2 cp2 wr (by omega) ⟨_, Nat.le_refl _, Reads.of_own hown⟩ hA)
      go_wp2_with fail
      refine HT.out.mono ?_
      rintro e w3 ⟨rfl, b3⟩
      go_wp2
      go_ret
      exact ⟨ret_str (by rw [hR.out]), hbw.trans (b3.mono hbw.size)⟩
end Go.Proofs.Ytobkckclngmpjaa
