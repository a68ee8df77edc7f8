/-
  The reference's clean, Valid, Text (layer 1).
-/
import Derived.Test.YtobkckclngmpjaaRefC
import Derived.Test.YtobkckclngmpjaaBuild
set_option linter.unusedVariables false
set_option linter.unusedSimpArgs false
namespace Go.Pub
def intCells (l : List Int) : List Value := l.map (Value.int .i64)
theorem intCells_at (l : List Int) (k : Nat) (h : k < l.length) : (intCells l)[k]? = some (.int .i64 l[k]) := by simp [intCells, h]
theorem add_plain (g k : Nat) : (⟨g, 0, none⟩ : Addr).add k = ⟨g, k, none⟩ := by unfold Addr.add; split <;> simp_all
end Go.Pub
namespace Go.Proofs.Ytobkckclngmpjaa
open Go.RowKit Go.Pub

set_option maxRecDepth 100000 in
set_option maxHeartbeats 400000 in
theorem rclean_any (c : Int) (w : World) : Calls Try.prog 42 #[.int .i64 c] w fun e w' => e = .returned (.bool (!uncleanB c)) ∧ w = w' := by
  have H : Hid ((!uncleanB c) = !((decide (c < 32) && c != 10) || c == 127)) := Lib.hid rfl
  generalize (!uncleanB c) = b at *
  by_cases h2 : c = 10
  · subst h2
    go_enter Try.func42, Try.ntmps42
    go_wp2
    go_ret
    exact ⟨ret_bool (by rw [H.out]; rfl), rfl⟩
  · have h3 : (c == 10) = false := by simpa using h2
    clear h2
    by_cases h : 32 ≤ c
    · go_enter Try.func42, Try.ntmps42
      go_wp2
      go_ret
      exact ⟨ret_bool (by rw [H.out]; simp [show ¬ c < 32 by omega]; rfl), rfl⟩
    · go_enter Try.func42, Try.ntmps42
      go_wp2
      go_ret
      exact ⟨ret_bool (by rw [H.out]; simp at h3; simp; omega), rfl⟩

set_option maxRecDepth 100000 in
set_option maxHeartbeats 4000000 in
theorem rValid_any (s : ByteArray) (w : World) (hs : s.size ≤ 1000000) : Calls Try.prog 29 #[.string s] w fun e w' => e = .returned (.bool (validB s)) ∧ Below w.heap.size w w' := by
  have HV : Hid (validB s = (pts s).all okPt) := Lib.hid rfl
  have HP := Lib.hid (points_any s)
  have hlen := pts_length s
  generalize validB s = V at *
  generalize pts s = l at *
  go_enter Try.func29, Try.ntmps29
  go_wp2_with fail
  refine (HP.out _ hs).mono ?_
  rintro e w1 ⟨v, rfl, hown, hb1⟩
  obtain ⟨A, cp, rfl⟩ := own_slice hown
  have hrd := Reads.of_own hown
  go_wp2
  go_loopw [8] (fun i wr => ∃ k : Nat, i = .int .i64 k ∧ k ≤ l.length ∧ Below w1.heap.size w1 wr ∧ (l.take k).all okPt = true) (fun i _ => l.length - (intOf i).toNat)
  case atStart => exact ⟨0, rfl, by omega, Below.refl _ w1, rfl⟩
  case round =>
    obtain ⟨k, rfl, hk, hb, hok⟩ := hrel
    have Hok := Lib.hid hok
    clear hok
    by_cases hlt : k < l.length
    · obtain ⟨ad, rfl, hadb, hcell⟩ := hrd.2 (by omega)
      obtain ⟨g, hg⟩ : ∃ g, ad = ⟨g, 0, none⟩ := by
        obtain ⟨g, cap, hv, _⟩ := hown.form (by omega)
        injection hv with h1 h2 h3
        injection h1 with h1
        exact ⟨g, h1⟩
      subst hg
      have hp := ptCells_at l k l[k] (List.getElem?_eq_getElem hlt)
      have hc0 : wr.cell? ⟨g, k * 2, none⟩ = some (.int .i64 l[k].1) := (hb.cell (p := ⟨g, k * 2, none⟩) hadb).trans (by rw [← add_plain]; exact hcell _ _ hp.1)
      have hc1 : wr.cell? ⟨g, k * 2 + 1, none⟩ = some (.int .i64 l[k].2) := (hb.cell (p := ⟨g, k * 2 + 1, none⟩) hadb).trans (by rw [← add_plain]; exact hcell _ _ hp.2)
      have hz := hb.size
      have hVf : Hid (okPt l[k] = false → V = false) := Lib.hid fun h => by
        rw [HV.out, ← List.take_append_drop k l, List.drop_eq_getElem_cons hlt, List.all_append, List.all_cons, h]; simp
      have hVt : Hid (okPt l[k] = true → (l.take (k + 1)).all okPt = true) := Lib.hid fun h => by
        rw [List.take_succ_eq_append_getElem hlt, List.all_append, Hok.out]; simp [h]
      have hokp : Hid (okPt l[k] = (!(l[k].1 == 65533 && l[k].2 == 1) && !uncleanB l[k].1)) := Lib.hid rfl
      clear hp hcell
      generalize l[k] = D at *
      by_cases c3 : uncleanB D.1 = true
      · have Hv : Hid (V = false) := Lib.hid (hVf.out (by rw [hokp.out, c3]; simp))
        go_wp2_with (go_at_call 42; refine (rclean_any _ _).mono ?_; rw [c3]; rintro e w' ⟨rfl, rfl⟩)
        go_ret
        exact ⟨ret_bool Hv.out.symm, (hb1.trans (hb.mono hb1.size)).alloc (Nat.le_trans hb1.size hz) _⟩
      · rw [Bool.not_eq_true] at c3
        by_cases c1 : ((D.1 : Int) == 65533) = true
        · by_cases c2 : ((D.2 : Int) == 1) = true
          · have Hv : Hid (V = false) := Lib.hid (hVf.out (by rw [hokp.out, c3]; simp at c1 c2; simp; omega))
            go_wp2_with (go_at_call 42; refine (rclean_any _ _).mono ?_; rw [c3]; rintro e w' ⟨rfl, rfl⟩)
            go_ret
            exact ⟨ret_bool Hv.out.symm, (hb1.trans (hb.mono hb1.size)).alloc (Nat.le_trans hb1.size hz) _⟩
          · rw [Bool.not_eq_true] at c2
            have Hv := Lib.hid (hVt.out (by rw [hokp.out, c3]; simp at c1 c2; simp; omega))
            go_wp2_with (go_at_call 42; refine (rclean_any _ _).mono ?_; rw [c3]; rintro e w' ⟨rfl, rfl⟩)
            go_roundw
            case rel => exact ⟨k + 1, by go_num, by omega, hb.alloc hz _, Hv.out⟩
            case measure => simp [intOf]; omega
        · rw [Bool.not_eq_true] at c1
          have Hv := Lib.hid (hVt.out (by rw [hokp.out, c3]; simp at c1; simp; omega))
          go_wp2_with (go_at_call 42; refine (rclean_any _ _).mono ?_; rw [c3]; rintro e w' ⟨rfl, rfl⟩)
          go_roundw
          case rel => exact ⟨k + 1, by go_num, by omega, hb.alloc hz _, Hv.out⟩
          case measure => simp [intOf]; omega
    · obtain rfl : k = l.length := by omega
      have Hv : Hid (V = true) := Lib.hid (by rw [HV.out]; have := Hok.out; rwa [List.take_length] at this)
      go_wp2
      go_ret
      exact ⟨ret_bool Hv.out.symm, hb1.trans (hb.mono hb1.size)⟩

set_option maxRecDepth 100000 in
set_option maxHeartbeats 4000000 in
theorem rText_any (cs : List Int) (A : Option Addr) (cp : Nat) (w : World) (hl : cs.length ≤ 10000000) (hrd : ∃ B, B ≤ w.heap.size ∧ Reads w B 1 A cs.length (intCells cs)) (hA : A = none ∨ ∃ g, A = some ⟨g, 0, none⟩) :
    Calls Try.prog 47 #[.slice A cs.length cp] w fun e w' => e = .returned (.string ⟨(cs.flatMap encL).toArray⟩) ∧ Below w.heap.size w w' := by
  obtain ⟨B, hB, hrd⟩ := hrd
  have HT : Hid (∀ k, cs.flatMap encL = (cs.take k).flatMap encL ++ (cs.drop k).flatMap encL) := Lib.hid fun k => by rw [← List.flatMap_append, List.take_append_drop]
  generalize hR : cs.flatMap encL = R at *
  clear hR
  obtain ⟨i0, hi0, hz0, hz1, hz2⟩ := info_parts byteInfo
  go_enter Try.func47, Try.ntmps47
  go_wp2
  go_loopw [3, 8] (fun v i wr => ∃ (k : Nat) (acc : List UInt8), i = .int .i64 k ∧ k ≤ cs.length ∧ wr.ownsRow w.heap.size 5 1 v acc.length (Lib.byteCells acc) ∧ Below w.heap.size w wr ∧ acc = (cs.take k).flatMap encL ∧ acc.length ≤ 4 * k) (fun _ i _ => cs.length - (intOf i).toNat)
  case atStart => exact ⟨0, [], rfl, by omega, World.ownsRow_nil _ _ _ _, Below.refl _ w, rfl, by simp⟩
  case round =>
    obtain ⟨k, acc, rfl, hk, hown, hb, hacc, hal⟩ := hrel
    have Hacc := Lib.hid hacc
    clear hacc
    by_cases hlt : k < cs.length
    · obtain ⟨ad, rfl, hadb, hcell⟩ := hrd.2 (by omega)
      rcases hA with hA | ⟨g, hg⟩
      · cases hA
      injection hg with hg
      subst hg
      have hc0 : wr.cell? ⟨g, k, none⟩ = some (.int .i64 cs[k]) := (hb.cell (p := ⟨g, k, none⟩) (by show g < _; have : g < B := hadb; omega)).trans (by rw [← add_plain]; exact hcell _ _ (intCells_at cs k hlt))
      have hnext : Hid (acc ++ encL cs[k] = (cs.take (k + 1)).flatMap encL) := Lib.hid (by rw [List.take_succ_eq_append_getElem hlt, List.flatMap_append, ← Hacc.out]; simp)
      have hel := encL_length cs[k]
      clear hcell
      have HB := Lib.hid (bytes_any cs[k])
      have hone : Hid (∀ u ∈ Lib.byteCells (encL cs[k]), u.oneCell' = true) := Lib.hid (fun u hu => by simp only [Lib.byteCells, List.mem_map] at hu; obtain ⟨b, _, rfl⟩ := hu; rfl)
      generalize encL cs[k] = E at *
      generalize cs[k] = c at *
      have hz := hb.size
      go_wp2_with fail
      refine (HB.out _).mono ?_
      rintro e w1 ⟨v2, rfl, hown2, hb2⟩
      obtain ⟨A2, cp2, rfl⟩ := own_slice hown2
      obtain ⟨ad2, rfl, had2, hcell2⟩ := (Reads.of_own hown2).2 (by omega)
      have hown1 := own_below hown hb2
      have hz2' := hb2.size
      go_wp2_with (at_builtin; refine wpList_append_own _ rfl _ _ 43 rfl w.heap.size 5 i0 _ 1 1 Try.underlying43 hi0 hz0 hz1 hz2 rfl (by decide) _ _ _ rfl hown1 ad2 E.length cp2 (Lib.byteCells E) rfl (by rw [Lib.byteCells_length, Nat.mul_one]) hcell2 hone.out ?c3 ?c4 ?c5 ?_)
      case c3 => unfold maxLen; omega
      case c4 => omega
      case c5 => omega
      intro v' w2 hown3 hgrow _
      have hnx : Below w.heap.size w w2 := (hb.trans (hb2.mono hz)).grown hgrow (by omega) (fun k hk => (hown1.lt k hk).1)
      go_wp2
      go_roundw
      case rel =>
        refine ⟨k + 1, acc ++ E, by go_num, by omega, ?_, hnx, hnext.out, by simp; omega⟩
        rw [Lib.byteCells_append, List.length_append]
        exact hown3
      case measure => simp [intOf]; omega
    · obtain rfl : k = cs.length := by omega
      have hR : Hid (acc = R) := Lib.hid (by rw [HT.out cs.length, List.drop_length, Hacc.out]; simp)
      obtain ⟨A2, cp2, rfl⟩ := own_slice hown
      have hcv := conv_bytes wr 43 5 Try.underlying43 Try.underlying5 cp2 (Reads.of_own hown) 9 Try.underlying9
      go_wp2
      go_ret
      exact ⟨ret_str (by rw [hR.out]), hb⟩
end Go.Proofs.Ytobkckclngmpjaa
