/-
  The reference's clean, Valid, Text (layer 1).
-/
import Derived.Test.YtepeaenbjgbnfaaDoorRefC
import Derived.Test.YtepeaenbjgbnfaaDoorBuild
set_option linter.unusedVariables false
set_option linter.unusedSimpArgs false
namespace Go.Pub
def intCells (l : List Int) : List Value := l.map (Value.int .i64)
theorem intCells_at (l : List Int) (k : Nat) (h : k < l.length) : (intCells l)[k]? = some (.int .i64 l[k]) := by simp [intCells, h]
theorem add_plain (g k : Nat) : (⟨g, 0, none⟩ : Addr).add k = ⟨g, k, none⟩ := by unfold Addr.add; split <;> simp_all
end Go.Pub
namespace Go.Proofs.YtepeaenbjgbnfaaDoor
open Go.RowKit Go.Pub

set_option maxRecDepth 100000 in
set_option maxHeartbeats 4000000 in
theorem rText_any (cs : List Int) (A : Option Addr) (cp : Nat) (w : World) (hl : cs.length ≤ 10000000) (hrd : ∃ B, B ≤ w.heap.size ∧ Reads w B 1 A cs.length (intCells cs)) (hA : A = none ∨ ∃ g, A = some ⟨g, 0, none⟩) :
    Calls Tryd.prog 73 #[.slice A cs.length cp] w fun e w' => e = .returned (.string ⟨(cs.flatMap encL).toArray⟩) ∧ Below w.heap.size w w' := by
  obtain ⟨B, hB, hrd⟩ := hrd
  have HT : Hid (∀ k, cs.flatMap encL = (cs.take k).flatMap encL ++ (cs.drop k).flatMap encL) := Lib.hid fun k => by rw [← List.flatMap_append, List.take_append_drop]
  generalize hR : cs.flatMap encL = R at *
  clear hR
  obtain ⟨i0, hi0, hz0, hz1, hz2⟩ := info_parts byteInfo
  go_enter Tryd.func73, Tryd.ntmps73
  go_wp2
  go_loopw [3, 8] (fun v i wr => ∃ (k : Nat) (acc : List UInt8), i = .int .i64 k ∧ k ≤ cs.length ∧ wr.ownsRow w.heap.size 5 1 v acc.length (Lib.byteCells acc) ∧ Below w.heap.size w wr ∧ acc = (cs.take k).flatMap encL ∧ acc.length ≤ 4 * k) (fun _ i _ => cs.length - (intOf i).toNat)
  case atStart => exact ⟨0, [], rfl, by omega, World.ownsRow_nil _ _ _ _, Below.refl _ w, rfl, by simp⟩
  case round =>
    obtain ⟨k, acc, rfl, hk, hown, hb, hacc, hal⟩ := hrel
    have Hacc := Lib.hid hacc
    clear hacc
    by_cases hlt : k < cs.length
    · obtain ⟨ad, rfl, hadb, hcell⟩ := hrd.2 (by omega)
      rcases hA with hA | ⟨g, hg⟩
      · cases hA
      injection hg with hg
      subst hg
      have hc0 : wr.cell? ⟨g, k, none⟩ = some (.int .i64 cs[k]) := (hb.cell (p := ⟨g, k, none⟩) (by show g < _; have : g < B := hadb; omega)).trans (by rw [← add_plain]; exact hcell _ _ (intCells_at cs k hlt))
      have hnext : Hid (acc ++ encL cs[k] = (cs.take (k + 1)).flatMap encL) := Lib.hid (by rw [List.take_succ_eq_append_getElem hlt, List.flatMap_append, ← Hacc.out]; simp)
      have hel := encL_length cs[k]
      clear hcell
      have HB := Lib.hid (bytes_any cs[k])
      have hone : Hid (∀ u ∈ Lib.byteCells (encL cs[k]), u.oneCell' = true) := Lib.hid (fun u hu => by simp only [Lib.byteCells, List.mem_map] at hu; obtain ⟨b, _, rfl⟩ := hu; rfl)
      generalize encL cs[k] = E at *
      generalize cs[k] = c at *
      have hz := hb.size
      go_wp2_with fail
      refine (HB.out _).mono ?_
      rintro e w1 ⟨v2, rfl, hown2, hb2⟩
      obtain ⟨A2, cp2, rfl⟩ := own_slice hown2
      obtain ⟨ad2, rfl, had2, hcell2⟩ := (Reads.of_own hown2).2 (by omega)
      have hown1 := own_below hown hb2
      have hz2' := hb2.size
      go_wp2_with (at_builtin; refine wpList_append_own _ rfl _ _ 47 rfl w.heap.size 5 i0 _ 1 1 Tryd.underlying47 hi0 hz0 hz1 hz2 rfl (by decide) _ _ _ rfl hown1 ad2 E.length cp2 (Lib.byteCells E) rfl (by rw [Lib.byteCells_length, Nat.mul_one]) hcell2 hone.out ?c3 ?c4 ?c5 ?_)
      case c3 => unfold maxLen; omega
      case c4 => omega
      case c5 => omega
      intro v' w2 hown3 hgrow _
      have hnx : Below w.heap.size w w2 := (hb.trans (hb2.mono hz)).grown hgrow (by omega) (fun k hk => (hown1.lt k hk).1)
      go_wp2
      go_roundw
      case rel =>
        refine ⟨k + 1, acc ++ E, by go_num, by omega, ?_, hnx, hnext.out, by simp; omega⟩
        rw [Lib.byteCells_append, List.length_append]
        exact hown3
      case measure => simp [intOf]; omega
    · obtain rfl : k = cs.length := by omega
      have hR : Hid (acc = R) := Lib.hid (by rw [HT.out cs.length, List.drop_length, Hacc.out]; simp)
      obtain ⟨A2, cp2, rfl⟩ := own_slice hown
      have hcv := conv_bytes wr 47 5 Tryd.underlying47 Tryd.underlying5 cp2 (Reads.of_own hown) 9 Tryd.underlying9
      go_wp2
      go_ret
      exact ⟨ret_str (by rw [hR.out]), hb⟩
end Go.Proofs.YtepeaenbjgbnfaaDoor
