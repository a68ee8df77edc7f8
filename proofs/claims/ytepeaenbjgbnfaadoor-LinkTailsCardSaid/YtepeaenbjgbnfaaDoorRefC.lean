/-
  The reference's Points, Count, bytes, Append (layer 1).
-/
import Derived.Test.YtepeaenbjgbnfaaDoorRefB
import Derived.Test.YtepeaenbjgbnfaaDoorPts
import Derived.Test.YtepeaenbjgbnfaaDoorCharsB
import Derived.Test.YtepeaenbjgbnfaaDoorMemB
import Derived.Test.YtepeaenbjgbnfaaDoorEnc
set_option linter.unusedVariables false
set_option linter.unusedSimpArgs false
namespace Go.Pub
open Go.RowKit
def SliceOwn (e : TypeId) (size n : Nat) (xs : List Value) (w : World) (en : Ending) (w' : World) : Prop := ∃ v, en = .returned v ∧ w'.ownsRow w.heap.size e size v n xs ∧ Below w.heap.size w w'
end Go.Pub
namespace Go.Proofs.YtepeaenbjgbnfaaDoor
open Go.RowKit Go.Pub

theorem ptInfo : (Tryd.prog.info? 74).map (fun i => (i.zero, i.size, i.bytes)) = some (some (.agg #[.int .i64 0, .int .i64 0]), 2, 16) := by kernel_rfl

set_option maxRecDepth 100000 in
set_option maxHeartbeats 4000000 in
theorem points_any (s : ByteArray) (w : World) (hs : s.size ≤ 1000000) : Calls Tryd.prog 60 #[.string s] w (SliceOwn 74 2 (pts s).length (ptCells (pts s)) w) := by
  obtain ⟨i0, hi0, hz0, hz1, hz2⟩ := info_parts ptInfo
  go_enter Tryd.func60, Tryd.ntmps60
  go_wp2
  go_loopw [3, 4] (fun v i wr => ∃ (pos f : Nat) (acc : List (Nat × Nat)), i = .int .i64 pos ∧ wr.ownsRow w.heap.size 74 2 v acc.length (ptCells acc) ∧ Below w.heap.size w wr ∧ acc ++ ptsFrom s f pos = pts s ∧ s.size ≤ pos + f ∧ pos ≤ s.size ∧ acc.length ≤ pos) (fun _ i _ => s.size - (intOf i).toNat)
  case atStart => exact ⟨0, s.size, [], rfl, World.ownsRow_nil _ _ _ _, Below.refl _ w, rfl, by omega, by omega, by simp⟩
  case round =>
    obtain ⟨pos, f, acc, rfl, hown, hbw, hacc, hf, hal, hacl⟩ := hrel
    have Hacc := Lib.hid hacc
    clear hacc
    by_cases hp : pos < s.size
    · have hd := dec_bd s pos hp
      have HN : Hid (∀ W, Calls Tryd.prog 74 #[.string s, .int .i64 pos] W (PointBelow (Utf8.decode s pos).1 (Utf8.decode s pos).2 W)) := Lib.hid fun W => at_any s pos W (by omega) hp
      have hall : Hid ((acc ++ [Utf8.decode s pos]) ++ ptsFrom s (f - 1) (pos + (Utf8.decode s pos).2) = pts s) := Lib.hid (by rw [← Hacc.out, ptsFrom_step s f pos hp hf]; simp)
      generalize Utf8.decode s pos = D at *
      go_wp2_with fail
      refine (HN.out _).mono ?_
      rintro e w1 ⟨rfl, hb1⟩
      have hbw1 : Below w.heap.size w w1 := hbw.trans (hb1.mono hbw.size)
      have hz := hb1.size
      have hzw := hbw.size
      have hown1 := own_below hown hb1
      go_wp2_with (at_builtin; refine wpList_append_own _ rfl _ _ 71 rfl w.heap.size 74 i0 _ 2 16 Tryd.underlying71 hi0 hz0 hz1 hz2 rfl (by decide) _ _ _ rfl ((hown1.alloc _).alloc _) ⟨w1.heap.size + 1, 0, none⟩ 1 1 [.int .i64 D.1, .int .i64 D.2] rfl rfl ?c1 ?c2 ?c3 ?c4 ?c5 ?_)
      case c1 =>
        intro j u hj
        match j, hj with
        | 0, hj => simp at hj; subst hj; simp [Addr.add]
        | 1, hj => simp at hj; subst hj; simp [Addr.add]
      case c2 => intro u hu; simp at hu; rcases hu with rfl | rfl <;> rfl
      case c3 => unfold maxLen; omega
      case c4 => omega
      case c5 => simp; omega
      intro v' w2 hown2 hgrow _
      have hnx : Below w.heap.size w w2 := ((hbw1.alloc (by omega) _).alloc (by simp; omega) _).grown hgrow (by simp; omega) (fun k hk => (hown1.lt k hk).1)
      have hc : w2.cell? ⟨w1.heap.size, 1, none⟩ = some (.int .i64 D.2) := by
        refine hgrow.cell ?_ ?_
        · simp
        · intro e
          have := (hown1.lt _ e.symm).2
          simp at this
      go_wp2
      go_roundw
      case rel =>
        refine ⟨pos + D.2, f - 1, acc ++ [D], by go_num, ?_, hnx, hall.out, by omega, by omega, by simp; omega⟩
        rw [ptCells_append, List.length_append]
        exact hown2
      case measure => simp [intOf]; omega
    · go_wp2
      go_ret
      rw [ptsFrom_end s f pos hp, List.append_nil] at Hacc
      exact ⟨_, rfl, by rw [← Hacc.out]; exact hown, hbw⟩

theorem below_new {w : World} {o : Obj} : Below w.heap.size w (w.alloc o) := (Below.refl _ _).alloc (Nat.le_refl _) _

set_option maxRecDepth 100000 in
set_option maxHeartbeats 4000000 in
theorem bytes_good (c : Int) (w : World) (h : 0 ≤ c ∧ c ≤ 1114111 ∧ (c < 55296 ∨ 57343 < c)) : Calls Tryd.prog 83 #[.int .i64 c] w (SliceOwn 5 1 (encL c).length (Lib.byteCells (encL c)) w) := by
  obtain ⟨h0, h1, h2⟩ := h
  by_cases c1 : c < 128
  · have H := Lib.hid (encCells_one c h0 c1)
    have HL := Lib.hid (Lib.byteCells_length (encL c))
    generalize encL c = L at *
    go_enter Tryd.func83, Tryd.ntmps83
    go_wp2
    go_ret
    exact ⟨_, rfl, by rw [← HL.out, H.out]; exact World.ownsRow_lit w _ 1 (Nat.le_refl _) (by unfold maxLen; omega) rfl, below_new⟩
  by_cases c2 : c < 2048
  · have H := Lib.hid (encCells_two c (by omega) c2)
    have HL := Lib.hid (Lib.byteCells_length (encL c))
    generalize encL c = L at *
    go_enter Tryd.func83, Tryd.ntmps83
    go_wp2
    go_ret
    exact ⟨_, rfl, by rw [← HL.out, H.out]; exact World.ownsRow_lit w _ 2 (Nat.le_refl _) (by unfold maxLen; omega) rfl, below_new⟩
  by_cases c3 : c < 65536
  · have H := Lib.hid (encCells_three c (by omega) c3 h2)
    have HL := Lib.hid (Lib.byteCells_length (encL c))
    generalize encL c = L at *
    by_cases c4 : c < 55296
    all_goals
      go_enter Tryd.func83, Tryd.ntmps83
      go_wp2
      go_ret
      exact ⟨_, rfl, by rw [← HL.out, H.out]; exact World.ownsRow_lit w _ 3 (Nat.le_refl _) (by unfold maxLen; omega) rfl, below_new⟩
  · have H := Lib.hid (encCells_four c (by omega) h1)
    have HL := Lib.hid (Lib.byteCells_length (encL c))
    generalize encL c = L at *
    go_enter Tryd.func83, Tryd.ntmps83
    go_wp2
    go_ret
    exact ⟨_, rfl, by rw [← HL.out, H.out]; exact World.ownsRow_lit w _ 4 (Nat.le_refl _) (by unfold maxLen; omega) rfl, below_new⟩

set_option maxRecDepth 100000 in
set_option maxHeartbeats 4000000 in
theorem bytes_any (c : Int) (w : World) : Calls Tryd.prog 83 #[.int .i64 c] w (SliceOwn 5 1 (encL c).length (Lib.byteCells (encL c)) w) := by
  by_cases h : 0 ≤ c ∧ c ≤ 1114111 ∧ (c < 55296 ∨ 57343 < c)
  · exact bytes_good c w h
  · have e : encL c = encL 65533 := by unfold encL; rw [encode_bad c (by omega)]
    rw [e]
    have HB := Lib.hid (bytes_good 65533)
    clear e
    by_cases h0 : c < 0
    all_goals
      try (by_cases h1 : 1114111 < c)
      all_goals
        go_enter Tryd.func83, Tryd.ntmps83
        go_wp2_with fail
        refine (HB.out _ (by omega)).mono ?_
        rintro e w1 ⟨v, rfl, hown, hb⟩
        go_wp2
        go_ret
        exact ⟨_, rfl, hown, hb⟩

end Go.Proofs.YtepeaenbjgbnfaaDoor
