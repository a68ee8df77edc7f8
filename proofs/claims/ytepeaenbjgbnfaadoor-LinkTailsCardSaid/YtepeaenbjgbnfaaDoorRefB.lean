/-
  The reference's at and Next (layer 1): the code point at a place of a string.
-/
import Derived.Test.YtepeaenbjgbnfaaDoorRefA
set_option linter.unusedVariables false
set_option linter.unusedSimpArgs false
namespace Go.Proofs.YtepeaenbjgbnfaaDoor
open Go.RowKit Go.Pub

theorem dec_rest (s : ByteArray) (i : Nat) (h : ¬ bt s i < 128) (h2 : ¬ (194 ≤ bt s i ∧ bt s i ≤ 223)) (h3 : ¬ (224 ≤ bt s i ∧ bt s i ≤ 239)) (h4 : ¬ (240 ≤ bt s i ∧ bt s i ≤ 244)) : Utf8.decode s i = (65533, 1) :=
  dec_bad_width s i (by unfold wd; rw [if_neg h, if_neg h2, if_neg h3, if_neg h4])

set_option maxRecDepth 100000 in
set_option maxHeartbeats 4000000 in
theorem at_any (s : ByteArray) (i : Nat) (w : World) (hs : s.size ≤ 9223372036854775800) (hi : i < s.size) :
    Calls Tryd.prog 74 #[.string s, .int .i64 i] w (PointBelow (Utf8.decode s i).1 (Utf8.decode s i).2 w) := by
  have hbt := Lib.hid (get_bt s i hi)
  have hlt : ((s[i].toNat : Nat) : Int) < 256 := by rw [get_bt s i hi]; have := bt_lt s i; omega
  by_cases c1 : bt s i < 128
  · have hD := Lib.hid (dec_one s i c1)
    generalize Utf8.decode s i = D at *
    have q : ((s[i].toNat : Nat) : Int) < 128 := by rw [get_bt s i hi]; omega
    go_enter Tryd.func74, Tryd.ntmps74
    go_wp2
    exact bodyPost_ret (v := .agg #[.int .i64 ((s[i].toNat : Nat) : Int), .int .i64 1]) (by simp [results, Tryd.results74, go_sem]) rfl (pb_mk (by rw [hD.out, hbt.out]) (by rw [hD.out]; rfl) ((Below.refl _ _).alloc (Nat.le_refl _) _))
  have q : 128 ≤ ((s[i].toNat : Nat) : Int) := by rw [get_bt s i hi]; omega
  by_cases c2 : 194 ≤ bt s i ∧ bt s i ≤ 223
  · have hD := Lib.hid (dec_two s i hi c2)
    have m1 := mo_bd s (i + 1) 128 191 (by omega)
    generalize Utf8.decode s i = D at *
    generalize hx : mo s (i + 1) 128 191 = x at *
    have Hx := Lib.hid hx
    clear hx
    have q2 : 194 ≤ ((s[i].toNat : Nat) : Int) := by rw [get_bt s i hi]; omega
    have q3 : ((s[i].toNat : Nat) : Int) ≤ 223 := by rw [get_bt s i hi]; omega
    clear c1
    by_cases hx0 : x < 0
    · have hD2 := Lib.hid (hD.out.trans (if_pos hx0))
      go_enter Tryd.func74, Tryd.ntmps74
      go_wp2_with fail
      refine (more_at _ _ _ s (i + 1) 128 191 _ (by omega) (by decide) (by decide) (by omega) rfl rfl).mono ?_
      rw [Hx.out]
      rintro e w' ⟨rfl, rfl⟩
      go_wp2
      exact bodyPost_ret (v := .agg #[.int .i64 65533, .int .i64 1]) (by simp [results, Tryd.results74, go_sem]) rfl (pb_mk (by rw [hD2.out]; rfl) (by rw [hD2.out]; rfl) ((Below.refl _ _).alloc (Nat.le_refl _) _))
    · have hD2 := Lib.hid (hD.out.trans (if_neg hx0))
      go_enter Tryd.func74, Tryd.ntmps74
      go_wp2_with fail
      refine (more_at _ _ _ s (i + 1) 128 191 _ (by omega) (by decide) (by decide) (by omega) rfl rfl).mono ?_
      rw [Hx.out]
      rintro e w' ⟨rfl, rfl⟩
      go_wp2
      exact bodyPost_ret (v := .agg #[.int .i64 ((((s[i].toNat : Nat) : Int) - 192) * 64 + x), .int .i64 2]) (by simp [results, Tryd.results74, go_sem]) rfl (pb_mk (by rw [hD2.out, hbt.out]; simp only []; omega) (by rw [hD2.out]; rfl) ((Below.refl _ _).alloc (Nat.le_refl _) _))
  by_cases c3 : 224 ≤ bt s i ∧ bt s i ≤ 239
  · have q2 : 224 ≤ ((s[i].toNat : Nat) : Int) := by rw [get_bt s i hi]; omega
    have q3 : ((s[i].toNat : Nat) : Int) ≤ 239 := by rw [get_bt s i hi]; omega
    have h3 := fun w => three_any s i w hs hi c3
    have H3 := Lib.hid h3
    clear h3 c1 c2
    generalize Utf8.decode s i = D at *
    go_enter Tryd.func74, Tryd.ntmps74
    go_wp2_with fail
    refine (H3.out _).mono ?_
    rintro e w1 ⟨rfl, hb1⟩
    have hz := hb1.size
    have hc0 : w1.cell? ⟨w.heap.size, 0, none⟩ = some (.int .i64 0) := by rw [hb1.cell (p := ⟨w.heap.size, 0, none⟩) (by simp)]; simp
    have hc1 : w1.cell? ⟨w.heap.size, 1, none⟩ = some (.int .i64 0) := by rw [hb1.cell (p := ⟨w.heap.size, 1, none⟩) (by simp)]; simp
    have hf0 : w1.frozen? ⟨w.heap.size, 0, none⟩ = false := by rw [hb1.frozen (p := ⟨w.heap.size, 0, none⟩) (by simp)]; simp
    have hf1 : w1.frozen? ⟨w.heap.size, 1, none⟩ = false := by rw [hb1.frozen (p := ⟨w.heap.size, 1, none⟩) (by simp)]; simp
    have hbw : Below w.heap.size w w1 := ((Below.refl _ w).alloc (Nat.le_refl _) _).trans (hb1.mono (by simp))
    go_wp2
    exact bodyPost_ret (v := .agg #[.int .i64 D.1, .int .i64 D.2]) (by simp [results, Tryd.results74, go_sem, hc0, hc1]) rfl (pb_mk rfl rfl ((hbw.setCell (by simp) _).setCell (by simp) _))
  by_cases c4 : 240 ≤ bt s i ∧ bt s i ≤ 244
  · have q2 : 240 ≤ ((s[i].toNat : Nat) : Int) := by rw [get_bt s i hi]; omega
    have q3 : ((s[i].toNat : Nat) : Int) ≤ 244 := by rw [get_bt s i hi]; omega
    have h3 := fun w => four_any s i w hs hi c4
    have H3 := Lib.hid h3
    clear h3 c1 c2 c3
    generalize Utf8.decode s i = D at *
    go_enter Tryd.func74, Tryd.ntmps74
    go_wp2_with fail
    refine (H3.out _).mono ?_
    rintro e w1 ⟨rfl, hb1⟩
    have hz := hb1.size
    have hc0 : w1.cell? ⟨w.heap.size, 0, none⟩ = some (.int .i64 0) := by rw [hb1.cell (p := ⟨w.heap.size, 0, none⟩) (by simp)]; simp
    have hc1 : w1.cell? ⟨w.heap.size, 1, none⟩ = some (.int .i64 0) := by rw [hb1.cell (p := ⟨w.heap.size, 1, none⟩) (by simp)]; simp
    have hf0 : w1.frozen? ⟨w.heap.size, 0, none⟩ = false := by rw [hb1.frozen (p := ⟨w.heap.size, 0, none⟩) (by simp)]; simp
    have hf1 : w1.frozen? ⟨w.heap.size, 1, none⟩ = false := by rw [hb1.frozen (p := ⟨w.heap.size, 1, none⟩) (by simp)]; simp
    have hbw : Below w.heap.size w w1 := ((Below.refl _ w).alloc (Nat.le_refl _) _).trans (hb1.mono (by simp))
    go_wp2
    exact bodyPost_ret (v := .agg #[.int .i64 D.1, .int .i64 D.2]) (by simp [results, Tryd.results74, go_sem, hc0, hc1]) rfl (pb_mk rfl rfl ((hbw.setCell (by simp) _).setCell (by simp) _))
  have hD := Lib.hid (dec_rest s i c1 c2 c3 c4)
  generalize Utf8.decode s i = D at *
  have c5 : bt s i < 194 ∨ 244 < bt s i := by omega
  clear c2 c3 c4 c1
  rcases c5 with c5 | c5
  · have q2 : ((s[i].toNat : Nat) : Int) < 194 := by rw [get_bt s i hi]; omega
    go_enter Tryd.func74, Tryd.ntmps74
    go_wp2
    exact bodyPost_ret (v := .agg #[.int .i64 65533, .int .i64 1]) (by simp [results, Tryd.results74, go_sem]) rfl (pb_mk (by rw [hD.out]; rfl) (by rw [hD.out]; rfl) ((Below.refl _ _).alloc (Nat.le_refl _) _))
  · have q2 : 244 < ((s[i].toNat : Nat) : Int) := by rw [get_bt s i hi]; omega
    go_enter Tryd.func74, Tryd.ntmps74
    go_wp2
    exact bodyPost_ret (v := .agg #[.int .i64 65533, .int .i64 1]) (by simp [results, Tryd.results74, go_sem]) rfl (pb_mk (by rw [hD.out]; rfl) (by rw [hD.out]; rfl) ((Below.refl _ _).alloc (Nat.le_refl _) _))

def PairBelow (c n : Int) (w : World) (e : Ending) (w' : World) : Prop := e = .returned (.tuple #[.int .i64 c, .int .i64 n]) ∧ Below w.heap.size w w'
theorem pairBelow_mk {c n c' n' : Int} {w w' : World} (hc : c = c') (hn : n = n') (hb : Below w.heap.size w w') : PairBelow c' n' w (.returned (.tuple #[.int .i64 c, .int .i64 n])) w' := by
  subst hc hn; exact ⟨rfl, hb⟩

end Go.Proofs.YtepeaenbjgbnfaaDoor
