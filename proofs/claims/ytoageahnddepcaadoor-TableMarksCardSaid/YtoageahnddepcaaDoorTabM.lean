/-
  The examples of chapter 6.
-/
import Derived.Test.YtoageahnddepcaaDoorTabL
set_option linter.unusedVariables false
set_option linter.unusedSimpArgs false
namespace Go.Proofs.YtoageahnddepcaaDoor
open Go.RowKit Go.Pub

/-- A slice of strings is handed back. -/
def SlPost (zs : List ByteArray) (w : World) (e : Ending) (w' : World) : Prop := ∃ A c, e = .returned (.slice A zs.length c) ∧ Reads w' w'.heap.size 1 A zs.length (strs zs) ∧ Below w.heap.size w w'
theorem SlPost.of {zs : List ByteArray} {n : Nat} {w : World} {e : Ending} {W' : World} {v : Value} (hn : n = zs.length) (he : e = .returned v) (h : W'.ownsRow w.heap.size 9 1 v n (strs zs)) (hb : Below w.heap.size w W') : SlPost zs w e W' := by
  subst hn
  obtain ⟨A, c, rfl⟩ := own_slice h
  exact ⟨A, c, he, Reads.of_own h, hb⟩
theorem texts_same (zs : List ByteArray) (A A' : Option Addr) (c c' B : Nat) (w : World) (hr : Reads w B 1 A zs.length (strs zs)) (hr' : Reads w B 1 A' zs.length (strs zs)) (hB : B ≤ w.heap.size) (hl : zs.length ≤ 1000000) :
    Calls Tryd.prog 14 #[.slice A zs.length c, .slice A' zs.length c'] w fun e w' => e = .returned (.bool true) ∧ Below w.heap.size w w' := by
  have h := texts_any zs zs A A' c c' B w hr hr' hB hl hl
  rw [decide_eq_true rfl] at h
  exact h

abbrev L1 : List ByteArray := [⟨#[97]⟩, ⟨#[98, 32, 124, 32, 99]⟩]
abbrev L2 : List ByteArray := [⟨#[]⟩]
abbrev L3 : List ByteArray := [⟨#[97]⟩, ⟨#[98, 124, 99]⟩]
abbrev L4 : List ByteArray := [⟨#[97]⟩]
abbrev L5 : List ByteArray := [⟨#[97]⟩, ⟨#[]⟩]

theorem lit_reads (w : World) (zs : List ByteArray) : Reads (w.alloc (.cells (strs zs).toArray 9)) (w.heap.size + 1) 1 (some ⟨w.heap.size, 0, none⟩) zs.length (strs zs) := reads_block (heap_alloc_new w _)

theorem aw_H1 : ∀ W : World, Calls Tryd.prog 16 #[.string ⟨#[124, 58, 45, 124, 45, 45, 45, 124, 58, 45, 58, 124]⟩] W fun e w' => e = .returned (.tuple #[.string ⟨#[108, 45, 99]⟩, .bool true]) ∧ Below W.heap.size W w' := fun W => by
  have h := t_align ⟨#[124, 58, 45, 124, 45, 45, 45, 124, 58, 45, 58, 124]⟩ W (by decide)
  rw [ex_al1] at h
  exact h

theorem aw_H2 : ∀ W : World, Calls Tryd.prog 16 #[.string ⟨#[45, 45, 45]⟩] W fun e w' => e = .returned (.tuple #[.string ⟨#[]⟩, .bool false]) ∧ Below W.heap.size W w' := fun W => by
  have h := t_align ⟨#[45, 45, 45]⟩ W (by decide)
  rw [ex_al2] at h
  exact h

theorem aw_H3 (m : Int) (w : World) (HM : Hid (∀ W, Below w.heap.size w W → W.cell? ⟨0, 0, none⟩ = some (.int .i64 m))) : ∀ W : World, Below w.heap.size w W → Calls Tryd.prog 12 #[.string ⟨#[124, 32, 97, 32, 124, 32, 98, 32, 92, 124, 32, 99, 32, 124]⟩] W (SlPost L1 W) := fun W hW => by
  refine (t_cellsP ⟨#[124, 32, 97, 32, 124, 32, 98, 32, 92, 124, 32, 99, 32, 124]⟩ m W (by decide) (HM.out W hW)).mono ?_
  rintro e W' ⟨A, c, he, hown, hb⟩
  rw [ex_ce1] at he hown
  exact SlPost.of rfl he hown hb

theorem aw_H4 (m : Int) (w : World) (HM : Hid (∀ W, Below w.heap.size w W → W.cell? ⟨0, 0, none⟩ = some (.int .i64 m))) : ∀ W : World, Below w.heap.size w W → Calls Tryd.prog 12 #[.string ⟨#[]⟩] W (SlPost L2 W) := fun W hW => by
  refine (t_cellsP ⟨#[]⟩ m W (by decide) (HM.out W hW)).mono ?_
  rintro e W' ⟨A, c, he, hown, hb⟩
  rw [ex_ce2] at he hown
  exact SlPost.of rfl he hown hb

theorem aw_H5 (m : Int) (w : World) (HM : Hid (∀ W, Below w.heap.size w W → W.cell? ⟨0, 0, none⟩ = some (.int .i64 m))) : ∀ W : World, Below w.heap.size w W → Calls Tryd.prog 18 #[.string ⟨#[97, 32, 124, 32, 98]⟩, .string ⟨#[45, 45, 124, 45, 45]⟩] W fun e w' => e = .returned (.bool true) ∧ Below W.heap.size W w' := fun W hW => by
  have h := t_head ⟨#[97, 32, 124, 32, 98]⟩ ⟨#[45, 45, 124, 45, 45]⟩ m W (by decide) (by decide) (HM.out W hW)
  rw [ex_hd] at h
  exact h

theorem aw_H6 (m : Int) (w : World) (HM : Hid (∀ W, Below w.heap.size w W → W.cell? ⟨0, 0, none⟩ = some (.int .i64 m))) : ∀ W : World, Below w.heap.size w W → Calls Tryd.prog 21 #[.slice (some ⟨W.heap.size, 0, none⟩) 2 2] (W.alloc (.cells #[.string ⟨#[97]⟩, .string ⟨#[98, 124, 99]⟩] 9)) fun e w' => e = .returned (.string ⟨#[124, 32, 97, 32, 124, 32, 98, 92, 124, 99, 32, 124]⟩) ∧ Below W.heap.size W w' := fun W hW => by
  have hW' := hW.alloc hW.size (.cells #[.string ⟨#[97]⟩, .string ⟨#[98, 124, 99]⟩] 9)
  have h := t_row L3 (some ⟨W.heap.size, 0, none⟩) 2 (W.heap.size + 1) m (W.alloc (.cells #[.string ⟨#[97]⟩, .string ⟨#[98, 124, 99]⟩] 9)) (lit_reads W L3) (by simp) (by decide) (by decide) (HM.out _ hW')
  rw [ex_ro1] at h
  refine h.mono ?_
  rintro e w' ⟨rfl, hb⟩
  exact ⟨rfl, ((Below.refl _ W).alloc (Nat.le_refl _) _).trans (hb.mono (by simp))⟩

theorem aw_H7 (m : Int) (w : World) (HM : Hid (∀ W, Below w.heap.size w W → W.cell? ⟨0, 0, none⟩ = some (.int .i64 m))) : ∀ W : World, Below w.heap.size w W → Calls Tryd.prog 21 #[.slice none 0 0] W fun e w' => e = .returned (.string ⟨#[124]⟩) ∧ Below W.heap.size W w' := fun W hW => by
  have h := t_row [] none 0 0 m W Reads.none_ (Nat.zero_le _) (by decide) (by decide) (HM.out _ hW)
  rw [ex_ro2] at h
  exact h

theorem aw_H8 : ∀ W : World, Calls Tryd.prog 23 #[.slice (some ⟨W.heap.size, 0, none⟩) 1 1, .int .i64 2] (W.alloc (.cells #[.string ⟨#[97]⟩] 9)) (SlPost L5 (W.alloc (.cells #[.string ⟨#[97]⟩] 9))) := fun W => by
  have h := t_fit L4 (some ⟨W.heap.size, 0, none⟩) 1 (W.heap.size + 1) 2 (W.alloc (.cells #[.string ⟨#[97]⟩] 9)) (lit_reads W L4) (by simp) (by decide) (by decide) (by decide)
  rw [ex_fi] at h
  refine h.mono ?_
  rintro e w' ⟨v, rfl, hown, hb⟩
  exact SlPost.of rfl rfl hown hb

theorem aw_T1 : ∀ (W : World) (A : Option Addr) (c : Nat), Reads W W.heap.size 1 A 2 (strs L1) → Calls Tryd.prog 14 #[.slice A 2 c, .slice (some ⟨W.heap.size, 0, none⟩) 2 2] (W.alloc (.cells #[.string ⟨#[97]⟩, .string ⟨#[98, 32, 124, 32, 99]⟩] 9)) fun e w' => e = .returned (.bool true) ∧ Below W.heap.size W w' := fun W A c hr => by
  refine (texts_same L1 A _ c 2 (W.heap.size + 1) _ ((hr.alloc (Nat.le_refl _) _).more (by omega)) (lit_reads W L1) (by simp) (by decide)).mono ?_
  rintro e w' ⟨rfl, hb⟩
  exact ⟨rfl, ((Below.refl _ W).alloc (Nat.le_refl _) _).trans (hb.mono (by simp))⟩

theorem aw_T2 : ∀ (W : World) (A : Option Addr) (c : Nat), Reads W W.heap.size 1 A 1 (strs L2) → Calls Tryd.prog 14 #[.slice A 1 c, .slice (some ⟨W.heap.size, 0, none⟩) 1 1] (W.alloc (.cells #[.string ⟨#[]⟩] 9)) fun e w' => e = .returned (.bool true) ∧ Below W.heap.size W w' := fun W A c hr => by
  refine (texts_same L2 A _ c 1 (W.heap.size + 1) _ ((hr.alloc (Nat.le_refl _) _).more (by omega)) (lit_reads W L2) (by simp) (by decide)).mono ?_
  rintro e w' ⟨rfl, hb⟩
  exact ⟨rfl, ((Below.refl _ W).alloc (Nat.le_refl _) _).trans (hb.mono (by simp))⟩

theorem aw_T5 : ∀ (W : World) (A : Option Addr) (c : Nat), Reads W W.heap.size 1 A 2 (strs L5) → Calls Tryd.prog 14 #[.slice A 2 c, .slice (some ⟨W.heap.size, 0, none⟩) 2 2] (W.alloc (.cells #[.string ⟨#[97]⟩, .string ⟨#[]⟩] 9)) fun e w' => e = .returned (.bool true) ∧ Below W.heap.size W w' := fun W A c hr => by
  refine (texts_same L5 A _ c 2 (W.heap.size + 1) _ ((hr.alloc (Nat.le_refl _) _).more (by omega)) (lit_reads W L5) (by simp) (by decide)).mono ?_
  rintro e w' ⟨rfl, hb⟩
  exact ⟨rfl, ((Below.refl _ W).alloc (Nat.le_refl _) _).trans (hb.mono (by simp))⟩

set_option maxRecDepth 100000 in
set_option maxHeartbeats 4000000 in
theorem awake_any (m : Int) (w : World) (hm : w.cell? ⟨0, 0, none⟩ = some (.int .i64 m)) : Calls Tryd.prog 11 #[] w fun e w' => e = .returned (.bool true) ∧ Below w.heap.size w w' := by
  have h0w : 0 < w.heap.size := World.block_lt_of_cell? _ _ hm
  have HM : Hid (∀ W, Below w.heap.size w W → W.cell? ⟨0, 0, none⟩ = some (.int .i64 m)) := Lib.hid fun W h => (h.cell (p := ⟨0, 0, none⟩) h0w).trans hm
  have H1 := Lib.hid (aw_H1)
  have H2 := Lib.hid (aw_H2)
  have H3 := Lib.hid (aw_H3 m w HM)
  have H4 := Lib.hid (aw_H4 m w HM)
  have H5 := Lib.hid (aw_H5 m w HM)
  have H6 := Lib.hid (aw_H6 m w HM)
  have H7 := Lib.hid (aw_H7 m w HM)
  have H8 := Lib.hid (aw_H8)
  have T1 := Lib.hid (aw_T1)
  have T2 := Lib.hid (aw_T2)
  have T5 := Lib.hid (aw_T5)
  clear HM
  have q1 : ((⟨#[108, 45, 99]⟩ : ByteArray).toList == (⟨#[108, 45, 99]⟩ : ByteArray).toList) = true := beq_self_eq_true _
  have q2 : ((⟨#[124, 32, 97, 32, 124, 32, 98, 92, 124, 99, 32, 124]⟩ : ByteArray).toList == (⟨#[124, 32, 97, 32, 124, 32, 98, 92, 124, 99, 32, 124]⟩ : ByteArray).toList) = true := beq_self_eq_true _
  have q3 : ((⟨#[124]⟩ : ByteArray).toList == (⟨#[124]⟩ : ByteArray).toList) = true := beq_self_eq_true _
  clear hm
  go_enter Tryd.func11, Tryd.ntmps11
  go_wp2_with fail
  ((with_reducible refine (H1.out _).mono ?_))
  rintro e w1 ⟨rfl, b1⟩
  have C1 := Lib.hid b1
  clear b1
  go_wp2_with fail
  ((with_reducible refine (H2.out _).mono ?_))
  rintro e w2 ⟨rfl, b2⟩
  have C2 := Lib.hid (C1.out.trans (b2.mono C1.out.size))
  clear b2
  go_wp2_with fail
  ((with_reducible refine (H3.out _ C2.out).mono ?_))
  rintro e w3 ⟨A, c, rfl, hr3, b3⟩
  have C3 := Lib.hid (C2.out.trans (b3.mono C2.out.size))
  have R3 := Lib.hid hr3
  clear b3 hr3
  go_wp2_with fail
  ((with_reducible refine (T1.out _ _ _ R3.out).mono ?_))
  rintro e w4 ⟨rfl, b4⟩
  have C4 := Lib.hid (C3.out.trans (b4.mono C3.out.size))
  clear b4
  go_wp2_with fail
  ((with_reducible refine (H4.out _ C4.out).mono ?_))
  rintro e w5 ⟨A', c', rfl, hr5, b5⟩
  have C5 := Lib.hid (C4.out.trans (b5.mono C4.out.size))
  have R5 := Lib.hid hr5
  clear b5 hr5
  go_wp2_with fail
  ((with_reducible refine (T2.out _ _ _ R5.out).mono ?_))
  rintro e w6 ⟨rfl, b6⟩
  have C6 := Lib.hid (C5.out.trans (b6.mono C5.out.size))
  clear b6
  go_wp2_with fail
  ((with_reducible refine (H5.out _ C6.out).mono ?_))
  rintro e w7 ⟨rfl, b7⟩
  have C7 := Lib.hid (C6.out.trans (b7.mono C6.out.size))
  clear b7
  go_wp2_with fail
  ((with_reducible refine (H6.out _ C7.out).mono ?_))
  rintro e w8 ⟨rfl, b8⟩
  have C8 := Lib.hid (C7.out.trans (b8.mono C7.out.size))
  clear b8
  go_wp2_with fail
  ((with_reducible refine (H7.out _ C8.out).mono ?_))
  rintro e w9 ⟨rfl, b9⟩
  have C9 := Lib.hid (C8.out.trans (b9.mono C8.out.size))
  clear b9
  go_wp2_with fail
  ((with_reducible refine (H8.out _).mono ?_))
  rintro e wa ⟨A'', c'', rfl, hra, ba⟩
  have Ca := Lib.hid ((C9.out.alloc C9.out.size _).trans (ba.mono (by have := C9.out.size; simp; omega)))
  have Ra := Lib.hid hra
  clear ba hra
  go_wp2_with fail
  ((with_reducible refine (T5.out _ _ _ Ra.out).mono ?_))
  rintro e wb ⟨rfl, bb⟩
  have Cb := Lib.hid (Ca.out.trans (bb.mono Ca.out.size))
  clear bb
  go_wp2_with fail
  go_ret
  exact ⟨rfl, Cb.out⟩
end Go.Proofs.YtoageahnddepcaaDoor
