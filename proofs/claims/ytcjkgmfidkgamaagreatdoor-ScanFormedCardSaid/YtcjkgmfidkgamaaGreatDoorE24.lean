/-
  Texts of the proof, put together (what this law reaches): ScVG.
-/
import Derived.Test.YtcjkgmfidkgamaaGreatDoorE09
import Derived.Test.YtcjkgmfidkgamaaGreatDoorE23
set_option linter.unusedVariables false
set_option linter.unusedSimpArgs false
namespace Go.Proofs.YtcjkgmfidkgamaaGreatDoor
open Go.RowKit Go.Pub
set_option maxRecDepth 100000 in
set_option maxHeartbeats 4000000 in
theorem r4_fieldsA (k : Nat) (hk : k = 1 ∨ k = 4 ∨ k = 5 ∨ k = 12) (t : ByteArray) (A1 : Option Addr) (c1 : Nat) (A2 : Option Addr) (c2 : Nat) (w : World) : Calls Tryz.prog 93 #[.agg #[.int .i64 (k : Nat), .string t, .string ⟨#[]⟩, .string ⟨#[]⟩, .string ⟨#[]⟩, .slice none 0 0, .slice none 0 0, (.slice A1 0 c1), (.slice A2 0 c2), .slice none 0 0]] w fun e w' => e = .returned (.bool true) ∧ Below w.heap.size w w' := by
  have HA := Lib.hid r4_noAttr
  have q0 : ((⟨#[]⟩ : ByteArray).toList == ([] : List UInt8)) = true := by rw [str_nil (x := ⟨#[]⟩) rfl]; rfl
  have HI0 : Hid (∀ (W : World) (g : Nat), W.heap.size = g → Calls Tryz.prog 129 #[.int .i64 k, .slice (some ⟨g, 0, none⟩) 8 8] (W.alloc (.cells #[.int .i64 1, .int .i64 4, .int .i64 5, .int .i64 9, .int .i64 10, .int .i64 12, .int .i64 14, .int .i64 15] 3)) fun e w' => e = .returned (.bool true) ∧ W.alloc (.cells #[.int .i64 1, .int .i64 4, .int .i64 5, .int .i64 9, .int .i64 10, .int .i64 12, .int .i64 14, .int .i64 15] 3) = w') := Lib.hid fun W g hg => by
    subst hg
    have h := r4_in k [1, 4, 5, 9, 10, 12, 14, 15] W.heap.size 8 (W.alloc (.cells #[.int .i64 1, .int .i64 4, .int .i64 5, .int .i64 9, .int .i64 10, .int .i64 12, .int .i64 14, .int .i64 15] 3)) rfl (by decide) (fun j hj => by
      have hb := Blk.new W 3 #[.int .i64 1, .int .i64 4, .int .i64 5, .int .i64 9, .int .i64 10, .int .i64 12, .int .i64 14, .int .i64 15]
      have hc := hb.cell j
      rw [hc]
      have hj : j < 8 := hj
      rcases (by omega : j = 0 ∨ j = 1 ∨ j = 2 ∨ j = 3 ∨ j = 4 ∨ j = 5 ∨ j = 6 ∨ j = 7) with rfl | rfl | rfl | rfl | rfl | rfl | rfl | rfl <;> rfl)
    rwa [show [1, 4, 5, 9, 10, 12, 14, 15].contains k = true from by rcases hk with rfl | rfl | rfl | rfl <;> decide] at h
  have HI1 : Hid (∀ (W : World) (g : Nat), W.heap.size = g → Calls Tryz.prog 129 #[.int .i64 k, .slice (some ⟨g, 0, none⟩) 3 3] (W.alloc (.cells #[.int .i64 9, .int .i64 10, .int .i64 16] 3)) fun e w' => e = .returned (.bool false) ∧ W.alloc (.cells #[.int .i64 9, .int .i64 10, .int .i64 16] 3) = w') := Lib.hid fun W g hg => by
    subst hg
    have h := r4_in k [9, 10, 16] W.heap.size 3 (W.alloc (.cells #[.int .i64 9, .int .i64 10, .int .i64 16] 3)) rfl (by decide) (fun j hj => by
      have hb := Blk.new W 3 #[.int .i64 9, .int .i64 10, .int .i64 16]
      have hc := hb.cell j
      rw [hc]
      have hj : j < 3 := hj
      rcases (by omega : j = 0 ∨ j = 1 ∨ j = 2) with rfl | rfl | rfl <;> rfl)
    rwa [show [9, 10, 16].contains k = false from by rcases hk with rfl | rfl | rfl | rfl <;> decide] at h
  have HI2 : Hid (∀ (W : World) (g : Nat), W.heap.size = g → Calls Tryz.prog 129 #[.int .i64 k, .slice (some ⟨g, 0, none⟩) 3 3] (W.alloc (.cells #[.int .i64 9, .int .i64 10, .int .i64 14] 3)) fun e w' => e = .returned (.bool false) ∧ W.alloc (.cells #[.int .i64 9, .int .i64 10, .int .i64 14] 3) = w') := Lib.hid fun W g hg => by
    subst hg
    have h := r4_in k [9, 10, 14] W.heap.size 3 (W.alloc (.cells #[.int .i64 9, .int .i64 10, .int .i64 14] 3)) rfl (by decide) (fun j hj => by
      have hb := Blk.new W 3 #[.int .i64 9, .int .i64 10, .int .i64 14]
      have hc := hb.cell j
      rw [hc]
      have hj : j < 3 := hj
      rcases (by omega : j = 0 ∨ j = 1 ∨ j = 2) with rfl | rfl | rfl <;> rfl)
    rwa [show [9, 10, 14].contains k = false from by rcases hk with rfl | rfl | rfl | rfl <;> decide] at h
  have HI3 : Hid (∀ (W : World) (g : Nat), W.heap.size = g → Calls Tryz.prog 129 #[.int .i64 k, .slice (some ⟨g, 0, none⟩) 2 2] (W.alloc (.cells #[.int .i64 10, .int .i64 11] 3)) fun e w' => e = .returned (.bool false) ∧ W.alloc (.cells #[.int .i64 10, .int .i64 11] 3) = w') := Lib.hid fun W g hg => by
    subst hg
    have h := r4_in k [10, 11] W.heap.size 2 (W.alloc (.cells #[.int .i64 10, .int .i64 11] 3)) rfl (by decide) (fun j hj => by
      have hb := Blk.new W 3 #[.int .i64 10, .int .i64 11]
      have hc := hb.cell j
      rw [hc]
      have hj : j < 2 := hj
      rcases (by omega : j = 0 ∨ j = 1) with rfl | rfl <;> rfl)
    rwa [show [10, 11].contains k = false from by rcases hk with rfl | rfl | rfl | rfl <;> decide] at h
  have HI4 : Hid (∀ (W : World) (g : Nat), W.heap.size = g → Calls Tryz.prog 129 #[.int .i64 k, .slice (some ⟨g, 0, none⟩) 6 6] (W.alloc (.cells #[.int .i64 6, .int .i64 7, .int .i64 8, .int .i64 9, .int .i64 10, .int .i64 11] 3)) fun e w' => e = .returned (.bool false) ∧ W.alloc (.cells #[.int .i64 6, .int .i64 7, .int .i64 8, .int .i64 9, .int .i64 10, .int .i64 11] 3) = w') := Lib.hid fun W g hg => by
    subst hg
    have h := r4_in k [6, 7, 8, 9, 10, 11] W.heap.size 6 (W.alloc (.cells #[.int .i64 6, .int .i64 7, .int .i64 8, .int .i64 9, .int .i64 10, .int .i64 11] 3)) rfl (by decide) (fun j hj => by
      have hb := Blk.new W 3 #[.int .i64 6, .int .i64 7, .int .i64 8, .int .i64 9, .int .i64 10, .int .i64 11]
      have hc := hb.cell j
      rw [hc]
      have hj : j < 6 := hj
      rcases (by omega : j = 0 ∨ j = 1 ∨ j = 2 ∨ j = 3 ∨ j = 4 ∨ j = 5) with rfl | rfl | rfl | rfl | rfl | rfl <;> rfl)
    rwa [show [6, 7, 8, 9, 10, 11].contains k = false from by rcases hk with rfl | rfl | rfl | rfl <;> decide] at h
  have z15 : ((k : Int) == 15) = false := beq_eq_false_iff_ne.2 (by omega)
  have z13 : ((k : Int) == 13) = false := beq_eq_false_iff_ne.2 (by omega)
  have hk1 : 1 ≤ k := by omega
  have hk16 : k ≤ 16 := by omega
  clear hk
  have HBX : Hid (∀ (o1 o2 o3 o4 o5 : Obj) (W : World), Below ((((((w.alloc (.cells #[.int .i64 (k : Nat), .string t, .string ⟨#[]⟩, .string ⟨#[]⟩, .string ⟨#[]⟩, .slice none 0 0, .slice none 0 0, (.slice A1 0 c1), (.slice A2 0 c2), .slice none 0 0] 34)).alloc o1).alloc o2).alloc o3).alloc o4).alloc o5).heap.size ((((((w.alloc (.cells #[.int .i64 (k : Nat), .string t, .string ⟨#[]⟩, .string ⟨#[]⟩, .string ⟨#[]⟩, .slice none 0 0, .slice none 0 0, (.slice A1 0 c1), (.slice A2 0 c2), .slice none 0 0] 34)).alloc o1).alloc o2).alloc o3).alloc o4).alloc o5) W → Blk W w.heap.size 34 #[.int .i64 (k : Nat), .string t, .string ⟨#[]⟩, .string ⟨#[]⟩, .string ⟨#[]⟩, .slice none 0 0, .slice none 0 0, (.slice A1 0 c1), (.slice A2 0 c2), .slice none 0 0] ∧ Below w.heap.size w W) := Lib.hid fun o1 o2 o3 o4 o5 W hb => by
    have h1 := (((((Blk.new w 34 #[.int .i64 (k : Nat), .string t, .string ⟨#[]⟩, .string ⟨#[]⟩, .string ⟨#[]⟩, .slice none 0 0, .slice none 0 0, (.slice A1 0 c1), (.slice A2 0 c2), .slice none 0 0]).alloc o1).alloc o2).alloc o3).alloc o4).alloc o5
    have h2 : Below w.heap.size w ((((((w.alloc (.cells #[.int .i64 (k : Nat), .string t, .string ⟨#[]⟩, .string ⟨#[]⟩, .string ⟨#[]⟩, .slice none 0 0, .slice none 0 0, (.slice A1 0 c1), (.slice A2 0 c2), .slice none 0 0] 34)).alloc o1).alloc o2).alloc o3).alloc o4).alloc o5) := ((((((Below.refl _ w).alloc (Nat.le_refl _) _).alloc (by simp) _).alloc (by simp; omega) _).alloc (by simp; omega) _).alloc (by simp; omega) _).alloc (by simp; omega) _
    exact ⟨h1.below hb h1.lt, h2.trans (hb.mono h2.size)⟩
  go_enter Tryz.func93, Tryz.ntmps93
  go_wp2_with fail
  refine (HI0.out _ _ (by simp)).mono ?_
  rintro e w1 ⟨rfl, rfl⟩
  go_wp2_with fail
  refine (HI1.out _ _ (by simp)).mono ?_
  rintro e w1 ⟨rfl, rfl⟩
  go_wp2_with fail
  refine (HI2.out _ _ (by simp)).mono ?_
  rintro e w1 ⟨rfl, rfl⟩
  go_wp2_with fail
  refine (HI3.out _ _ (by simp)).mono ?_
  rintro e w1 ⟨rfl, rfl⟩
  go_wp2_with fail
  refine (HI4.out _ _ (by simp)).mono ?_
  rintro e w1 ⟨rfl, rfl⟩
  go_wp2_with fail
  ((with_reducible refine (HA.out _).mono ?_))
  rintro e w2 ⟨rfl, b2⟩
  obtain ⟨g1, g2⟩ := HBX.out _ _ _ _ _ _ b2
  have HB2 := Lib.hid g2
  obtain ⟨a0, a1, a2, a3, a4, a5, a6, a7, a8, a9, -⟩ := in_facts g1
  clear b2 g1 g2 HBX
  go_wp2_with fail
  go_ret
  exact ⟨rfl, HB2.out⟩

set_option maxRecDepth 100000 in
set_option maxHeartbeats 4000000 in
theorem r4_fieldsB (ti : ByteArray) (t : ByteArray) (A1 : Option Addr) (c1 : Nat) (A2 : Option Addr) (c2 : Nat) (w : World) : Calls Tryz.prog 93 #[.agg #[.int .i64 14, .string t, .string ⟨#[]⟩, .string ti, .string ⟨#[]⟩, .slice none 0 0, .slice none 0 0, (.slice A1 0 c1), (.slice A2 0 c2), .slice none 0 0]] w fun e w' => e = .returned (.bool true) ∧ Below w.heap.size w w' := by
  have HA := Lib.hid r4_noAttr
  have q0 : ((⟨#[]⟩ : ByteArray).toList == ([] : List UInt8)) = true := by rw [str_nil (x := ⟨#[]⟩) rfl]; rfl
  have HI0 : Hid (∀ (W : World) (g : Nat), W.heap.size = g → Calls Tryz.prog 129 #[.int .i64 14, .slice (some ⟨g, 0, none⟩) 8 8] (W.alloc (.cells #[.int .i64 1, .int .i64 4, .int .i64 5, .int .i64 9, .int .i64 10, .int .i64 12, .int .i64 14, .int .i64 15] 3)) fun e w' => e = .returned (.bool true) ∧ W.alloc (.cells #[.int .i64 1, .int .i64 4, .int .i64 5, .int .i64 9, .int .i64 10, .int .i64 12, .int .i64 14, .int .i64 15] 3) = w') := Lib.hid fun W g hg => by
    subst hg
    have h := r4_in 14 [1, 4, 5, 9, 10, 12, 14, 15] W.heap.size 8 (W.alloc (.cells #[.int .i64 1, .int .i64 4, .int .i64 5, .int .i64 9, .int .i64 10, .int .i64 12, .int .i64 14, .int .i64 15] 3)) rfl (by decide) (fun j hj => by
      have hb := Blk.new W 3 #[.int .i64 1, .int .i64 4, .int .i64 5, .int .i64 9, .int .i64 10, .int .i64 12, .int .i64 14, .int .i64 15]
      have hc := hb.cell j
      rw [hc]
      have hj : j < 8 := hj
      rcases (by omega : j = 0 ∨ j = 1 ∨ j = 2 ∨ j = 3 ∨ j = 4 ∨ j = 5 ∨ j = 6 ∨ j = 7) with rfl | rfl | rfl | rfl | rfl | rfl | rfl | rfl <;> rfl)
    rwa [show [1, 4, 5, 9, 10, 12, 14, 15].contains 14 = true from by decide] at h
  have HI1 : Hid (∀ (W : World) (g : Nat), W.heap.size = g → Calls Tryz.prog 129 #[.int .i64 14, .slice (some ⟨g, 0, none⟩) 3 3] (W.alloc (.cells #[.int .i64 9, .int .i64 10, .int .i64 16] 3)) fun e w' => e = .returned (.bool false) ∧ W.alloc (.cells #[.int .i64 9, .int .i64 10, .int .i64 16] 3) = w') := Lib.hid fun W g hg => by
    subst hg
    have h := r4_in 14 [9, 10, 16] W.heap.size 3 (W.alloc (.cells #[.int .i64 9, .int .i64 10, .int .i64 16] 3)) rfl (by decide) (fun j hj => by
      have hb := Blk.new W 3 #[.int .i64 9, .int .i64 10, .int .i64 16]
      have hc := hb.cell j
      rw [hc]
      have hj : j < 3 := hj
      rcases (by omega : j = 0 ∨ j = 1 ∨ j = 2) with rfl | rfl | rfl <;> rfl)
    rwa [show [9, 10, 16].contains 14 = false from by decide] at h
  have HI2 : Hid (∀ (W : World) (g : Nat), W.heap.size = g → Calls Tryz.prog 129 #[.int .i64 14, .slice (some ⟨g, 0, none⟩) 3 3] (W.alloc (.cells #[.int .i64 9, .int .i64 10, .int .i64 14] 3)) fun e w' => e = .returned (.bool true) ∧ W.alloc (.cells #[.int .i64 9, .int .i64 10, .int .i64 14] 3) = w') := Lib.hid fun W g hg => by
    subst hg
    have h := r4_in 14 [9, 10, 14] W.heap.size 3 (W.alloc (.cells #[.int .i64 9, .int .i64 10, .int .i64 14] 3)) rfl (by decide) (fun j hj => by
      have hb := Blk.new W 3 #[.int .i64 9, .int .i64 10, .int .i64 14]
      have hc := hb.cell j
      rw [hc]
      have hj : j < 3 := hj
      rcases (by omega : j = 0 ∨ j = 1 ∨ j = 2) with rfl | rfl | rfl <;> rfl)
    rwa [show [9, 10, 14].contains 14 = true from by decide] at h
  have HI3 : Hid (∀ (W : World) (g : Nat), W.heap.size = g → Calls Tryz.prog 129 #[.int .i64 14, .slice (some ⟨g, 0, none⟩) 2 2] (W.alloc (.cells #[.int .i64 10, .int .i64 11] 3)) fun e w' => e = .returned (.bool false) ∧ W.alloc (.cells #[.int .i64 10, .int .i64 11] 3) = w') := Lib.hid fun W g hg => by
    subst hg
    have h := r4_in 14 [10, 11] W.heap.size 2 (W.alloc (.cells #[.int .i64 10, .int .i64 11] 3)) rfl (by decide) (fun j hj => by
      have hb := Blk.new W 3 #[.int .i64 10, .int .i64 11]
      have hc := hb.cell j
      rw [hc]
      have hj : j < 2 := hj
      rcases (by omega : j = 0 ∨ j = 1) with rfl | rfl <;> rfl)
    rwa [show [10, 11].contains 14 = false from by decide] at h
  have HI4 : Hid (∀ (W : World) (g : Nat), W.heap.size = g → Calls Tryz.prog 129 #[.int .i64 14, .slice (some ⟨g, 0, none⟩) 6 6] (W.alloc (.cells #[.int .i64 6, .int .i64 7, .int .i64 8, .int .i64 9, .int .i64 10, .int .i64 11] 3)) fun e w' => e = .returned (.bool false) ∧ W.alloc (.cells #[.int .i64 6, .int .i64 7, .int .i64 8, .int .i64 9, .int .i64 10, .int .i64 11] 3) = w') := Lib.hid fun W g hg => by
    subst hg
    have h := r4_in 14 [6, 7, 8, 9, 10, 11] W.heap.size 6 (W.alloc (.cells #[.int .i64 6, .int .i64 7, .int .i64 8, .int .i64 9, .int .i64 10, .int .i64 11] 3)) rfl (by decide) (fun j hj => by
      have hb := Blk.new W 3 #[.int .i64 6, .int .i64 7, .int .i64 8, .int .i64 9, .int .i64 10, .int .i64 11]
      have hc := hb.cell j
      rw [hc]
      have hj : j < 6 := hj
      rcases (by omega : j = 0 ∨ j = 1 ∨ j = 2 ∨ j = 3 ∨ j = 4 ∨ j = 5) with rfl | rfl | rfl | rfl | rfl | rfl <;> rfl)
    rwa [show [6, 7, 8, 9, 10, 11].contains 14 = false from by decide] at h
  have HBX : Hid (∀ (o1 o2 o3 o4 o5 : Obj) (W : World), Below ((((((w.alloc (.cells #[.int .i64 14, .string t, .string ⟨#[]⟩, .string ti, .string ⟨#[]⟩, .slice none 0 0, .slice none 0 0, (.slice A1 0 c1), (.slice A2 0 c2), .slice none 0 0] 34)).alloc o1).alloc o2).alloc o3).alloc o4).alloc o5).heap.size ((((((w.alloc (.cells #[.int .i64 14, .string t, .string ⟨#[]⟩, .string ti, .string ⟨#[]⟩, .slice none 0 0, .slice none 0 0, (.slice A1 0 c1), (.slice A2 0 c2), .slice none 0 0] 34)).alloc o1).alloc o2).alloc o3).alloc o4).alloc o5) W → Blk W w.heap.size 34 #[.int .i64 14, .string t, .string ⟨#[]⟩, .string ti, .string ⟨#[]⟩, .slice none 0 0, .slice none 0 0, (.slice A1 0 c1), (.slice A2 0 c2), .slice none 0 0] ∧ Below w.heap.size w W) := Lib.hid fun o1 o2 o3 o4 o5 W hb => by
    have h1 := (((((Blk.new w 34 #[.int .i64 14, .string t, .string ⟨#[]⟩, .string ti, .string ⟨#[]⟩, .slice none 0 0, .slice none 0 0, (.slice A1 0 c1), (.slice A2 0 c2), .slice none 0 0]).alloc o1).alloc o2).alloc o3).alloc o4).alloc o5
    have h2 : Below w.heap.size w ((((((w.alloc (.cells #[.int .i64 14, .string t, .string ⟨#[]⟩, .string ti, .string ⟨#[]⟩, .slice none 0 0, .slice none 0 0, (.slice A1 0 c1), (.slice A2 0 c2), .slice none 0 0] 34)).alloc o1).alloc o2).alloc o3).alloc o4).alloc o5) := ((((((Below.refl _ w).alloc (Nat.le_refl _) _).alloc (by simp) _).alloc (by simp; omega) _).alloc (by simp; omega) _).alloc (by simp; omega) _).alloc (by simp; omega) _
    exact ⟨h1.below hb h1.lt, h2.trans (hb.mono h2.size)⟩
  go_enter Tryz.func93, Tryz.ntmps93
  go_wp2_with fail
  refine (HI0.out _ _ (by simp)).mono ?_
  rintro e w1 ⟨rfl, rfl⟩
  go_wp2_with fail
  refine (HI1.out _ _ (by simp)).mono ?_
  rintro e w1 ⟨rfl, rfl⟩
  go_wp2_with fail
  refine (HI2.out _ _ (by simp)).mono ?_
  rintro e w1 ⟨rfl, rfl⟩
  go_wp2_with fail
  refine (HI3.out _ _ (by simp)).mono ?_
  rintro e w1 ⟨rfl, rfl⟩
  go_wp2_with fail
  refine (HI4.out _ _ (by simp)).mono ?_
  rintro e w1 ⟨rfl, rfl⟩
  go_wp2_with fail
  ((with_reducible refine (HA.out _).mono ?_))
  rintro e w2 ⟨rfl, b2⟩
  obtain ⟨g1, g2⟩ := HBX.out _ _ _ _ _ _ b2
  have HB2 := Lib.hid g2
  obtain ⟨a0, a1, a2, a3, a4, a5, a6, a7, a8, a9, -⟩ := in_facts g1
  clear b2 g1 g2 HBX
  go_wp2_with fail
  go_ret
  exact ⟨rfl, HB2.out⟩

set_option maxRecDepth 100000 in
set_option maxHeartbeats 4000000 in
theorem r4_fieldsC (n : Nat) (t : ByteArray) (A1 : Option Addr) (c1 : Nat) (A2 : Option Addr) (c2 : Nat) (w : World) : Calls Tryz.prog 93 #[.agg #[.int .i64 15, .string t, .string ⟨#[]⟩, .string ⟨#[]⟩, .string ⟨#[]⟩, .slice none 0 0, .slice none 0 0, (.slice A1 n c1), (.slice A2 0 c2), .slice none 0 0]] w fun e w' => e = .returned (.bool true) ∧ Below w.heap.size w w' := by
  have HA := Lib.hid r4_noAttr
  have q0 : ((⟨#[]⟩ : ByteArray).toList == ([] : List UInt8)) = true := by rw [str_nil (x := ⟨#[]⟩) rfl]; rfl
  have HI0 : Hid (∀ (W : World) (g : Nat), W.heap.size = g → Calls Tryz.prog 129 #[.int .i64 15, .slice (some ⟨g, 0, none⟩) 8 8] (W.alloc (.cells #[.int .i64 1, .int .i64 4, .int .i64 5, .int .i64 9, .int .i64 10, .int .i64 12, .int .i64 14, .int .i64 15] 3)) fun e w' => e = .returned (.bool true) ∧ W.alloc (.cells #[.int .i64 1, .int .i64 4, .int .i64 5, .int .i64 9, .int .i64 10, .int .i64 12, .int .i64 14, .int .i64 15] 3) = w') := Lib.hid fun W g hg => by
    subst hg
    have h := r4_in 15 [1, 4, 5, 9, 10, 12, 14, 15] W.heap.size 8 (W.alloc (.cells #[.int .i64 1, .int .i64 4, .int .i64 5, .int .i64 9, .int .i64 10, .int .i64 12, .int .i64 14, .int .i64 15] 3)) rfl (by decide) (fun j hj => by
      have hb := Blk.new W 3 #[.int .i64 1, .int .i64 4, .int .i64 5, .int .i64 9, .int .i64 10, .int .i64 12, .int .i64 14, .int .i64 15]
      have hc := hb.cell j
      rw [hc]
      have hj : j < 8 := hj
      rcases (by omega : j = 0 ∨ j = 1 ∨ j = 2 ∨ j = 3 ∨ j = 4 ∨ j = 5 ∨ j = 6 ∨ j = 7) with rfl | rfl | rfl | rfl | rfl | rfl | rfl | rfl <;> rfl)
    rwa [show [1, 4, 5, 9, 10, 12, 14, 15].contains 15 = true from by decide] at h
  have HI1 : Hid (∀ (W : World) (g : Nat), W.heap.size = g → Calls Tryz.prog 129 #[.int .i64 15, .slice (some ⟨g, 0, none⟩) 3 3] (W.alloc (.cells #[.int .i64 9, .int .i64 10, .int .i64 16] 3)) fun e w' => e = .returned (.bool false) ∧ W.alloc (.cells #[.int .i64 9, .int .i64 10, .int .i64 16] 3) = w') := Lib.hid fun W g hg => by
    subst hg
    have h := r4_in 15 [9, 10, 16] W.heap.size 3 (W.alloc (.cells #[.int .i64 9, .int .i64 10, .int .i64 16] 3)) rfl (by decide) (fun j hj => by
      have hb := Blk.new W 3 #[.int .i64 9, .int .i64 10, .int .i64 16]
      have hc := hb.cell j
      rw [hc]
      have hj : j < 3 := hj
      rcases (by omega : j = 0 ∨ j = 1 ∨ j = 2) with rfl | rfl | rfl <;> rfl)
    rwa [show [9, 10, 16].contains 15 = false from by decide] at h
  have HI2 : Hid (∀ (W : World) (g : Nat), W.heap.size = g → Calls Tryz.prog 129 #[.int .i64 15, .slice (some ⟨g, 0, none⟩) 3 3] (W.alloc (.cells #[.int .i64 9, .int .i64 10, .int .i64 14] 3)) fun e w' => e = .returned (.bool false) ∧ W.alloc (.cells #[.int .i64 9, .int .i64 10, .int .i64 14] 3) = w') := Lib.hid fun W g hg => by
    subst hg
    have h := r4_in 15 [9, 10, 14] W.heap.size 3 (W.alloc (.cells #[.int .i64 9, .int .i64 10, .int .i64 14] 3)) rfl (by decide) (fun j hj => by
      have hb := Blk.new W 3 #[.int .i64 9, .int .i64 10, .int .i64 14]
      have hc := hb.cell j
      rw [hc]
      have hj : j < 3 := hj
      rcases (by omega : j = 0 ∨ j = 1 ∨ j = 2) with rfl | rfl | rfl <;> rfl)
    rwa [show [9, 10, 14].contains 15 = false from by decide] at h
  have HI3 : Hid (∀ (W : World) (g : Nat), W.heap.size = g → Calls Tryz.prog 129 #[.int .i64 15, .slice (some ⟨g, 0, none⟩) 2 2] (W.alloc (.cells #[.int .i64 10, .int .i64 11] 3)) fun e w' => e = .returned (.bool false) ∧ W.alloc (.cells #[.int .i64 10, .int .i64 11] 3) = w') := Lib.hid fun W g hg => by
    subst hg
    have h := r4_in 15 [10, 11] W.heap.size 2 (W.alloc (.cells #[.int .i64 10, .int .i64 11] 3)) rfl (by decide) (fun j hj => by
      have hb := Blk.new W 3 #[.int .i64 10, .int .i64 11]
      have hc := hb.cell j
      rw [hc]
      have hj : j < 2 := hj
      rcases (by omega : j = 0 ∨ j = 1) with rfl | rfl <;> rfl)
    rwa [show [10, 11].contains 15 = false from by decide] at h
  have HI4 : Hid (∀ (W : World) (g : Nat), W.heap.size = g → Calls Tryz.prog 129 #[.int .i64 15, .slice (some ⟨g, 0, none⟩) 6 6] (W.alloc (.cells #[.int .i64 6, .int .i64 7, .int .i64 8, .int .i64 9, .int .i64 10, .int .i64 11] 3)) fun e w' => e = .returned (.bool false) ∧ W.alloc (.cells #[.int .i64 6, .int .i64 7, .int .i64 8, .int .i64 9, .int .i64 10, .int .i64 11] 3) = w') := Lib.hid fun W g hg => by
    subst hg
    have h := r4_in 15 [6, 7, 8, 9, 10, 11] W.heap.size 6 (W.alloc (.cells #[.int .i64 6, .int .i64 7, .int .i64 8, .int .i64 9, .int .i64 10, .int .i64 11] 3)) rfl (by decide) (fun j hj => by
      have hb := Blk.new W 3 #[.int .i64 6, .int .i64 7, .int .i64 8, .int .i64 9, .int .i64 10, .int .i64 11]
      have hc := hb.cell j
      rw [hc]
      have hj : j < 6 := hj
      rcases (by omega : j = 0 ∨ j = 1 ∨ j = 2 ∨ j = 3 ∨ j = 4 ∨ j = 5) with rfl | rfl | rfl | rfl | rfl | rfl <;> rfl)
    rwa [show [6, 7, 8, 9, 10, 11].contains 15 = false from by decide] at h
  have HBX : Hid (∀ (o1 o2 o3 o4 o5 : Obj) (W : World), Below ((((((w.alloc (.cells #[.int .i64 15, .string t, .string ⟨#[]⟩, .string ⟨#[]⟩, .string ⟨#[]⟩, .slice none 0 0, .slice none 0 0, (.slice A1 n c1), (.slice A2 0 c2), .slice none 0 0] 34)).alloc o1).alloc o2).alloc o3).alloc o4).alloc o5).heap.size ((((((w.alloc (.cells #[.int .i64 15, .string t, .string ⟨#[]⟩, .string ⟨#[]⟩, .string ⟨#[]⟩, .slice none 0 0, .slice none 0 0, (.slice A1 n c1), (.slice A2 0 c2), .slice none 0 0] 34)).alloc o1).alloc o2).alloc o3).alloc o4).alloc o5) W → Blk W w.heap.size 34 #[.int .i64 15, .string t, .string ⟨#[]⟩, .string ⟨#[]⟩, .string ⟨#[]⟩, .slice none 0 0, .slice none 0 0, (.slice A1 n c1), (.slice A2 0 c2), .slice none 0 0] ∧ Below w.heap.size w W) := Lib.hid fun o1 o2 o3 o4 o5 W hb => by
    have h1 := (((((Blk.new w 34 #[.int .i64 15, .string t, .string ⟨#[]⟩, .string ⟨#[]⟩, .string ⟨#[]⟩, .slice none 0 0, .slice none 0 0, (.slice A1 n c1), (.slice A2 0 c2), .slice none 0 0]).alloc o1).alloc o2).alloc o3).alloc o4).alloc o5
    have h2 : Below w.heap.size w ((((((w.alloc (.cells #[.int .i64 15, .string t, .string ⟨#[]⟩, .string ⟨#[]⟩, .string ⟨#[]⟩, .slice none 0 0, .slice none 0 0, (.slice A1 n c1), (.slice A2 0 c2), .slice none 0 0] 34)).alloc o1).alloc o2).alloc o3).alloc o4).alloc o5) := ((((((Below.refl _ w).alloc (Nat.le_refl _) _).alloc (by simp) _).alloc (by simp; omega) _).alloc (by simp; omega) _).alloc (by simp; omega) _).alloc (by simp; omega) _
    exact ⟨h1.below hb h1.lt, h2.trans (hb.mono h2.size)⟩
  go_enter Tryz.func93, Tryz.ntmps93
  go_wp2_with fail
  refine (HI0.out _ _ (by simp)).mono ?_
  rintro e w1 ⟨rfl, rfl⟩
  go_wp2_with fail
  refine (HI1.out _ _ (by simp)).mono ?_
  rintro e w1 ⟨rfl, rfl⟩
  go_wp2_with fail
  refine (HI2.out _ _ (by simp)).mono ?_
  rintro e w1 ⟨rfl, rfl⟩
  go_wp2_with fail
  refine (HI3.out _ _ (by simp)).mono ?_
  rintro e w1 ⟨rfl, rfl⟩
  go_wp2_with fail
  refine (HI4.out _ _ (by simp)).mono ?_
  rintro e w1 ⟨rfl, rfl⟩
  go_wp2_with fail
  ((with_reducible refine (HA.out _).mono ?_))
  rintro e w2 ⟨rfl, b2⟩
  obtain ⟨g1, g2⟩ := HBX.out _ _ _ _ _ _ b2
  have HB2 := Lib.hid g2
  obtain ⟨a0, a1, a2, a3, a4, a5, a6, a7, a8, a9, -⟩ := in_facts g1
  clear b2 g1 g2 HBX
  go_wp2_with fail
  go_ret
  exact ⟨rfl, HB2.out⟩

set_option maxRecDepth 100000 in
set_option maxHeartbeats 4000000 in
theorem r4_fieldsD (n : Nat) (t : ByteArray) (A1 : Option Addr) (c1 : Nat) (A2 : Option Addr) (c2 : Nat) (w : World) : Calls Tryz.prog 93 #[.agg #[.int .i64 13, .string ⟨#[]⟩, .string ⟨#[]⟩, .string ⟨#[]⟩, .string ⟨#[]⟩, .slice none 0 0, .slice none 0 0, (.slice A1 0 c1), (.slice A2 n c2), .slice none 0 0]] w fun e w' => e = .returned (.bool true) ∧ Below w.heap.size w w' := by
  have HA := Lib.hid r4_noAttr
  have q0 : ((⟨#[]⟩ : ByteArray).toList == ([] : List UInt8)) = true := by rw [str_nil (x := ⟨#[]⟩) rfl]; rfl
  have HI0 : Hid (∀ (W : World) (g : Nat), W.heap.size = g → Calls Tryz.prog 129 #[.int .i64 13, .slice (some ⟨g, 0, none⟩) 8 8] (W.alloc (.cells #[.int .i64 1, .int .i64 4, .int .i64 5, .int .i64 9, .int .i64 10, .int .i64 12, .int .i64 14, .int .i64 15] 3)) fun e w' => e = .returned (.bool false) ∧ W.alloc (.cells #[.int .i64 1, .int .i64 4, .int .i64 5, .int .i64 9, .int .i64 10, .int .i64 12, .int .i64 14, .int .i64 15] 3) = w') := Lib.hid fun W g hg => by
    subst hg
    have h := r4_in 13 [1, 4, 5, 9, 10, 12, 14, 15] W.heap.size 8 (W.alloc (.cells #[.int .i64 1, .int .i64 4, .int .i64 5, .int .i64 9, .int .i64 10, .int .i64 12, .int .i64 14, .int .i64 15] 3)) rfl (by decide) (fun j hj => by
      have hb := Blk.new W 3 #[.int .i64 1, .int .i64 4, .int .i64 5, .int .i64 9, .int .i64 10, .int .i64 12, .int .i64 14, .int .i64 15]
      have hc := hb.cell j
      rw [hc]
      have hj : j < 8 := hj
      rcases (by omega : j = 0 ∨ j = 1 ∨ j = 2 ∨ j = 3 ∨ j = 4 ∨ j = 5 ∨ j = 6 ∨ j = 7) with rfl | rfl | rfl | rfl | rfl | rfl | rfl | rfl <;> rfl)
    rwa [show [1, 4, 5, 9, 10, 12, 14, 15].contains 13 = false from by decide] at h
  have HI1 : Hid (∀ (W : World) (g : Nat), W.heap.size = g → Calls Tryz.prog 129 #[.int .i64 13, .slice (some ⟨g, 0, none⟩) 3 3] (W.alloc (.cells #[.int .i64 9, .int .i64 10, .int .i64 16] 3)) fun e w' => e = .returned (.bool false) ∧ W.alloc (.cells #[.int .i64 9, .int .i64 10, .int .i64 16] 3) = w') := Lib.hid fun W g hg => by
    subst hg
    have h := r4_in 13 [9, 10, 16] W.heap.size 3 (W.alloc (.cells #[.int .i64 9, .int .i64 10, .int .i64 16] 3)) rfl (by decide) (fun j hj => by
      have hb := Blk.new W 3 #[.int .i64 9, .int .i64 10, .int .i64 16]
      have hc := hb.cell j
      rw [hc]
      have hj : j < 3 := hj
      rcases (by omega : j = 0 ∨ j = 1 ∨ j = 2) with rfl | rfl | rfl <;> rfl)
    rwa [show [9, 10, 16].contains 13 = false from by decide] at h
  have HI2 : Hid (∀ (W : World) (g : Nat), W.heap.size = g → Calls Tryz.prog 129 #[.int .i64 13, .slice (some ⟨g, 0, none⟩) 3 3] (W.alloc (.cells #[.int .i64 9, .int .i64 10, .int .i64 14] 3)) fun e w' => e = .returned (.bool false) ∧ W.alloc (.cells #[.int .i64 9, .int .i64 10, .int .i64 14] 3) = w') := Lib.hid fun W g hg => by
    subst hg
    have h := r4_in 13 [9, 10, 14] W.heap.size 3 (W.alloc (.cells #[.int .i64 9, .int .i64 10, .int .i64 14] 3)) rfl (by decide) (fun j hj => by
      have hb := Blk.new W 3 #[.int .i64 9, .int .i64 10, .int .i64 14]
      have hc := hb.cell j
      rw [hc]
      have hj : j < 3 := hj
      rcases (by omega : j = 0 ∨ j = 1 ∨ j = 2) with rfl | rfl | rfl <;> rfl)
    rwa [show [9, 10, 14].contains 13 = false from by decide] at h
  have HI3 : Hid (∀ (W : World) (g : Nat), W.heap.size = g → Calls Tryz.prog 129 #[.int .i64 13, .slice (some ⟨g, 0, none⟩) 2 2] (W.alloc (.cells #[.int .i64 10, .int .i64 11] 3)) fun e w' => e = .returned (.bool false) ∧ W.alloc (.cells #[.int .i64 10, .int .i64 11] 3) = w') := Lib.hid fun W g hg => by
    subst hg
    have h := r4_in 13 [10, 11] W.heap.size 2 (W.alloc (.cells #[.int .i64 10, .int .i64 11] 3)) rfl (by decide) (fun j hj => by
      have hb := Blk.new W 3 #[.int .i64 10, .int .i64 11]
      have hc := hb.cell j
      rw [hc]
      have hj : j < 2 := hj
      rcases (by omega : j = 0 ∨ j = 1) with rfl | rfl <;> rfl)
    rwa [show [10, 11].contains 13 = false from by decide] at h
  have HI4 : Hid (∀ (W : World) (g : Nat), W.heap.size = g → Calls Tryz.prog 129 #[.int .i64 13, .slice (some ⟨g, 0, none⟩) 6 6] (W.alloc (.cells #[.int .i64 6, .int .i64 7, .int .i64 8, .int .i64 9, .int .i64 10, .int .i64 11] 3)) fun e w' => e = .returned (.bool false) ∧ W.alloc (.cells #[.int .i64 6, .int .i64 7, .int .i64 8, .int .i64 9, .int .i64 10, .int .i64 11] 3) = w') := Lib.hid fun W g hg => by
    subst hg
    have h := r4_in 13 [6, 7, 8, 9, 10, 11] W.heap.size 6 (W.alloc (.cells #[.int .i64 6, .int .i64 7, .int .i64 8, .int .i64 9, .int .i64 10, .int .i64 11] 3)) rfl (by decide) (fun j hj => by
      have hb := Blk.new W 3 #[.int .i64 6, .int .i64 7, .int .i64 8, .int .i64 9, .int .i64 10, .int .i64 11]
      have hc := hb.cell j
      rw [hc]
      have hj : j < 6 := hj
      rcases (by omega : j = 0 ∨ j = 1 ∨ j = 2 ∨ j = 3 ∨ j = 4 ∨ j = 5) with rfl | rfl | rfl | rfl | rfl | rfl <;> rfl)
    rwa [show [6, 7, 8, 9, 10, 11].contains 13 = false from by decide] at h
  have HBX : Hid (∀ (o1 o2 o3 o4 o5 : Obj) (W : World), Below ((((((w.alloc (.cells #[.int .i64 13, .string ⟨#[]⟩, .string ⟨#[]⟩, .string ⟨#[]⟩, .string ⟨#[]⟩, .slice none 0 0, .slice none 0 0, (.slice A1 0 c1), (.slice A2 n c2), .slice none 0 0] 34)).alloc o1).alloc o2).alloc o3).alloc o4).alloc o5).heap.size ((((((w.alloc (.cells #[.int .i64 13, .string ⟨#[]⟩, .string ⟨#[]⟩, .string ⟨#[]⟩, .string ⟨#[]⟩, .slice none 0 0, .slice none 0 0, (.slice A1 0 c1), (.slice A2 n c2), .slice none 0 0] 34)).alloc o1).alloc o2).alloc o3).alloc o4).alloc o5) W → Blk W w.heap.size 34 #[.int .i64 13, .string ⟨#[]⟩, .string ⟨#[]⟩, .string ⟨#[]⟩, .string ⟨#[]⟩, .slice none 0 0, .slice none 0 0, (.slice A1 0 c1), (.slice A2 n c2), .slice none 0 0] ∧ Below w.heap.size w W) := Lib.hid fun o1 o2 o3 o4 o5 W hb => by
    have h1 := (((((Blk.new w 34 #[.int .i64 13, .string ⟨#[]⟩, .string ⟨#[]⟩, .string ⟨#[]⟩, .string ⟨#[]⟩, .slice none 0 0, .slice none 0 0, (.slice A1 0 c1), (.slice A2 n c2), .slice none 0 0]).alloc o1).alloc o2).alloc o3).alloc o4).alloc o5
    have h2 : Below w.heap.size w ((((((w.alloc (.cells #[.int .i64 13, .string ⟨#[]⟩, .string ⟨#[]⟩, .string ⟨#[]⟩, .string ⟨#[]⟩, .slice none 0 0, .slice none 0 0, (.slice A1 0 c1), (.slice A2 n c2), .slice none 0 0] 34)).alloc o1).alloc o2).alloc o3).alloc o4).alloc o5) := ((((((Below.refl _ w).alloc (Nat.le_refl _) _).alloc (by simp) _).alloc (by simp; omega) _).alloc (by simp; omega) _).alloc (by simp; omega) _).alloc (by simp; omega) _
    exact ⟨h1.below hb h1.lt, h2.trans (hb.mono h2.size)⟩
  go_enter Tryz.func93, Tryz.ntmps93
  go_wp2_with fail
  refine (HI0.out _ _ (by simp)).mono ?_
  rintro e w1 ⟨rfl, rfl⟩
  go_wp2_with fail
  refine (HI1.out _ _ (by simp)).mono ?_
  rintro e w1 ⟨rfl, rfl⟩
  go_wp2_with fail
  refine (HI2.out _ _ (by simp)).mono ?_
  rintro e w1 ⟨rfl, rfl⟩
  go_wp2_with fail
  refine (HI3.out _ _ (by simp)).mono ?_
  rintro e w1 ⟨rfl, rfl⟩
  go_wp2_with fail
  refine (HI4.out _ _ (by simp)).mono ?_
  rintro e w1 ⟨rfl, rfl⟩
  go_wp2_with fail
  ((with_reducible refine (HA.out _).mono ?_))
  rintro e w2 ⟨rfl, b2⟩
  obtain ⟨g1, g2⟩ := HBX.out _ _ _ _ _ _ b2
  have HB2 := Lib.hid g2
  obtain ⟨a0, a1, a2, a3, a4, a5, a6, a7, a8, a9, -⟩ := in_facts g1
  clear b2 g1 g2 HBX
  go_wp2_with fail
  go_ret
  exact ⟨rfl, HB2.out⟩

set_option maxRecDepth 100000 in
set_option maxHeartbeats 4000000 in
theorem r4_fieldsE (d : ByteArray) (t : ByteArray) (A1 : Option Addr) (c1 : Nat) (A2 : Option Addr) (c2 : Nat) (w : World) : Calls Tryz.prog 93 #[.agg #[.int .i64 16, .string ⟨#[]⟩, .string d, .string ⟨#[]⟩, .string ⟨#[]⟩, .slice none 0 0, .slice none 0 0, (.slice A1 0 c1), (.slice A2 0 c2), .slice none 0 0]] w fun e w' => e = .returned (.bool true) ∧ Below w.heap.size w w' := by
  have HA := Lib.hid r4_noAttr
  have q0 : ((⟨#[]⟩ : ByteArray).toList == ([] : List UInt8)) = true := by rw [str_nil (x := ⟨#[]⟩) rfl]; rfl
  have HI0 : Hid (∀ (W : World) (g : Nat), W.heap.size = g → Calls Tryz.prog 129 #[.int .i64 16, .slice (some ⟨g, 0, none⟩) 8 8] (W.alloc (.cells #[.int .i64 1, .int .i64 4, .int .i64 5, .int .i64 9, .int .i64 10, .int .i64 12, .int .i64 14, .int .i64 15] 3)) fun e w' => e = .returned (.bool false) ∧ W.alloc (.cells #[.int .i64 1, .int .i64 4, .int .i64 5, .int .i64 9, .int .i64 10, .int .i64 12, .int .i64 14, .int .i64 15] 3) = w') := Lib.hid fun W g hg => by
    subst hg
    have h := r4_in 16 [1, 4, 5, 9, 10, 12, 14, 15] W.heap.size 8 (W.alloc (.cells #[.int .i64 1, .int .i64 4, .int .i64 5, .int .i64 9, .int .i64 10, .int .i64 12, .int .i64 14, .int .i64 15] 3)) rfl (by decide) (fun j hj => by
      have hb := Blk.new W 3 #[.int .i64 1, .int .i64 4, .int .i64 5, .int .i64 9, .int .i64 10, .int .i64 12, .int .i64 14, .int .i64 15]
      have hc := hb.cell j
      rw [hc]
      have hj : j < 8 := hj
      rcases (by omega : j = 0 ∨ j = 1 ∨ j = 2 ∨ j = 3 ∨ j = 4 ∨ j = 5 ∨ j = 6 ∨ j = 7) with rfl | rfl | rfl | rfl | rfl | rfl | rfl | rfl <;> rfl)
    rwa [show [1, 4, 5, 9, 10, 12, 14, 15].contains 16 = false from by decide] at h
  have HI1 : Hid (∀ (W : World) (g : Nat), W.heap.size = g → Calls Tryz.prog 129 #[.int .i64 16, .slice (some ⟨g, 0, none⟩) 3 3] (W.alloc (.cells #[.int .i64 9, .int .i64 10, .int .i64 16] 3)) fun e w' => e = .returned (.bool true) ∧ W.alloc (.cells #[.int .i64 9, .int .i64 10, .int .i64 16] 3) = w') := Lib.hid fun W g hg => by
    subst hg
    have h := r4_in 16 [9, 10, 16] W.heap.size 3 (W.alloc (.cells #[.int .i64 9, .int .i64 10, .int .i64 16] 3)) rfl (by decide) (fun j hj => by
      have hb := Blk.new W 3 #[.int .i64 9, .int .i64 10, .int .i64 16]
      have hc := hb.cell j
      rw [hc]
      have hj : j < 3 := hj
      rcases (by omega : j = 0 ∨ j = 1 ∨ j = 2) with rfl | rfl | rfl <;> rfl)
    rwa [show [9, 10, 16].contains 16 = true from by decide] at h
  have HI2 : Hid (∀ (W : World) (g : Nat), W.heap.size = g → Calls Tryz.prog 129 #[.int .i64 16, .slice (some ⟨g, 0, none⟩) 3 3] (W.alloc (.cells #[.int .i64 9, .int .i64 10, .int .i64 14] 3)) fun e w' => e = .returned (.bool false) ∧ W.alloc (.cells #[.int .i64 9, .int .i64 10, .int .i64 14] 3) = w') := Lib.hid fun W g hg => by
    subst hg
    have h := r4_in 16 [9, 10, 14] W.heap.size 3 (W.alloc (.cells #[.int .i64 9, .int .i64 10, .int .i64 14] 3)) rfl (by decide) (fun j hj => by
      have hb := Blk.new W 3 #[.int .i64 9, .int .i64 10, .int .i64 14]
      have hc := hb.cell j
      rw [hc]
      have hj : j < 3 := hj
      rcases (by omega : j = 0 ∨ j = 1 ∨ j = 2) with rfl | rfl | rfl <;> rfl)
    rwa [show [9, 10, 14].contains 16 = false from by decide] at h
  have HI3 : Hid (∀ (W : World) (g : Nat), W.heap.size = g → Calls Tryz.prog 129 #[.int .i64 16, .slice (some ⟨g, 0, none⟩) 2 2] (W.alloc (.cells #[.int .i64 10, .int .i64 11] 3)) fun e w' => e = .returned (.bool false) ∧ W.alloc (.cells #[.int .i64 10, .int .i64 11] 3) = w') := Lib.hid fun W g hg => by
    subst hg
    have h := r4_in 16 [10, 11] W.heap.size 2 (W.alloc (.cells #[.int .i64 10, .int .i64 11] 3)) rfl (by decide) (fun j hj => by
      have hb := Blk.new W 3 #[.int .i64 10, .int .i64 11]
      have hc := hb.cell j
      rw [hc]
      have hj : j < 2 := hj
      rcases (by omega : j = 0 ∨ j = 1) with rfl | rfl <;> rfl)
    rwa [show [10, 11].contains 16 = false from by decide] at h
  have HI4 : Hid (∀ (W : World) (g : Nat), W.heap.size = g → Calls Tryz.prog 129 #[.int .i64 16, .slice (some ⟨g, 0, none⟩) 6 6] (W.alloc (.cells #[.int .i64 6, .int .i64 7, .int .i64 8, .int .i64 9, .int .i64 10, .int .i64 11] 3)) fun e w' => e = .returned (.bool false) ∧ W.alloc (.cells #[.int .i64 6, .int .i64 7, .int .i64 8, .int .i64 9, .int .i64 10, .int .i64 11] 3) = w') := Lib.hid fun W g hg => by
    subst hg
    have h := r4_in 16 [6, 7, 8, 9, 10, 11] W.heap.size 6 (W.alloc (.cells #[.int .i64 6, .int .i64 7, .int .i64 8, .int .i64 9, .int .i64 10, .int .i64 11] 3)) rfl (by decide) (fun j hj => by
      have hb := Blk.new W 3 #[.int .i64 6, .int .i64 7, .int .i64 8, .int .i64 9, .int .i64 10, .int .i64 11]
      have hc := hb.cell j
      rw [hc]
      have hj : j < 6 := hj
      rcases (by omega : j = 0 ∨ j = 1 ∨ j = 2 ∨ j = 3 ∨ j = 4 ∨ j = 5) with rfl | rfl | rfl | rfl | rfl | rfl <;> rfl)
    rwa [show [6, 7, 8, 9, 10, 11].contains 16 = false from by decide] at h
  have HBX : Hid (∀ (o1 o2 o3 o4 o5 : Obj) (W : World), Below ((((((w.alloc (.cells #[.int .i64 16, .string ⟨#[]⟩, .string d, .string ⟨#[]⟩, .string ⟨#[]⟩, .slice none 0 0, .slice none 0 0, (.slice A1 0 c1), (.slice A2 0 c2), .slice none 0 0] 34)).alloc o1).alloc o2).alloc o3).alloc o4).alloc o5).heap.size ((((((w.alloc (.cells #[.int .i64 16, .string ⟨#[]⟩, .string d, .string ⟨#[]⟩, .string ⟨#[]⟩, .slice none 0 0, .slice none 0 0, (.slice A1 0 c1), (.slice A2 0 c2), .slice none 0 0] 34)).alloc o1).alloc o2).alloc o3).alloc o4).alloc o5) W → Blk W w.heap.size 34 #[.int .i64 16, .string ⟨#[]⟩, .string d, .string ⟨#[]⟩, .string ⟨#[]⟩, .slice none 0 0, .slice none 0 0, (.slice A1 0 c1), (.slice A2 0 c2), .slice none 0 0] ∧ Below w.heap.size w W) := Lib.hid fun o1 o2 o3 o4 o5 W hb => by
    have h1 := (((((Blk.new w 34 #[.int .i64 16, .string ⟨#[]⟩, .string d, .string ⟨#[]⟩, .string ⟨#[]⟩, .slice none 0 0, .slice none 0 0, (.slice A1 0 c1), (.slice A2 0 c2), .slice none 0 0]).alloc o1).alloc o2).alloc o3).alloc o4).alloc o5
    have h2 : Below w.heap.size w ((((((w.alloc (.cells #[.int .i64 16, .string ⟨#[]⟩, .string d, .string ⟨#[]⟩, .string ⟨#[]⟩, .slice none 0 0, .slice none 0 0, (.slice A1 0 c1), (.slice A2 0 c2), .slice none 0 0] 34)).alloc o1).alloc o2).alloc o3).alloc o4).alloc o5) := ((((((Below.refl _ w).alloc (Nat.le_refl _) _).alloc (by simp) _).alloc (by simp; omega) _).alloc (by simp; omega) _).alloc (by simp; omega) _).alloc (by simp; omega) _
    exact ⟨h1.below hb h1.lt, h2.trans (hb.mono h2.size)⟩
  go_enter Tryz.func93, Tryz.ntmps93
  go_wp2_with fail
  refine (HI0.out _ _ (by simp)).mono ?_
  rintro e w1 ⟨rfl, rfl⟩
  go_wp2_with fail
  refine (HI1.out _ _ (by simp)).mono ?_
  rintro e w1 ⟨rfl, rfl⟩
  go_wp2_with fail
  refine (HI2.out _ _ (by simp)).mono ?_
  rintro e w1 ⟨rfl, rfl⟩
  go_wp2_with fail
  refine (HI3.out _ _ (by simp)).mono ?_
  rintro e w1 ⟨rfl, rfl⟩
  go_wp2_with fail
  refine (HI4.out _ _ (by simp)).mono ?_
  rintro e w1 ⟨rfl, rfl⟩
  go_wp2_with fail
  ((with_reducible refine (HA.out _).mono ?_))
  rintro e w2 ⟨rfl, b2⟩
  obtain ⟨g1, g2⟩ := HBX.out _ _ _ _ _ _ b2
  have HB2 := Lib.hid g2
  obtain ⟨a0, a1, a2, a3, a4, a5, a6, a7, a8, a9, -⟩ := in_facts g1
  clear b2 g1 g2 HBX
  go_wp2_with fail
  go_ret
  exact ⟨rfl, HB2.out⟩

end Go.Proofs.YtcjkgmfidkgamaaGreatDoor
