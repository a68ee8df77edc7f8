/-
  Texts of the proof, put together (what this law reaches): AttrY, NfF, NfE.
-/
import Derived.Test.YtpoafhgbhnblmaaGreatDoorX25
import Derived.Test.YtpoafhgbhnblmaaGreatDoorX30
set_option linter.unusedVariables false
set_option linter.unusedSimpArgs false
namespace Go.Proofs.YtpoafhgbhnblmaaGreatDoor
open Go.RowKit Go.Pub
def emptyB (a : AttrL) : Bool := a.id.toList.isEmpty && (a.cl.length == 0) && (a.pr.length == 0)
set_option maxRecDepth 100000 in
set_option maxHeartbeats 1000000 in
theorem empty_any (w : World) (a : AttrL) (A : Option Addr) (c : Nat) (D : Option Addr) (d : Nat) (hn : a.cl.length ≤ 1000000) (hm : a.pr.length ≤ 1000000) :
    Calls Tryz.prog 41 #[.agg #[.string a.id, .slice A a.cl.length c, .slice D a.pr.length d]] w fun e w' => e = .returned (.bool (emptyB a)) ∧ Below w.heap.size w w' := by
  have HE : Hid (emptyB a = (a.id.toList.isEmpty && (a.cl.length == 0) && (a.pr.length == 0))) := Lib.hid rfl
  generalize emptyB a = R at *
  have HB : Hid (Below w.heap.size w (w.alloc (.cells #[.string a.id, .slice A a.cl.length c, .slice D a.pr.length d] 43))) := Lib.hid ((Below.refl _ _).alloc (Nat.le_refl _) _)
  by_cases hid : a.id.toList = []
  · have y2 : a.id.toList.isEmpty = true := by rw [hid]; rfl
    by_cases h1 : a.cl.length = 0
    · have z1 : ((a.cl.length : Int) == 0) = true := by rw [h1]; rfl
      have z1' : (a.cl.length == 0) = true := by rw [h1]; rfl
      clear h1
      by_cases h2 : a.pr.length = 0
      · have z2 : ((a.pr.length : Int) == 0) = true := by rw [h2]; rfl
        have z2' : (a.pr.length == 0) = true := by rw [h2]; rfl
        have hR : Hid (R = true) := Lib.hid (by rw [HE.out, y2, z1', z2']; rfl)
        clear h2 z1' z2'
        go_enter Tryz.func41, Tryz.ntmps41
        go_wp2_with fail
        go_ret
        exact ⟨ret_bool hR.out.symm, HB.out⟩
      · have z2 : ((a.pr.length : Int) == 0) = false := by rw [beq_eq_false_iff_ne]; omega
        have z2' : (a.pr.length == 0) = false := by rw [beq_eq_false_iff_ne]; omega
        have hR : Hid (R = false) := Lib.hid (by rw [HE.out, y2, z1', z2']; rfl)
        clear h2 z1' z2'
        go_enter Tryz.func41, Tryz.ntmps41
        go_wp2_with fail
        go_ret
        exact ⟨ret_bool hR.out.symm, HB.out⟩
    · have z1 : ((a.cl.length : Int) == 0) = false := by rw [beq_eq_false_iff_ne]; omega
      have z1' : (a.cl.length == 0) = false := by rw [beq_eq_false_iff_ne]; omega
      have hR : Hid (R = false) := Lib.hid (by rw [HE.out, y2, z1']; rfl)
      clear h1 z1'
      go_enter Tryz.func41, Tryz.ntmps41
      go_wp2_with fail
      go_ret
      exact ⟨ret_bool hR.out.symm, HB.out⟩
  · have y2 : a.id.toList.isEmpty = false := by rw [List.isEmpty_eq_false_iff]; exact hid
    have hR : Hid (R = false) := Lib.hid (by rw [HE.out, y2]; rfl)
    go_enter Tryz.func41, Tryz.ntmps41
    go_wp2_with fail
    go_ret
    exact ⟨ret_bool hR.out.symm, HB.out⟩

end Go.Proofs.YtpoafhgbhnblmaaGreatDoor
namespace Go.Proofs.YtpoafhgbhnblmaaGreatDoor
open Go.RowKit Go.Pub
/-- A block's cells in memory. -/
structure CellB (w : World) (g off : Nat) (k lv : Nat) (i t d ti : ByteArray) (a : AttrL) (A1 : Option Addr) (c1 : Nat) (A2 : Option Addr) (c2 : Nat) (AL : Option Addr) (nL cL : Nat) (A4 : Option Addr) (n4 c4 : Nat) : Prop where
  f0 : w.cell? ⟨g, off, none⟩ = some (.int .i64 k)
  f1 : w.cell? ⟨g, off + 1, none⟩ = some (.int .i64 lv)
  f2 : w.cell? ⟨g, off + 2, none⟩ = some (.string i)
  f3 : w.cell? ⟨g, off + 3, none⟩ = some (.string t)
  f4 : w.cell? ⟨g, off + 4, none⟩ = some (.string d)
  f5 : w.cell? ⟨g, off + 5, none⟩ = some (.string ti)
  f6 : w.cell? ⟨g, off + 6, none⟩ = some (.string a.id)
  f7 : w.cell? ⟨g, off + 7, none⟩ = some (.slice A1 a.cl.length c1)
  f8 : w.cell? ⟨g, off + 8, none⟩ = some (.slice A2 a.pr.length c2)
  f9 : w.cell? ⟨g, off + 9, none⟩ = some (.slice AL nL cL)
  f10 : w.cell? ⟨g, off + 10, none⟩ = some (.slice A4 n4 c4)
section
variable {w w' : World} {g off k lv : Nat} {i t d ti : ByteArray} {a : AttrL} {A1 A2 AL A4 : Option Addr} {c1 c2 nL cL n4 c4 : Nat}
theorem CellB.below (h : CellB w g off k lv i t d ti a A1 c1 A2 c2 AL nL cL A4 n4 c4) (hb : Below w.heap.size w w') : CellB w' g off k lv i t d ti a A1 c1 A2 c2 AL nL cL A4 n4 c4 := by
  have hk : ∀ j v, w.cell? ⟨g, j, none⟩ = some v → w'.cell? ⟨g, j, none⟩ = some v := fun j v e => (hb.cell (p := ⟨g, j, none⟩) (World.block_lt_of_cell? _ _ e)).trans e
  exact ⟨hk _ _ h.f0, hk _ _ h.f1, hk _ _ h.f2, hk _ _ h.f3, hk _ _ h.f4, hk _ _ h.f5, hk _ _ h.f6, hk _ _ h.f7, hk _ _ h.f8, hk _ _ h.f9, hk _ _ h.f10⟩
end
set_option maxRecDepth 100000 in
set_option maxHeartbeats 4000000 in
theorem f_fits (k p : Nat) (w : World) (hk : k ≤ 15) (hp : p ≤ 15) (h : fitN k p = true) : Calls Tryz.prog 35 #[.int .i64 k, .int .i64 p] w fun e w' => e = .returned (.bool true) ∧ Below w.heap.size w w' := by
  have HO : Hid (∀ W : World, Calls Tryz.prog 42 #[.int .i64 k, .slice (some ⟨W.heap.size, 0, none⟩) 3 3] (W.alloc (.cells #[.int .i64 9, .int .i64 11, .int .i64 12] 3)) fun e w' => e = .returned (.bool (([9, 11, 12] : List Int).contains (k : Int))) ∧ (W.alloc (.cells #[.int .i64 9, .int .i64 11, .int .i64 12] 3)) = w') := Lib.hid fun W =>
    f_oneOf (k : Int) [9, 11, 12] _ 3 _ (ints_new W [9, 11, 12] (by decide)) (by decide) (by omega)
  unfold fitN at h
  by_cases h78 : p = 7 ∨ p = 8
  · rw [if_pos h78, beq_iff_eq] at h
    subst h
    rcases h78 with rfl | rfl
    all_goals
      go_enter Tryz.func35, Tryz.ntmps35
      go_wp2_with fail
      go_ret
      exact ⟨rfl, Below.refl _ _⟩
  rw [if_neg h78] at h
  by_cases h10 : p = 10
  · rw [if_pos h10, beq_iff_eq] at h
    subst h h10
    go_enter Tryz.func35, Tryz.ntmps35
    go_wp2_with fail
    go_ret
    exact ⟨rfl, Below.refl _ _⟩
  rw [if_neg h10] at h
  by_cases h11 : p = 11
  · rw [if_pos h11, beq_iff_eq] at h
    subst h h11
    go_enter Tryz.func35, Tryz.ntmps35
    go_wp2_with fail
    go_ret
    exact ⟨rfl, Below.refl _ _⟩
  rw [if_neg h11] at h
  have hc : ([9, 11, 12] : List Int).contains (k : Int) = false := by
    simp only [Bool.not_eq_true', Bool.or_eq_false_iff, beq_eq_false_iff_ne] at h
    rw [← Bool.not_eq_true, List.contains_iff_mem]
    simp only [List.mem_cons, List.not_mem_nil, or_false]
    omega
  rw [hc] at HO
  have n7 : ((p : Int) == 7) = false := by rw [beq_eq_false_iff_ne]; omega
  have n8 : ((p : Int) == 8) = false := by rw [beq_eq_false_iff_ne]; omega
  have n10 : ((p : Int) == 10) = false := by rw [beq_eq_false_iff_ne]; omega
  have n11 : ((p : Int) == 11) = false := by rw [beq_eq_false_iff_ne]; omega
  clear h h78 h10 h11 hc
  go_enter Tryz.func35, Tryz.ntmps35
  go_wp2_with fail
  ((with_reducible refine (HO.out _).mono ?_))
  rintro e w' ⟨rfl, rfl⟩
  go_wp2_with fail
  go_ret
  exact ⟨rfl, (Below.refl _ _).alloc (Nat.le_refl _) _⟩

end Go.Proofs.YtpoafhgbhnblmaaGreatDoor
namespace Go.Proofs.YtpoafhgbhnblmaaGreatDoor
open Go.RowKit Go.Pub
/-- A text in memory. -/
structure LeafB (w : World) (g off : Nat) : Prop where
  c0 : w.cell? ⟨g, off, none⟩ = some (.int .i64 1)
  c1 : w.cell? ⟨g, off + 1, none⟩ = some (.string ⟨#[120]⟩)
  c2 : w.cell? ⟨g, off + 2, none⟩ = some (.string ⟨#[]⟩)
  c3 : w.cell? ⟨g, off + 3, none⟩ = some (.string ⟨#[]⟩)
  c4 : w.cell? ⟨g, off + 4, none⟩ = some (.string ⟨#[]⟩)
  c5 : w.cell? ⟨g, off + 5, none⟩ = some (.slice none 0 0)
  c6 : w.cell? ⟨g, off + 6, none⟩ = some (.slice none 0 0)
  c7 : w.cell? ⟨g, off + 7, none⟩ = some (.slice none 0 0)
  c8 : w.cell? ⟨g, off + 8, none⟩ = some (.slice none 0 0)
  c9 : w.cell? ⟨g, off + 9, none⟩ = some (.slice none 0 0)
theorem LeafB.below {w w' : World} {g off : Nat} (h : LeafB w g off) (hb : Below w.heap.size w w') : LeafB w' g off := by
  have hk : ∀ j v, w.cell? ⟨g, j, none⟩ = some v → w'.cell? ⟨g, j, none⟩ = some v := fun j v e => (hb.cell (p := ⟨g, j, none⟩) (World.block_lt_of_cell? _ _ e)).trans e
  exact ⟨hk _ _ h.c0, hk _ _ h.c1, hk _ _ h.c2, hk _ _ h.c3, hk _ _ h.c4, hk _ _ h.c5, hk _ _ h.c6, hk _ _ h.c7, hk _ _ h.c8, hk _ _ h.c9⟩
theorem LeafB.of {w : World} {S : Nat → Prop} {AL : Option Addr} {nL cL : Nat} (h : SrcV w S (.slice AL nL cL) xT) : ∃ g off, AL = some ⟨g, off, none⟩ ∧ nL = 1 ∧ LeafB w g off := by
  unfold SrcV at h
  rw [if_neg (by decide)] at h
  obtain ⟨A, c, e, hr⟩ := h
  injection e with e1 e2 _
  subst e1 e2
  obtain ⟨g, off, rfl, _, hc⟩ := hr.row (by decide) (by decide)
  exact ⟨g, off, rfl, rfl, hc 0 _ rfl, hc 1 _ rfl, hc 2 _ rfl, hc 3 _ rfl, hc 4 _ rfl, hc 5 _ rfl, hc 6 _ rfl, hc 7 _ rfl, hc 8 _ rfl, hc 9 _ rfl⟩
theorem HEmp (W : World) : Calls Tryz.prog 41 #[.agg #[.string ⟨#[]⟩, .slice none 0 0, .slice none 0 0]] W fun e w' => e = .returned (.bool true) ∧ Below W.heap.size W w' := by
  have h := empty_any W emptyA none 0 none 0 (by decide) (by decide)
  rwa [show emptyB emptyA = true by decide +kernel] at h
theorem HEmpA (A1 : Option Addr) (c1 : Nat) (A2 : Option Addr) (c2 : Nat) (W : World) : Calls Tryz.prog 41 #[.agg #[.string ⟨#[]⟩, .slice A1 0 c1, .slice A2 0 c2]] W fun e w' => e = .returned (.bool true) ∧ Below W.heap.size W w' := by
  have h := empty_any W emptyA A1 c1 A2 c2 (by decide) (by decide)
  rwa [show emptyB emptyA = true by decide +kernel] at h
set_option maxRecDepth 100000 in
set_option maxHeartbeats 4000000 in
theorem f_any0 (A : Option Addr) (n c : Nat) (w : World) : Calls Tryz.prog 95 #[.slice none 0 0, .slice A n c] w fun e w' => e = .returned (.bool false) ∧ w = w' := by
  go_enter Tryz.func95, Tryz.ntmps95
  go_wp2_with fail
  go_loop [8] (fun v => v = .int .i64 0) (fun v => 0)
  case atStart => rfl
  case round =>
    subst hrel
    go_wp2_with fail
    go_ret
    exact ⟨rfl, rfl⟩

set_option maxRecDepth 100000 in
set_option maxHeartbeats 4000000 in
theorem f_fields (g off : Nat) (w : World) (h : LeafB w g off) : Calls Tryz.prog 142 #[.pointer (some ⟨g, off, none⟩)] w fun e w' => e = .returned (.bool true) ∧ Below w.heap.size w w' := by
  have HE := Lib.hid HEmp
  have H := Lib.hid h
  obtain ⟨c0, c1, c2, c3, c4, c5, c6, c7, c8, c9⟩ := h
  go_enter Tryz.func142, Tryz.ntmps142
  go_wp2_with fail
  ((with_reducible refine (HE.out _).mono ?_))
  rintro e w1 ⟨rfl, b1⟩
  obtain ⟨d0, d1, d2, d3, d4, d5, d6, d7, d8, d9⟩ := H.out.below b1
  go_wp2_with fail
  go_ret
  exact ⟨rfl, b1⟩

set_option maxRecDepth 100000 in
set_option maxHeartbeats 4000000 in
theorem f_inline (g off : Nat) (w : World) (h : LeafB w g off) : Calls Tryz.prog 143 #[.pointer (some ⟨g, off, none⟩), .int .i64 0] w fun e w' => e = .returned (.int .i64 0) ∧ Below w.heap.size w w' := by
  have HC : Hid (∀ W, Calls Tryz.prog 45 #[.string ⟨#[120]⟩] W fun e w' => e = .returned (.bool true) ∧ Below W.heap.size W w') := Lib.hid fun W => f_cleanLine ⟨#[120]⟩ W (by decide) (by decide +kernel)
  have H := Lib.hid h
  obtain ⟨c0, c1, c2, c3, c4, c5, c6, c7, c8, c9⟩ := h
  go_enter Tryz.func143, Tryz.ntmps143
  go_wp2_with fail
  ((with_reducible refine (HC.out _).mono ?_))
  rintro e w1 ⟨rfl, b1⟩
  obtain ⟨d0, d1, d2, d3, d4, d5, d6, d7, d8, d9⟩ := H.out.below b1
  go_wp2_with fail
  go_ret
  exact ⟨rfl, b1⟩

set_option maxRecDepth 100000 in
set_option maxHeartbeats 4000000 in
theorem f_lines0 (d : Nat) (w : World) : Calls Tryz.prog 89 #[.slice none 0 0, .int .i64 d] w fun e w' => e = .returned (.int .i64 0) ∧ w = w' := by
  go_enter Tryz.func89, Tryz.ntmps89
  go_wp2_with fail
  go_loop [12] (fun v => v = .int .i64 0) (fun v => 0)
  case atStart => rfl
  case round =>
    subst hrel
    go_wp2_with fail
    go_ret
    exact ⟨rfl, rfl⟩

set_option maxRecDepth 100000 in
set_option maxHeartbeats 4000000 in
theorem f_any1 (g off c : Nat) (w : World) (h : LeafB w g off) (A : Option Addr) (hr : Reads w w.heap.size 1 A 2 (intCells [2, 3])) : Calls Tryz.prog 95 #[.slice (some ⟨g, off, none⟩) 1 c, .slice A 2 2] w fun e w' => e = .returned (.bool false) ∧ w = w' := by
  have HO : Hid (Calls Tryz.prog 42 #[.int .i64 1, .slice A 2 2] w fun e w' => e = .returned (.bool false) ∧ w = w') := Lib.hid (f_oneOf 1 [2, 3] A 2 w hr (by decide) (by decide))
  have H0 : Hid (Calls Tryz.prog 95 #[.slice none 0 0, .slice A 2 2] w fun e w' => e = .returned (.bool false) ∧ w = w') := Lib.hid (f_any0 A 2 2 w)
  obtain ⟨c0, c1, c2, c3, c4, c5, c6, c7, c8, c9⟩ := h
  clear hr
  go_enter Tryz.func95, Tryz.ntmps95
  go_wp2_with fail
  go_loop [8] (fun v => ∃ j : Nat, v = .int .i64 j ∧ j ≤ 1) (fun v => 1 - (intOf v).toNat)
  case atStart => exact ⟨0, rfl, by decide⟩
  case round =>
    obtain ⟨j, rfl, hj⟩ := hrel
    obtain rfl | rfl : j = 0 ∨ j = 1 := by omega
    · go_wp2_with fail
      ((with_reducible refine (HO.out).mono ?_))
      rintro e w' ⟨rfl, rfl⟩
      go_wp2_with fail
      ((with_reducible refine (H0.out).mono ?_))
      rintro e w' ⟨rfl, rfl⟩
      go_wp2_with fail
      go_round
      case rel => exact ⟨1, by go_num, by decide⟩
      case measure => simp [intOf]
    · go_wp2_with fail
      go_ret
      exact ⟨rfl, rfl⟩

set_option maxRecDepth 100000 in
set_option maxHeartbeats 4000000 in
theorem f_lines1 (g off c : Nat) (w : World) (h : LeafB w g off) : Calls Tryz.prog 89 #[.slice (some ⟨g, off, none⟩) 1 c, .int .i64 0] w fun e w' => e = .returned (.int .i64 0) ∧ Below w.heap.size w w' := by
  have HF : Hid (∀ W, LeafB W g off → Calls Tryz.prog 142 #[.pointer (some ⟨g, off, none⟩)] W fun e w' => e = .returned (.bool true) ∧ Below W.heap.size W w') := Lib.hid fun W h => f_fields g off W h
  have HI : Hid (∀ W, LeafB W g off → Calls Tryz.prog 143 #[.pointer (some ⟨g, off, none⟩), .int .i64 0] W fun e w' => e = .returned (.int .i64 0) ∧ Below W.heap.size W w') := Lib.hid fun W h => f_inline g off W h
  have HO : Hid (∀ W : World, Calls Tryz.prog 42 #[.int .i64 1, .slice (some ⟨W.heap.size, 0, none⟩) 2 2] (W.alloc (.cells #[.int .i64 2, .int .i64 3] 3)) fun e w' => e = .returned (.bool false) ∧ (W.alloc (.cells #[.int .i64 2, .int .i64 3] 3)) = w') := Lib.hid fun W =>
    f_oneOf 1 [2, 3] _ 2 _ (ints_new W [2, 3] (by decide)) (by decide) (by decide)
  have H0 : Hid (∀ W, Calls Tryz.prog 89 #[.slice none 0 0, .int .i64 1] W fun e w' => e = .returned (.int .i64 0) ∧ W = w') := Lib.hid fun W => f_lines0 1 W
  have H := Lib.hid h
  clear h
  go_enter Tryz.func89, Tryz.ntmps89
  go_wp2_with fail
  go_loopw [12] (fun v wr => ∃ j : Nat, v = .int .i64 j ∧ j ≤ 1 ∧ Below w.heap.size w wr) (fun v _ => 1 - (intOf v).toNat)
  case atStart => exact ⟨0, rfl, by decide, Below.refl _ _⟩
  case round =>
    obtain ⟨j, rfl, hj, hbw⟩ := hrel
    obtain rfl | rfl : j = 0 ∨ j = 1 := by omega
    · have Hr := Lib.hid (H.out.below hbw)
      go_wp2_with fail
      ((with_reducible refine (HF.out _ Hr.out).mono ?_))
      rintro e w1 ⟨rfl, b1⟩
      have H1 := Lib.hid (Hr.out.below b1)
      obtain ⟨c0, c1, c2, c3, c4, c5, c6, c7, c8, c9⟩ := H1.out
      go_wp2_with fail
      ((with_reducible refine (HO.out _).mono ?_))
      rintro e w2 ⟨rfl, rfl⟩
      have hB2 := (Below.refl _ w1).alloc (Nat.le_refl _) (.cells #[.int .i64 2, .int .i64 3] 3)
      have H2 := Lib.hid (H1.out.below hB2)
      have HB2 := Lib.hid hB2
      clear hB2
      go_wp2_with fail
      ((with_reducible refine (HI.out _ H2.out).mono ?_))
      rintro e w3 ⟨rfl, b3⟩
      obtain ⟨d0, d1, d2, d3, d4, d5, d6, d7, d8, d9⟩ := H2.out.below b3
      have HB3 := Lib.hid (hbw.trans ((b1.trans ((HB2.out.trans (b3.mono HB2.out.size)).mono b1.size)).mono hbw.size))
      clear b3
      go_wp2_with fail
      ((with_reducible refine (H0.out _).mono ?_))
      rintro e w4 ⟨rfl, rfl⟩
      go_wp2_with fail
      go_roundw
      case rel => exact ⟨1, by go_num, by decide, HB3.out⟩
      case measure => simp [intOf]
    · go_wp2_with fail
      go_ret
      exact ⟨rfl, hbw⟩

/-- A line of no inline or one text is well-formed. -/
theorem f_line (AL : Option Addr) (nL cL : Nat) (l : ByteArray) (S : Nat → Prop) (w : World) (h : SrcV w S (.slice AL nL cL) l) (hl : l = ⟨#[]⟩ ∨ l = xT) : Calls Tryz.prog 43 #[.slice AL nL cL] w fun e w' => e = .returned (.int .i64 0) ∧ Below w.heap.size w w' := by
  have HC : Hid (Calls Tryz.prog 89 #[.slice AL nL cL, .int .i64 0] w fun e w' => e = .returned (.int .i64 0) ∧ Below w.heap.size w w') := Lib.hid (by
    rcases hl with rfl | rfl
    · unfold SrcV at h
      rw [if_pos (show (⟨#[]⟩ : ByteArray).size = 0 from rfl)] at h
      injection h with e1 e2 e3
      subst e1 e2 e3
      exact (f_lines0 0 w).mono fun e w' h => ⟨h.1, by rw [← h.2]; exact Below.refl _ _⟩
    · obtain ⟨g, off, rfl, rfl, hh⟩ := LeafB.of h
      exact f_lines1 g off cL w hh)
  clear h hl
  go_enter Tryz.func43, Tryz.ntmps43
  go_wp2_with fail
  ((with_reducible refine (HC.out).mono ?_))
  rintro e w1 ⟨rfl, b1⟩
  go_wp2_with fail
  go_ret
  exact ⟨rfl, b1⟩
theorem f_unbroken (AL : Option Addr) (nL cL : Nat) (l : ByteArray) (S : Nat → Prop) (w : World) (hS : ∀ g, S g → g < w.heap.size) (h : SrcV w S (.slice AL nL cL) l) (hl : l = ⟨#[]⟩ ∨ l = xT) : Calls Tryz.prog 50 #[.slice AL nL cL] w fun e w' => e = .returned (.int .i64 0) ∧ Below w.heap.size w w' := by
  have hB := (Below.refl _ w).alloc (Nat.le_refl _) (.cells #[.int .i64 2, .int .i64 3] 3)
  have h2 : SrcV (w.alloc (.cells #[.int .i64 2, .int .i64 3] 3)) S (.slice AL nL cL) l := h.keep (fun g hg => hB.block g (hS g hg)) fun _ h => h
  have HC : Hid (Calls Tryz.prog 95 #[.slice AL nL cL, .slice (some ⟨w.heap.size, 0, none⟩) 2 2] (w.alloc (.cells #[.int .i64 2, .int .i64 3] 3)) fun e w' => e = .returned (.bool false) ∧ w.alloc (.cells #[.int .i64 2, .int .i64 3] 3) = w') := Lib.hid (by
    rcases hl with rfl | rfl
    · unfold SrcV at h
      rw [if_pos (show (⟨#[]⟩ : ByteArray).size = 0 from rfl)] at h
      injection h with e1 e2 e3
      subst e1 e2 e3
      exact f_any0 _ _ _ _
    · obtain ⟨g, off, rfl, rfl, hh⟩ := LeafB.of h2
      exact f_any1 g off cL _ hh _ (ints_new w [2, 3] (by decide)))
  have HL := Lib.hid (f_line AL nL cL l S _ h2 hl)
  have HB := Lib.hid hB
  clear h h2 hB
  go_enter Tryz.func50, Tryz.ntmps50
  go_wp2_with fail
  ((with_reducible refine (HC.out).mono ?_))
  rintro e w1 ⟨rfl, rfl⟩
  go_wp2_with fail
  ((with_reducible refine (HL.out).mono ?_))
  rintro e w2 ⟨rfl, b2⟩
  go_wp2_with fail
  go_ret
  exact ⟨rfl, HB.out.trans (b2.mono HB.out.size)⟩
end Go.Proofs.YtpoafhgbhnblmaaGreatDoor
