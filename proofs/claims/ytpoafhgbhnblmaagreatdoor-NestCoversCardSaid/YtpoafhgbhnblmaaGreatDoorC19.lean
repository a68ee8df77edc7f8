/-
  Texts of the proof, put together (what this law reaches): NsVD, NsW.
-/
import Derived.Test.YtpoafhgbhnblmaaGreatDoorC17
import Derived.Test.YtpoafhgbhnblmaaGreatDoorC13
import Derived.Test.YtpoafhgbhnblmaaGreatDoorC16
import Derived.Test.YtpoafhgbhnblmaaGreatDoorC18
set_option linter.unusedVariables false
set_option linter.unusedSimpArgs false
namespace Go.Proofs.YtpoafhgbhnblmaaGreatDoor
open Go.RowKit Go.Pub
set_option maxRecDepth 100000 in
set_option maxHeartbeats 2000000 in
theorem n_atT (d : Nat) (hd : d ≤ 15) (zs : List ByteArray) (A : Option Addr) (c i B : Nat) (MM : Int) (m : MkL) (A9 : Option Addr) (c9 : Nat) (A10 : Option Addr) (c10 : Nat) (w : World) (hL : LinesAt w A zs MM) (hi : i < zs.length) (hc : zs.length ≤ c) (hcm : c ≤ maxLen) (hB : B ≤ w.heap.size) (ha : AttR w (Rg B w) m.att A9 A10) (hk : m.kind = 0) (hh : headAt zs i = true) :
    Calls Tryz.prog 39 #[.slice A zs.length c, .int .i64 i, .agg (m.cells (.slice A9 m.att.cl.length c9) (.slice A10 m.att.pr.length c10)), .int .i64 d] w (BkPost B (if decide (d + 2 ≤ 15) = true then some (tableB zs i ((alignR (bytesL (ln zs (i + 1)))).getD []), tableTo zs i) else none) w) := by
  have hlen := hL.len
  have HLi := Lib.hid hL
  have HA := Lib.hid ha
  have HS := Lib.hid (dw_start w (m.cells (.slice A9 m.att.cl.length c9) (.slice A10 m.att.pr.length c10)))
  obtain ⟨PR, hPR⟩ : ∃ PR, PR = if decide (d + 2 ≤ 15) = true then some (tableB zs i ((alignR (bytesL (ln zs (i + 1)))).getD []), tableTo zs i) else none := ⟨_, rfl⟩
  rw [← hPR]
  have hz : ∀ j, (ln zs j).size ≤ 1000000 := fun j => Nat.le_trans (ln_size hL.sz j) (by decide)
  have HHD : Hid (∀ W, W.cell? ⟨0, 0, none⟩ = some (.int .i64 MM) → Calls Tryz.prog 77 #[.string (ln zs i), .string (ln zs (i + 1))] W fun e w' => e = .returned (.bool (headB (bytesL (ln zs i)) (bytesL (ln zs (i + 1))))) ∧ Below W.heap.size W w') := Lib.hid fun W h => t_head (ln zs i) (ln zs (i + 1)) MM W (hz i) (hz (i + 1)) h
  obtain ⟨b, off, rfl, hb, hcell⟩ := hL.get (by omega)
  have HCell := Lib.hid hcell
  clear hz hcell
  have hh2 : i + 1 < zs.length ∧ headB (bytesL (ln zs i)) (bytesL (ln zs (i + 1))) = true := by
    unfold headAt at hh
    rw [Bool.and_eq_true, decide_eq_true_eq] at hh
    exact hh
  have hi1 := hh2.1
  have HB := Lib.hid hh2.2
  obtain ⟨r, hr⟩ : ∃ r, alignR (bytesL (ln zs (i + 1))) = some r := by
    have h := hh2.2
    unfold headB at h
    cases hq : alignR (bytesL (ln zs (i + 1))) with
    | none => rw [hq] at h; cases h
    | some r => exact ⟨r, rfl⟩
  rw [hr] at hPR
  have HQ : Hid (∀ W, LinesAt W (some ⟨b, off, none⟩) zs MM → Calls Tryz.prog 78 #[.slice (some ⟨b, off, none⟩) zs.length c, .int .i64 i, .int .i64 d] W (BkPost W.heap.size PR W)) := Lib.hid fun W hLW => by
    rw [hPR]; exact n_table d hd zs (some ⟨b, off, none⟩) c i W.heap.size MM W hLW hi1 (Nat.le_refl _) r hr
  clear hh hh2 hr
  have z2 : (((m.kind : Nat) : Int) == 2) = false := by rw [beq_eq_false_iff_ne]; omega
  have z3 : (((m.kind : Nat) : Int) == 3) = false := by rw [beq_eq_false_iff_ne]; omega
  have z11 : (((m.kind : Nat) : Int) == 11) = false := by rw [beq_eq_false_iff_ne]; omega
  have z4 : (((m.kind : Nat) : Int) == 4) = false := by rw [beq_eq_false_iff_ne]; omega
  have z7 : (((m.kind : Nat) : Int) == 7) = false := by rw [beq_eq_false_iff_ne]; omega
  have z8 : (((m.kind : Nat) : Int) == 8) = false := by rw [beq_eq_false_iff_ne]; omega
  have z9 : (((m.kind : Nat) : Int) == 9) = false := by rw [beq_eq_false_iff_ne]; omega
  have z10 : (((m.kind : Nat) : Int) == 10) = false := by rw [beq_eq_false_iff_ne]; omega
  have z5 : (((m.kind : Nat) : Int) == 5) = false := by rw [beq_eq_false_iff_ne]; omega
  have z6 : (((m.kind : Nat) : Int) == 6) = false := by rw [beq_eq_false_iff_ne]; omega
  have HPR := Lib.hid hPR
  have HK := Lib.hid hk
  clear hL hk ha hPR
  unfold MkL.cells zbC at HS
  go_enter Tryz.func39, Tryz.ntmps39
  unfold MkL.cells
  go_upto_region 1 with fail
  generalize hW : (w.alloc _).alloc _ = W0
  have HD : Hid (DW w #[.int .i64 m.kind, .int .i64 m.n, .string m.ch, .int .i64 m.off, .string m.info, .string m.rest, .string m.dest, .string m.title, .string m.att.id, .slice A9 m.att.cl.length c9, .slice A10 m.att.pr.length c10] W0) := Lib.hid (by rw [← hW]; exact HS.out)
  clear hW HS
  have HL0 := Lib.hid (HLi.out.below HD.out.bel)
  have hw0 := HD.out.bel.size
  have hw1 := HD.out.res.lt
  obtain ⟨p0, p1, p2, p3, p4, p5, p6, p7, p8, p9, p10, x0, x1, x2, x3, x4, x5, x6, x7, x8, x9, x10⟩ := mk_facts HD.out.mrk
  clear x0 x1 x2 x3 x4 x5 x6 x7 x8 x9 x10
  have HBr : Hid (Below W0.heap.size W0 W0) := Lib.hid (Below.refl _ _)
  have HS9 : Hid (∀ W, Below W0.heap.size W0 W → (W.cell? ⟨b, off + i, none⟩ = some (.string (ln zs i)) ∧ W.cell? ⟨b, off + (i + 1), none⟩ = some (.string (ln zs (i + 1))) ∧ Below W0.heap.size W0 W)) := Lib.hid fun W h =>
    ⟨((HD.out.bel.trans (h.mono hw0)).cell (p := ⟨b, off + i, none⟩) hb).trans (HCell.out i hi), ((HD.out.bel.trans (h.mono hw0)).cell (p := ⟨b, off + (i + 1), none⟩) hb).trans (HCell.out (i + 1) hi1), h⟩
  have HHd : Hid (∀ W, Below W0.heap.size W0 W → Calls Tryz.prog 77 #[.string (ln zs i), .string (ln zs (i + 1))] W fun e w' => e = .returned (.bool true) ∧ Below W.heap.size W w') := Lib.hid fun W h => by
    have := HHD.out W (HL0.out.below h).cell
    rwa [HB.out] at this
  have hi0 : (0 : Int) ≤ (i : Int) + 1 := by omega
  have hi2 : (i : Int) + 1 < (zs.length : Int) := by omega
  have hi3 : ((i : Int) + 1).toNat = i + 1 := by omega
  have hw2 : IntKind.i64.wrap ((i : Int) + 1) = (i : Int) + 1 := IntWalk.i64_in _ (by omega)
  have d1 : decide ((i : Int) + 1 < (zs.length : Int)) = true := decide_eq_true (by omega)
  have d2 : decide (i + 1 < zs.length) = true := decide_eq_true hi1
  obtain ⟨s0, s1, _⟩ := HS9.out _ HBr.out
  clear p1 p2 p3 p4 p5 p6 p7 p8 p9 p10 HHD
  go_wp2_with fail
  refine wp_region_held_drew (S := fun W' => W'.cell? ⟨b, off + i, none⟩ = some (.string (ln zs i)) ∧ W'.cell? ⟨b, off + (i + 1), none⟩ = some (.string (ln zs (i + 1))) ∧ Below W0.heap.size W0 W') (by kernel_rfl) (HS9.out _ HBr.out.drew) (fun hHeld => ?_)
  refine wpAnyH_take (i := 0) (v := .int .i64 i) rfl (by kernel_rfl) (by kernel_rfl) (by kernel_rfl) (fun _ _ _ h => h) (Or.inl ⟨by kernel_rfl, fun W' hSw => ?_⟩) hHeld ?_
  · obtain ⟨h0, h1, h2⟩ := hSw
    go_simp
  try simp only [Act.put, List.setIfInBounds_toArray, List.set_cons_zero, List.set_cons_succ]
  refine wpAnyH_take (i := 1) (v := .int .i64 ((i : Int) + 1)) rfl (by kernel_rfl) (by kernel_rfl) (by kernel_rfl) (fun _ _ _ h => h) (Or.inl ⟨by kernel_rfl, fun W' hSw => ?_⟩) hHeld ?_
  · obtain ⟨h0, h1, h2⟩ := hSw
    go_simp
  try simp only [Act.put, List.setIfInBounds_toArray, List.set_cons_zero, List.set_cons_succ]
  refine wpAnyH_take (i := 2) (v := .slice (some ⟨b, off, none⟩) zs.length c) rfl (by kernel_rfl) (by kernel_rfl) (by kernel_rfl) (fun _ _ _ h => h) (Or.inl ⟨by kernel_rfl, fun W' hSw => ?_⟩) hHeld ?_
  · obtain ⟨h0, h1, h2⟩ := hSw
    go_simp
  try simp only [Act.put, List.setIfInBounds_toArray, List.set_cons_zero, List.set_cons_succ]
  refine wpAnyH_take (i := 3) (v := .int .i64 zs.length) rfl (by kernel_rfl) (by kernel_rfl) (by kernel_rfl) (fun _ _ _ h => h) (Or.inl ⟨by kernel_rfl, fun W' hSw => ?_⟩) hHeld ?_
  · obtain ⟨h0, h1, h2⟩ := hSw
    go_simp
  try simp only [Act.put, List.setIfInBounds_toArray, List.set_cons_zero, List.set_cons_succ]
  refine wpAnyH_take (i := 4) (v := .bool true) rfl (by kernel_rfl) (by kernel_rfl) (by kernel_rfl) (fun _ _ _ h => h) (Or.inl ⟨by kernel_rfl, fun W' hSw => ?_⟩) hHeld ?_
  · obtain ⟨h0, h1, h2⟩ := hSw
    go_simp
  try simp only [Act.put, List.setIfInBounds_toArray, List.set_cons_zero, List.set_cons_succ]
  refine wpAnyH_take (i := 5) (v := .bool true) rfl (by kernel_rfl) (by kernel_rfl) (by kernel_rfl) (fun _ _ _ h => h) (Or.inl ⟨by kernel_rfl, fun W' hSw => ?_⟩) hHeld ?_
  · obtain ⟨h0, h1, h2⟩ := hSw
    go_simp
  try simp only [Act.put, List.setIfInBounds_toArray, List.set_cons_zero, List.set_cons_succ]
  refine wpAnyH_take (i := 6) (v := .slice (some ⟨b, off, none⟩) zs.length c) rfl (by kernel_rfl) (by kernel_rfl) (by kernel_rfl) (fun _ _ _ h => h) (Or.inl ⟨by kernel_rfl, fun W' hSw => ?_⟩) hHeld ?_
  · obtain ⟨h0, h1, h2⟩ := hSw
    go_simp
  try simp only [Act.put, List.setIfInBounds_toArray, List.set_cons_zero, List.set_cons_succ]
  refine wpAnyH_take (i := 7) (v := .int .i64 i) rfl (by kernel_rfl) (by kernel_rfl) (by kernel_rfl) (fun _ _ _ h => h) (Or.inl ⟨by kernel_rfl, fun W' hSw => ?_⟩) hHeld ?_
  · obtain ⟨h0, h1, h2⟩ := hSw
    go_simp
  try simp only [Act.put, List.setIfInBounds_toArray, List.set_cons_zero, List.set_cons_succ]
  refine wpAnyH_take (i := 8) (v := .pointer (some ⟨b, off + i, none⟩)) rfl (by kernel_rfl) (by kernel_rfl) (by kernel_rfl) (fun _ _ _ h => h) (Or.inl ⟨by kernel_rfl, fun W' hSw => ?_⟩) hHeld ?_
  · obtain ⟨h0, h1, h2⟩ := hSw
    go_simp
  try simp only [Act.put, List.setIfInBounds_toArray, List.set_cons_zero, List.set_cons_succ]
  refine wpAnyH_take (i := 9) (v := .string (ln zs i)) rfl (by kernel_rfl) (by kernel_rfl) (by kernel_rfl) (fun _ _ _ h => h) (Or.inl ⟨by kernel_rfl, fun W' hSw => ?_⟩) hHeld ?_
  · obtain ⟨h0, h1, h2⟩ := hSw
    go_simp
  try simp only [Act.put, List.setIfInBounds_toArray, List.set_cons_zero, List.set_cons_succ]
  refine wpAnyH_take (i := 10) (v := .slice (some ⟨b, off, none⟩) zs.length c) rfl (by kernel_rfl) (by kernel_rfl) (by kernel_rfl) (fun _ _ _ h => h) (Or.inl ⟨by kernel_rfl, fun W' hSw => ?_⟩) hHeld ?_
  · obtain ⟨h0, h1, h2⟩ := hSw
    go_simp
  try simp only [Act.put, List.setIfInBounds_toArray, List.set_cons_zero, List.set_cons_succ]
  refine wpAnyH_take (i := 11) (v := .int .i64 i) rfl (by kernel_rfl) (by kernel_rfl) (by kernel_rfl) (fun _ _ _ h => h) (Or.inl ⟨by kernel_rfl, fun W' hSw => ?_⟩) hHeld ?_
  · obtain ⟨h0, h1, h2⟩ := hSw
    go_simp
  try simp only [Act.put, List.setIfInBounds_toArray, List.set_cons_zero, List.set_cons_succ]
  refine wpAnyH_take (i := 12) (v := .int .i64 ((i : Int) + 1)) rfl (by kernel_rfl) (by kernel_rfl) (by kernel_rfl) (fun _ _ _ h => h) (Or.inl ⟨by kernel_rfl, fun W' hSw => ?_⟩) hHeld ?_
  · obtain ⟨h0, h1, h2⟩ := hSw
    go_simp
  try simp only [Act.put, List.setIfInBounds_toArray, List.set_cons_zero, List.set_cons_succ]
  refine wpAnyH_take (i := 13) (v := .pointer (some ⟨b, off + (i + 1), none⟩)) rfl (by kernel_rfl) (by kernel_rfl) (by kernel_rfl) (fun _ _ _ h => h) (Or.inl ⟨by kernel_rfl, fun W' hSw => ?_⟩) hHeld ?_
  · obtain ⟨h0, h1, h2⟩ := hSw
    go_simp
  try simp only [Act.put, List.setIfInBounds_toArray, List.set_cons_zero, List.set_cons_succ]
  refine wpAnyH_take (i := 14) (v := .string (ln zs (i + 1))) rfl (by kernel_rfl) (by kernel_rfl) (by kernel_rfl) (fun _ _ _ h => h) (Or.inl ⟨by kernel_rfl, fun W' hSw => ?_⟩) hHeld ?_
  · obtain ⟨h0, h1, h2⟩ := hSw
    go_simp
  try simp only [Act.put, List.setIfInBounds_toArray, List.set_cons_zero, List.set_cons_succ]
  refine wpAnyH_ready (rs := [15]) (by kernel_rfl) (by simp) (AllReadyH.cons rfl (fun K hK => ?_) AllReadyH.nil)
  go_simp
  ((with_reducible refine (HHd.out _ HBr.out.drew).mono ?_))
  rintro e W9 ⟨rfl, b8⟩
  have b9 : Below W0.heap.size W0 W9 := HBr.out.drew.trans b8
  go_simp
  refine hK.out _ _ (HS9.out _ b9) (fun hHeld => ?_)
  clear hK K
  try simp only [Act.put, List.setIfInBounds_toArray, List.set_cons_zero, List.set_cons_succ]
  refine wpAnyH_ready (rs := [16]) (by kernel_rfl) (by simp) (AllReadyH.cons rfl (fun K hK => ?_) AllReadyH.nil)
  go_simp
  refine hK.out _ _ (hHeld) (fun hHeld => ?_)
  clear hK K
  try simp only [Act.put, List.setIfInBounds_toArray, List.set_cons_zero, List.set_cons_succ]
  refine wpAnyH_done (by kernel_rfl) ?_ _
  have HD9 := Lib.hid (HD.out.next b9)
  have HL9 := Lib.hid (HL0.out.below b9)
  have hz9 := b9.size
  have HQ9 := Lib.hid (HQ.out W9 HL9.out)
  clear HQ HHd HS9 s0 s1 hHeld
  go_wp2_with fail
  ((with_reducible refine (HQ9.out).mono ?_))
  rintro e w2 ⟨b2, hp⟩
  have HD2 := Lib.hid (HD9.out.next b2)
  have hw9 := HD9.out.res.lt
  have hw9b : B ≤ W9.heap.size := by omega
  obtain ⟨k0, k1, k2, k3, k4, k5, k6, k7, k8, k9, k10, y0, y1, y2, y3, y4, y5, y6, y7, y8, y9, y10⟩ := ZB.facts HD2.out.res
  clear HQ9 b2
  cases PR with
  | none =>
    obtain ⟨v, u, ⟨i0, i1, s2, s3, s4, s5, s6, A7, n7, c7, A8, n8, c8, D9, n9, d9, D10, n10, d10, rfl⟩, rfl⟩ := hp
    go_wp2_with fail
    exact blockAt_ret (blk11 HD2.out.res _ _ _ _ _ _ _ _ _ _ _) rfl rfl rfl rfl (bk_none rfl ⟨_, _, _, _, _, _, _, _, _, _, _, _, _, _, _, _, _, _, _, rfl⟩ (below11 HD2.out.bel (Nat.le_succ _) _ _ _ _ _ _ _ _ _ _ _))
  | some r =>
    obtain ⟨bk, tq⟩ := r
    obtain ⟨v, rfl, hrep⟩ := hp
    obtain ⟨f0, f1, f2, f3, f4, f5, f6, D9, n9, d9, D10, n10, d10, D11, n11, d11, D12, n12, d12, rfl⟩ := hrep.form
    have HREP := Lib.hid hrep
    clear hrep
    go_wp2_with fail
    exact blockAt_ret (blk11 HD2.out.res _ _ _ _ _ _ _ _ _ _ _) rfl rfl rfl rfl (bk_some rfl (HREP.out.far (grown11 _ _ _ _ _ _ _ _ _ _ _ _ _) hw9 hw9b) (below11 HD2.out.bel (Nat.le_succ _) _ _ _ _ _ _ _ _ _ _ _))

set_option maxRecDepth 100000 in
set_option maxHeartbeats 2000000 in
theorem n_atP (d : Nat) (hd : d ≤ 15) (zs : List ByteArray) (A : Option Addr) (c i B : Nat) (MM : Int) (m : MkL) (A9 : Option Addr) (c9 : Nat) (A10 : Option Addr) (c10 : Nat) (w : World) (hL : LinesAt w A zs MM) (hi : i < zs.length) (hc : zs.length ≤ c) (hcm : c ≤ maxLen) (hB : B ≤ w.heap.size) (ha : AttR w (Rg B w) m.att A9 A10) (hk : m.kind = 0) (hh : headAt zs i = false) :
    Calls Tryz.prog 39 #[.slice A zs.length c, .int .i64 i, .agg (m.cells (.slice A9 m.att.cl.length c9) (.slice A10 m.att.pr.length c10)), .int .i64 d] w (BkPost B (some (paraB zs i, paraTo zs i)) w) := by
  have hlen := hL.len
  have HLi := Lib.hid hL
  have HA := Lib.hid ha
  have HS := Lib.hid (dw_start w (m.cells (.slice A9 m.att.cl.length c9) (.slice A10 m.att.pr.length c10)))
  obtain ⟨PR, hPR⟩ : ∃ PR, PR = some (paraB zs i, paraTo zs i) := ⟨_, rfl⟩
  rw [← hPR]
  have hz : ∀ j, (ln zs j).size ≤ 1000000 := fun j => Nat.le_trans (ln_size hL.sz j) (by decide)
  have HHD : Hid (∀ W, W.cell? ⟨0, 0, none⟩ = some (.int .i64 MM) → Calls Tryz.prog 77 #[.string (ln zs i), .string (ln zs (i + 1))] W fun e w' => e = .returned (.bool (headB (bytesL (ln zs i)) (bytesL (ln zs (i + 1))))) ∧ Below W.heap.size W w') := Lib.hid fun W h => t_head (ln zs i) (ln zs (i + 1)) MM W (hz i) (hz (i + 1)) h
  obtain ⟨b, off, rfl, hb, hcell⟩ := hL.get (by omega)
  have HCell := Lib.hid hcell
  clear hz hcell
  have hh2 : (decide (i + 1 < zs.length) && headB (bytesL (ln zs i)) (bytesL (ln zs (i + 1)))) = false := hh
  have HQ : Hid (∀ W, LinesAt W (some ⟨b, off, none⟩) zs MM → Calls Tryz.prog 79 #[.slice (some ⟨b, off, none⟩) zs.length c, .int .i64 i] W fun e w' => (∃ v, e = .returned (.tuple #[.agg v, .int .i64 (paraTo zs i)]) ∧ RepB w' (Rg W.heap.size w') v (paraB zs i)) ∧ Below W.heap.size W w') := Lib.hid fun W hLW => n_para zs (some ⟨b, off, none⟩) c i W.heap.size MM W hLW hi (Nat.le_refl _)
  have HH2 := Lib.hid hh2
  clear hh hh2
  have z2 : (((m.kind : Nat) : Int) == 2) = false := by rw [beq_eq_false_iff_ne]; omega
  have z3 : (((m.kind : Nat) : Int) == 3) = false := by rw [beq_eq_false_iff_ne]; omega
  have z11 : (((m.kind : Nat) : Int) == 11) = false := by rw [beq_eq_false_iff_ne]; omega
  have z4 : (((m.kind : Nat) : Int) == 4) = false := by rw [beq_eq_false_iff_ne]; omega
  have z7 : (((m.kind : Nat) : Int) == 7) = false := by rw [beq_eq_false_iff_ne]; omega
  have z8 : (((m.kind : Nat) : Int) == 8) = false := by rw [beq_eq_false_iff_ne]; omega
  have z9 : (((m.kind : Nat) : Int) == 9) = false := by rw [beq_eq_false_iff_ne]; omega
  have z10 : (((m.kind : Nat) : Int) == 10) = false := by rw [beq_eq_false_iff_ne]; omega
  have z5 : (((m.kind : Nat) : Int) == 5) = false := by rw [beq_eq_false_iff_ne]; omega
  have z6 : (((m.kind : Nat) : Int) == 6) = false := by rw [beq_eq_false_iff_ne]; omega
  have HPR := Lib.hid hPR
  have HK := Lib.hid hk
  clear hL hk ha hPR
  unfold MkL.cells zbC at HS
  go_enter Tryz.func39, Tryz.ntmps39
  unfold MkL.cells
  go_upto_region 1 with fail
  generalize hW : (w.alloc _).alloc _ = W0
  have HD : Hid (DW w #[.int .i64 m.kind, .int .i64 m.n, .string m.ch, .int .i64 m.off, .string m.info, .string m.rest, .string m.dest, .string m.title, .string m.att.id, .slice A9 m.att.cl.length c9, .slice A10 m.att.pr.length c10] W0) := Lib.hid (by rw [← hW]; exact HS.out)
  clear hW HS
  have HL0 := Lib.hid (HLi.out.below HD.out.bel)
  have hw0 := HD.out.bel.size
  have hw1 := HD.out.res.lt
  obtain ⟨p0, p1, p2, p3, p4, p5, p6, p7, p8, p9, p10, x0, x1, x2, x3, x4, x5, x6, x7, x8, x9, x10⟩ := mk_facts HD.out.mrk
  clear x0 x1 x2 x3 x4 x5 x6 x7 x8 x9 x10
  by_cases hi1 : i + 1 < zs.length
  · have HB : Hid (headB (bytesL (ln zs i)) (bytesL (ln zs (i + 1))) = false) := Lib.hid (by have h := HH2.out; rw [decide_eq_true hi1] at h; exact h)
    clear HH2
    have HBr : Hid (Below W0.heap.size W0 W0) := Lib.hid (Below.refl _ _)
    have HS9 : Hid (∀ W, Below W0.heap.size W0 W → (W.cell? ⟨b, off + i, none⟩ = some (.string (ln zs i)) ∧ W.cell? ⟨b, off + (i + 1), none⟩ = some (.string (ln zs (i + 1))) ∧ Below W0.heap.size W0 W)) := Lib.hid fun W h =>
      ⟨((HD.out.bel.trans (h.mono hw0)).cell (p := ⟨b, off + i, none⟩) hb).trans (HCell.out i hi), ((HD.out.bel.trans (h.mono hw0)).cell (p := ⟨b, off + (i + 1), none⟩) hb).trans (HCell.out (i + 1) hi1), h⟩
    have HHd : Hid (∀ W, Below W0.heap.size W0 W → Calls Tryz.prog 77 #[.string (ln zs i), .string (ln zs (i + 1))] W fun e w' => e = .returned (.bool false) ∧ Below W.heap.size W w') := Lib.hid fun W h => by
      have := HHD.out W (HL0.out.below h).cell
      rwa [HB.out] at this
    have hi0 : (0 : Int) ≤ (i : Int) + 1 := by omega
    have hi2 : (i : Int) + 1 < (zs.length : Int) := by omega
    have hi3 : ((i : Int) + 1).toNat = i + 1 := by omega
    have hw2 : IntKind.i64.wrap ((i : Int) + 1) = (i : Int) + 1 := IntWalk.i64_in _ (by omega)
    have d1 : decide ((i : Int) + 1 < (zs.length : Int)) = true := decide_eq_true (by omega)
    have d2 : decide (i + 1 < zs.length) = true := decide_eq_true hi1
    obtain ⟨s0, s1, _⟩ := HS9.out _ HBr.out
    clear p1 p2 p3 p4 p5 p6 p7 p8 p9 p10 HHD
    go_wp2_with fail
    refine wp_region_held_drew (S := fun W' => W'.cell? ⟨b, off + i, none⟩ = some (.string (ln zs i)) ∧ W'.cell? ⟨b, off + (i + 1), none⟩ = some (.string (ln zs (i + 1))) ∧ Below W0.heap.size W0 W') (by kernel_rfl) (HS9.out _ HBr.out.drew) (fun hHeld => ?_)
    refine wpAnyH_take (i := 0) (v := .int .i64 i) rfl (by kernel_rfl) (by kernel_rfl) (by kernel_rfl) (fun _ _ _ h => h) (Or.inl ⟨by kernel_rfl, fun W' hSw => ?_⟩) hHeld ?_
    · obtain ⟨h0, h1, h2⟩ := hSw
      go_simp
    try simp only [Act.put, List.setIfInBounds_toArray, List.set_cons_zero, List.set_cons_succ]
    refine wpAnyH_take (i := 1) (v := .int .i64 ((i : Int) + 1)) rfl (by kernel_rfl) (by kernel_rfl) (by kernel_rfl) (fun _ _ _ h => h) (Or.inl ⟨by kernel_rfl, fun W' hSw => ?_⟩) hHeld ?_
    · obtain ⟨h0, h1, h2⟩ := hSw
      go_simp
    try simp only [Act.put, List.setIfInBounds_toArray, List.set_cons_zero, List.set_cons_succ]
    refine wpAnyH_take (i := 2) (v := .slice (some ⟨b, off, none⟩) zs.length c) rfl (by kernel_rfl) (by kernel_rfl) (by kernel_rfl) (fun _ _ _ h => h) (Or.inl ⟨by kernel_rfl, fun W' hSw => ?_⟩) hHeld ?_
    · obtain ⟨h0, h1, h2⟩ := hSw
      go_simp
    try simp only [Act.put, List.setIfInBounds_toArray, List.set_cons_zero, List.set_cons_succ]
    refine wpAnyH_take (i := 3) (v := .int .i64 zs.length) rfl (by kernel_rfl) (by kernel_rfl) (by kernel_rfl) (fun _ _ _ h => h) (Or.inl ⟨by kernel_rfl, fun W' hSw => ?_⟩) hHeld ?_
    · obtain ⟨h0, h1, h2⟩ := hSw
      go_simp
    try simp only [Act.put, List.setIfInBounds_toArray, List.set_cons_zero, List.set_cons_succ]
    refine wpAnyH_take (i := 4) (v := .bool true) rfl (by kernel_rfl) (by kernel_rfl) (by kernel_rfl) (fun _ _ _ h => h) (Or.inl ⟨by kernel_rfl, fun W' hSw => ?_⟩) hHeld ?_
    · obtain ⟨h0, h1, h2⟩ := hSw
      go_simp
    try simp only [Act.put, List.setIfInBounds_toArray, List.set_cons_zero, List.set_cons_succ]
    refine wpAnyH_take (i := 5) (v := .bool true) rfl (by kernel_rfl) (by kernel_rfl) (by kernel_rfl) (fun _ _ _ h => h) (Or.inl ⟨by kernel_rfl, fun W' hSw => ?_⟩) hHeld ?_
    · obtain ⟨h0, h1, h2⟩ := hSw
      go_simp
    try simp only [Act.put, List.setIfInBounds_toArray, List.set_cons_zero, List.set_cons_succ]
    refine wpAnyH_take (i := 6) (v := .slice (some ⟨b, off, none⟩) zs.length c) rfl (by kernel_rfl) (by kernel_rfl) (by kernel_rfl) (fun _ _ _ h => h) (Or.inl ⟨by kernel_rfl, fun W' hSw => ?_⟩) hHeld ?_
    · obtain ⟨h0, h1, h2⟩ := hSw
      go_simp
    try simp only [Act.put, List.setIfInBounds_toArray, List.set_cons_zero, List.set_cons_succ]
    refine wpAnyH_take (i := 7) (v := .int .i64 i) rfl (by kernel_rfl) (by kernel_rfl) (by kernel_rfl) (fun _ _ _ h => h) (Or.inl ⟨by kernel_rfl, fun W' hSw => ?_⟩) hHeld ?_
    · obtain ⟨h0, h1, h2⟩ := hSw
      go_simp
    try simp only [Act.put, List.setIfInBounds_toArray, List.set_cons_zero, List.set_cons_succ]
    refine wpAnyH_take (i := 8) (v := .pointer (some ⟨b, off + i, none⟩)) rfl (by kernel_rfl) (by kernel_rfl) (by kernel_rfl) (fun _ _ _ h => h) (Or.inl ⟨by kernel_rfl, fun W' hSw => ?_⟩) hHeld ?_
    · obtain ⟨h0, h1, h2⟩ := hSw
      go_simp
    try simp only [Act.put, List.setIfInBounds_toArray, List.set_cons_zero, List.set_cons_succ]
    refine wpAnyH_take (i := 9) (v := .string (ln zs i)) rfl (by kernel_rfl) (by kernel_rfl) (by kernel_rfl) (fun _ _ _ h => h) (Or.inl ⟨by kernel_rfl, fun W' hSw => ?_⟩) hHeld ?_
    · obtain ⟨h0, h1, h2⟩ := hSw
      go_simp
    try simp only [Act.put, List.setIfInBounds_toArray, List.set_cons_zero, List.set_cons_succ]
    refine wpAnyH_take (i := 10) (v := .slice (some ⟨b, off, none⟩) zs.length c) rfl (by kernel_rfl) (by kernel_rfl) (by kernel_rfl) (fun _ _ _ h => h) (Or.inl ⟨by kernel_rfl, fun W' hSw => ?_⟩) hHeld ?_
    · obtain ⟨h0, h1, h2⟩ := hSw
      go_simp
    try simp only [Act.put, List.setIfInBounds_toArray, List.set_cons_zero, List.set_cons_succ]
    refine wpAnyH_take (i := 11) (v := .int .i64 i) rfl (by kernel_rfl) (by kernel_rfl) (by kernel_rfl) (fun _ _ _ h => h) (Or.inl ⟨by kernel_rfl, fun W' hSw => ?_⟩) hHeld ?_
    · obtain ⟨h0, h1, h2⟩ := hSw
      go_simp
    try simp only [Act.put, List.setIfInBounds_toArray, List.set_cons_zero, List.set_cons_succ]
    refine wpAnyH_take (i := 12) (v := .int .i64 ((i : Int) + 1)) rfl (by kernel_rfl) (by kernel_rfl) (by kernel_rfl) (fun _ _ _ h => h) (Or.inl ⟨by kernel_rfl, fun W' hSw => ?_⟩) hHeld ?_
    · obtain ⟨h0, h1, h2⟩ := hSw
      go_simp
    try simp only [Act.put, List.setIfInBounds_toArray, List.set_cons_zero, List.set_cons_succ]
    refine wpAnyH_take (i := 13) (v := .pointer (some ⟨b, off + (i + 1), none⟩)) rfl (by kernel_rfl) (by kernel_rfl) (by kernel_rfl) (fun _ _ _ h => h) (Or.inl ⟨by kernel_rfl, fun W' hSw => ?_⟩) hHeld ?_
    · obtain ⟨h0, h1, h2⟩ := hSw
      go_simp
    try simp only [Act.put, List.setIfInBounds_toArray, List.set_cons_zero, List.set_cons_succ]
    refine wpAnyH_take (i := 14) (v := .string (ln zs (i + 1))) rfl (by kernel_rfl) (by kernel_rfl) (by kernel_rfl) (fun _ _ _ h => h) (Or.inl ⟨by kernel_rfl, fun W' hSw => ?_⟩) hHeld ?_
    · obtain ⟨h0, h1, h2⟩ := hSw
      go_simp
    try simp only [Act.put, List.setIfInBounds_toArray, List.set_cons_zero, List.set_cons_succ]
    refine wpAnyH_ready (rs := [15]) (by kernel_rfl) (by simp) (AllReadyH.cons rfl (fun K hK => ?_) AllReadyH.nil)
    go_simp
    ((with_reducible refine (HHd.out _ HBr.out.drew).mono ?_))
    rintro e W9 ⟨rfl, b8⟩
    have b9 : Below W0.heap.size W0 W9 := HBr.out.drew.trans b8
    go_simp
    refine hK.out _ _ (HS9.out _ b9) (fun hHeld => ?_)
    clear hK K
    try simp only [Act.put, List.setIfInBounds_toArray, List.set_cons_zero, List.set_cons_succ]
    refine wpAnyH_ready (rs := [16]) (by kernel_rfl) (by simp) (AllReadyH.cons rfl (fun K hK => ?_) AllReadyH.nil)
    go_simp
    refine hK.out _ _ (hHeld) (fun hHeld => ?_)
    clear hK K
    try simp only [Act.put, List.setIfInBounds_toArray, List.set_cons_zero, List.set_cons_succ]
    refine wpAnyH_done (by kernel_rfl) ?_ _
    clear HHd HS9 s0 s1 hHeld
    have HD9 := Lib.hid (HD.out.next b9)
    have HL9 := Lib.hid (HL0.out.below b9)
    have hz9 := b9.size
    have HQ9 := Lib.hid (HQ.out W9 HL9.out)
    clear HQ
    go_wp2_with fail
    ((with_reducible refine (HQ9.out).mono ?_))
    rintro e w2 ⟨⟨v, rfl, hrep⟩, b2⟩
    have HD2 := Lib.hid (HD9.out.next b2)
    have hw9 := HD9.out.res.lt
    have hw9b : B ≤ W9.heap.size := by omega
    obtain ⟨f0, f1, f2, f3, f4, f5, f6, D9, n9, d9, D10, n10, d10, D11, n11, d11, D12, n12, d12, rfl⟩ := hrep.form
    have HREP := Lib.hid (hrep.low ((Below.refl _ w2).alloc (Nat.le_refl _) (.cells #[.int .i64 f0, .int .i64 f1, .string f2, .string f3, .string f4, .string f5, .string f6, .slice D9 n9 d9, .slice D10 n10 d10, .slice D11 n11 d11, .slice D12 n12 d12] 46)))
    have HD3 := Lib.hid (HD2.out.next ((Below.refl _ w2).alloc (Nat.le_refl _) (.cells #[.int .i64 f0, .int .i64 f1, .string f2, .string f3, .string f4, .string f5, .string f6, .slice D9 n9 d9, .slice D10 n10 d10, .slice D11 n11 d11, .slice D12 n12 d12] 46)))
    have HBv := Lib.hid (Blk.new w2 46 #[.int .i64 f0, .int .i64 f1, .string f2, .string f3, .string f4, .string f5, .string f6, .slice D9 n9 d9, .slice D10 n10 d10, .slice D11 n11 d11, .slice D12 n12 d12])
    clear HQ9 b2 hrep
    go_upto_region 27 with fail
    generalize hW3 : w2.alloc _ = W3 at *
    generalize w2.heap.size = gv at *
    clear hW3
    obtain ⟨k0, k1, k2, k3, k4, k5, k6, k7, k8, k9, k10, y0, y1, y2, y3, y4, y5, y6, y7, y8, y9, y10⟩ := ZB.facts HD3.out.res
    obtain ⟨l0, l1, l2, l3, l4, l5, l6, l7, l8, l9, l10, j0, j1, j2, j3, j4, j5, j6, j7, j8, j9, j10⟩ := mk_facts HBv.out
    clear j0 j1 j2 j3 j4 j5 j6 j7 j8 j9 j10 HBv
    go_wp2_with fail
    exact blockAt_ret (blk11 HD3.out.res _ _ _ _ _ _ _ _ _ _ _) rfl rfl rfl rfl (bk_some (by rw [HPR.out]) (HREP.out.far (grown11 _ _ _ _ _ _ _ _ _ _ _ _ _) hw9 hw9b) (below11 HD3.out.bel (Nat.le_succ _) _ _ _ _ _ _ _ _ _ _ _))
  · have d1 : decide ((i : Int) + 1 < (zs.length : Int)) = false := decide_eq_false (by omega)
    have d2 : decide (i + 1 < zs.length) = false := decide_eq_false hi1
    clear HH2 HHD p1 p2 p3 p4 p5 p6 p7 p8 p9 p10
    go_wp2_with fail
    go_quiet (fail)
    have b9 : Below W0.heap.size W0 (W0.drewN nq) := below_drewN (Below.refl _ _) nq
    generalize W0.drewN nq = W9 at *
    have HD9 := Lib.hid (HD.out.next b9)
    have HL9 := Lib.hid (HL0.out.below b9)
    have hz9 := b9.size
    have HQ9 := Lib.hid (HQ.out W9 HL9.out)
    clear HQ
    go_wp2_with fail
    ((with_reducible refine (HQ9.out).mono ?_))
    rintro e w2 ⟨⟨v, rfl, hrep⟩, b2⟩
    have HD2 := Lib.hid (HD9.out.next b2)
    have hw9 := HD9.out.res.lt
    have hw9b : B ≤ W9.heap.size := by omega
    obtain ⟨f0, f1, f2, f3, f4, f5, f6, D9, n9, d9, D10, n10, d10, D11, n11, d11, D12, n12, d12, rfl⟩ := hrep.form
    have HREP := Lib.hid (hrep.low ((Below.refl _ w2).alloc (Nat.le_refl _) (.cells #[.int .i64 f0, .int .i64 f1, .string f2, .string f3, .string f4, .string f5, .string f6, .slice D9 n9 d9, .slice D10 n10 d10, .slice D11 n11 d11, .slice D12 n12 d12] 46)))
    have HD3 := Lib.hid (HD2.out.next ((Below.refl _ w2).alloc (Nat.le_refl _) (.cells #[.int .i64 f0, .int .i64 f1, .string f2, .string f3, .string f4, .string f5, .string f6, .slice D9 n9 d9, .slice D10 n10 d10, .slice D11 n11 d11, .slice D12 n12 d12] 46)))
    have HBv := Lib.hid (Blk.new w2 46 #[.int .i64 f0, .int .i64 f1, .string f2, .string f3, .string f4, .string f5, .string f6, .slice D9 n9 d9, .slice D10 n10 d10, .slice D11 n11 d11, .slice D12 n12 d12])
    clear HQ9 b2 hrep
    go_upto_region 27 with fail
    generalize hW3 : w2.alloc _ = W3 at *
    generalize w2.heap.size = gv at *
    clear hW3
    obtain ⟨k0, k1, k2, k3, k4, k5, k6, k7, k8, k9, k10, y0, y1, y2, y3, y4, y5, y6, y7, y8, y9, y10⟩ := ZB.facts HD3.out.res
    obtain ⟨l0, l1, l2, l3, l4, l5, l6, l7, l8, l9, l10, j0, j1, j2, j3, j4, j5, j6, j7, j8, j9, j10⟩ := mk_facts HBv.out
    clear j0 j1 j2 j3 j4 j5 j6 j7 j8 j9 j10 HBv
    go_wp2_with fail
    exact blockAt_ret (blk11 HD3.out.res _ _ _ _ _ _ _ _ _ _ _) rfl rfl rfl rfl (bk_some (by rw [HPR.out]) (HREP.out.far (grown11 _ _ _ _ _ _ _ _ _ _ _ _ _) hw9 hw9b) (below11 HD3.out.bel (Nat.le_succ _) _ _ _ _ _ _ _ _ _ _ _))

end Go.Proofs.YtpoafhgbhnblmaaGreatDoor
namespace Go.Proofs.YtpoafhgbhnblmaaGreatDoor
open Go.RowKit Go.Pub
theorem n_at (rec1 rec2 : List ByteArray → Option (List BkT)) (d : Nat) (hd : d ≤ 15) (zs : List ByteArray) (A : Option Addr) (c i B : Nat) (MM : Int) (A9 : Option Addr) (c9 : Nat) (A10 : Option Addr) (c10 : Nat) (w : World) (h1 : RecP rec1 (d + 1) MM) (h2 : d + 1 ≤ 15 → RecP rec2 (d + 2) MM) (hL : LinesAt w A zs MM) (hi : i < zs.length) (hb : blankB (ln zs i) = false) (hc : zs.length ≤ c) (hcm : c ≤ maxLen) (hB : B ≤ w.heap.size) (ha : AttR w (Rg B w) (markM (ln zs i)).att A9 A10) :
    Calls Tryz.prog 39 #[.slice A zs.length c, .int .i64 i, .agg ((markM (ln zs i)).cells (.slice A9 (markM (ln zs i)).att.cl.length c9) (.slice A10 (markM (ln zs i)).att.pr.length c10)), .int .i64 d] w
      (BkPost B (blockT rec1 rec2 (decide (d + 1 ≤ 15)) (decide (d + 2 ≤ 15)) zs i (markM (ln zs i))) w) := by
  have hk := (mark_kinds (ln zs i)).2 hb
  have hls := ln_size hL.sz i
  have hoff : (markM (ln zs i)).off ≤ 1000000 := Nat.le_trans (mark_small (ln zs i)).2 (by omega)
  have hok : (markM (ln zs i)).kind = 5 ∨ (markM (ln zs i)).kind = 6 → MkOk (markM (ln zs i)) := mkOk (ln zs i) hls
  have hok10 : (markM (ln zs i)).kind = 10 → MkOk (markM (ln zs i)) := fun h => ⟨hoff, Nat.le_trans (mark_rest (ln zs i) (by omega)).1 hls, fun e => by omega⟩
  generalize markM (ln zs i) = m at *
  unfold blockT
  by_cases e2 : m.kind = 2
  · rw [if_pos e2]; exact n_at2 d hd zs A c i B MM m A9 c9 A10 c10 w hL hi hc hcm hB ha e2
  rw [if_neg e2]
  by_cases e3 : m.kind = 3
  · rw [if_pos e3]; exact n_at3 d hd zs A c i B MM m A9 c9 A10 c10 w hL hi hc hcm hB ha e3
  rw [if_neg e3]
  by_cases e11 : m.kind = 11
  · rw [if_pos e11]; exact n_at11 d hd zs A c i B MM m A9 c9 A10 c10 w hL hi hc hcm hB ha e11
  rw [if_neg e11]
  by_cases e4 : m.kind = 4
  · rw [if_pos e4]; exact n_at4 rec1 d hd zs A c i B MM m A9 c9 A10 c10 w hL hi hc hcm hB ha e4 h1
  rw [if_neg e4]
  by_cases e7 : m.kind = 7
  · rw [if_pos e7]; exact n_at7 d hd zs A c i B MM m A9 c9 A10 c10 w hL hi hc hcm hB ha e7 hoff
  rw [if_neg e7]
  by_cases e8 : m.kind = 8
  · rw [if_pos e8]; exact n_at8 d hd zs A c i B MM m A9 c9 A10 c10 w hL hi hc hcm hB ha e8
  rw [if_neg e8]
  by_cases e9 : m.kind = 9
  · rw [if_pos e9]; exact n_at9 rec1 d hd zs A c i B MM m A9 c9 A10 c10 w hL hi hc hcm hB ha e9 h1
  rw [if_neg e9]
  by_cases e10 : m.kind = 10
  · rw [if_pos e10]; exact n_at10 rec1 d hd zs A c i B MM m A9 c9 A10 c10 w hL hi hc hcm hB ha e10 h1 (hok10 e10)
  rw [if_neg e10]
  by_cases e56 : m.kind = 5 ∨ m.kind = 6
  · rw [if_pos e56]; exact n_at56 rec2 d hd zs A c i B MM m A9 c9 A10 c10 w hL hi hc hcm hB ha e56 h2 (hok e56)
  rw [if_neg e56]
  have e0 : m.kind = 0 := by omega
  by_cases hh : headAt zs i = true
  · rw [if_pos hh]; exact n_atT d hd zs A c i B MM m A9 c9 A10 c10 w hL hi hc hcm hB ha e0 hh
  · rw [if_neg hh]; exact n_atP d hd zs A c i B MM m A9 c9 A10 c10 w hL hi hc hcm hB ha e0 (by simpa using hh)
/-- The blocks at a depth. -/
def AllP (n : Nat) : Prop := ∀ (d : Nat), n + d = 16 → ∀ (zs : List ByteArray) (A : Option Addr) (c : Nat) (MM : Int) (w : World), LinesAt w A zs MM → zs.length ≤ c → c ≤ maxLen → Calls Tryz.prog 30 #[.slice A zs.length c, .int .i64 d] w (BksPost (blocksN n zs) w)
theorem recP_of (n d : Nat) (hnd : n + d = 16) (MM : Int) (h : AllP n) : RecP (fun l => (blocksN n l).map (·.1)) d MM := fun zs A c W hL hc hcm => (h d hnd zs A c MM W hL hc hcm).mono fun e w' hp => by
  obtain ⟨hb, hp⟩ := hp
  refine ⟨?_, hb⟩
  cases hr : blocksN n zs with
  | none => rw [hr] at hp; simp only [hr, Option.map_none]; exact hp
  | some p =>
    rw [hr] at hp
    obtain ⟨v, A2, c2, rfl, hk, _⟩ := hp
    obtain ⟨A1, c1, vs, rfl, h1, h2⟩ := hk
    simp only [hr, Option.map_some]
    exact ⟨A1, c1, A2, _, c2, rfl, A1, c1, vs, rfl, h1, h2⟩
theorem n_all : ∀ n, AllP n := by
  intro n
  induction n using Nat.strongRecOn with
  | ind n ih =>
    intro d hnd zs A c MM w hL hc hcm
    refine n_blocks n d hnd zs A c MM w hL ?_
    intro hn0 i B W A9 c9 A10 c10 hi hb hB hLW ha
    match n, hn0, hnd, ih with
    | 0, hn0, hnd, ih =>
      exact absurd rfl hn0
    | 1, hn0, hnd, ih =>
      have hd : d = 15 := by omega
      subst hd
      rw [atN_one]
      have := n_at (fun l => (blocksN 0 l).map (·.1)) (fun _ => none) 15 (by omega) zs A c i B MM A9 c9 A10 c10 W (recP_of 0 16 rfl MM (ih 0 (by omega))) (fun h => absurd h (by omega)) hLW hi hb hc hcm hB ha
      exact this
    | n + 2, hn0, hnd, ih =>
      rw [atN_two]
      have e1 : decide (d + 1 ≤ 15) = true := decide_eq_true (by omega)
      have e2 : decide (d + 2 ≤ 15) = decide (1 ≤ n) := decide_eq_decide.2 (by omega)
      have := n_at (fun l => (blocksN (n + 1) l).map (·.1)) (fun l => (blocksN n l).map (·.1)) d (by omega) zs A c i B MM A9 c9 A10 c10 W (recP_of (n + 1) (d + 1) (by omega) MM (ih (n + 1) (by omega))) (fun _ => recP_of n (d + 2) (by omega) MM (ih n (by omega))) hLW hi hb hc hcm hB ha
      rw [e1, e2] at this
      exact this
end Go.Proofs.YtpoafhgbhnblmaaGreatDoor
