/-
  Texts of the proof, put together (what this law reaches): NsVD, NsW, NsX, NsXC.
-/
import Derived.Test.YtpoafhgbhnblmaaGreatDoorX41
import Derived.Test.YtpoafhgbhnblmaaGreatDoorX15
import Derived.Test.YtpoafhgbhnblmaaGreatDoorX39
import Derived.Test.YtpoafhgbhnblmaaGreatDoorX36
import Derived.Test.YtpoafhgbhnblmaaGreatDoorX44
import Derived.Test.YtpoafhgbhnblmaaGreatDoorX43
import Derived.Test.YtpoafhgbhnblmaaGreatDoorX45
import Derived.Test.YtpoafhgbhnblmaaGreatDoorX07
set_option linter.unusedVariables false
set_option linter.unusedSimpArgs false
namespace Go.Proofs.YtpoafhgbhnblmaaGreatDoor
open Go.RowKit Go.Pub
set_option maxRecDepth 100000 in
set_option maxHeartbeats 2000000 in
theorem n_atT (d : Nat) (hd : d ≤ 15) (zs : List ByteArray) (A : Option Addr) (c i B : Nat) (MM : Int) (m : MkL) (A9 : Option Addr) (c9 : Nat) (A10 : Option Addr) (c10 : Nat) (w : World) (hL : LinesAt w A zs MM) (hi : i < zs.length) (hc : zs.length ≤ c) (hcm : c ≤ maxLen) (hB : B ≤ w.heap.size) (ha : AttR w (Rg B w) m.att A9 A10) (hk : m.kind = 0) (hh : headAt zs i = true) :
    Calls Tryz.prog 39 #[.slice A zs.length c, .int .i64 i, .agg (m.cells (.slice A9 m.att.cl.length c9) (.slice A10 m.att.pr.length c10)), .int .i64 d] w (BkPost B (if decide (d + 2 ≤ 15) = true then some (tableB zs i ((alignR (bytesL (ln zs (i + 1)))).getD []), tableTo zs i) else none) w) := by
  have hlen := hL.len
  have HLi := Lib.hid hL
  have HA := Lib.hid ha
  have HS := Lib.hid (dw_start w (m.cells (.slice A9 m.att.cl.length c9) (.slice A10 m.att.pr.length c10)))
  obtain ⟨PR, hPR⟩ : ∃ PR, PR = if decide (d + 2 ≤ 15) = true then some (tableB zs i ((alignR (bytesL (ln zs (i + 1)))).getD []), tableTo zs i) else none := ⟨_, rfl⟩
  rw [← hPR]
  have hz : ∀ j, (ln zs j).size ≤ 1000000 := fun j => Nat.le_trans (ln_size hL.sz j) (by decide)
  have HHD : Hid (∀ W, W.cell? ⟨0, 0, none⟩ = some (.int .i64 MM) → Calls Tryz.prog 77 #[.string (ln zs i), .string (ln zs (i + 1))] W fun e w' => e = .returned (.bool (headB (bytesL (ln zs i)) (bytesL (ln zs (i + 1))))) ∧ Below W.heap.size W w') := Lib.hid fun W h => t_head (ln zs i) (ln zs (i + 1)) MM W (hz i) (hz (i + 1)) h
  obtain ⟨b, off, rfl, hb, hcell⟩ := hL.get (by omega)
  have HCell := Lib.hid hcell
  clear hz hcell
  have hh2 : i + 1 < zs.length ∧ headB (bytesL (ln zs i)) (bytesL (ln zs (i + 1))) = true := by
    unfold headAt at hh
    rw [Bool.and_eq_true, decide_eq_true_eq] at hh
    exact hh
  have hi1 := hh2.1
  have HB := Lib.hid hh2.2
  obtain ⟨r, hr⟩ : ∃ r, alignR (bytesL (ln zs (i + 1))) = some r := by
    have h := hh2.2
    unfold headB at h
    cases hq : alignR (bytesL (ln zs (i + 1))) with
    | none => rw [hq] at h; cases h
    | some r => exact ⟨r, rfl⟩
  rw [hr] at hPR
  have HQ : Hid (∀ W, LinesAt W (some ⟨b, off, none⟩) zs MM → Calls Tryz.prog 78 #[.slice (some ⟨b, off, none⟩) zs.length c, .int .i64 i, .int .i64 d] W (BkPost W.heap.size PR W)) := Lib.hid fun W hLW => by
    rw [hPR]; exact n_table d hd zs (some ⟨b, off, none⟩) c i W.heap.size MM W hLW hi1 (Nat.le_refl _) r hr
  clear hh hh2 hr
  have z2 : (((m.kind : Nat) : Int) == 2) = false := kF (by omega)
  have z3 : (((m.kind : Nat) : Int) == 3) = false := kF (by omega)
  have z11 : (((m.kind : Nat) : Int) == 11) = false := kF (by omega)
  have z4 : (((m.kind : Nat) : Int) == 4) = false := kF (by omega)
  have z7 : (((m.kind : Nat) : Int) == 7) = false := kF (by omega)
  have z8 : (((m.kind : Nat) : Int) == 8) = false := kF (by omega)
  have z9 : (((m.kind : Nat) : Int) == 9) = false := kF (by omega)
  have z10 : (((m.kind : Nat) : Int) == 10) = false := kF (by omega)
  have z5 : (((m.kind : Nat) : Int) == 5) = false := kF (by omega)
  have z6 : (((m.kind : Nat) : Int) == 6) = false := kF (by omega)
  have HPR := Lib.hid hPR
  have HK := Lib.hid hk
  clear hL hk ha hPR
  unfold MkL.cells zbC at HS
  go_enter Tryz.func39, Tryz.ntmps39
  unfold MkL.cells
  go_upto_region 1 with fail
  generalize hW : (w.alloc _).alloc _ = W0
  have HD : Hid (DW w #[.int .i64 m.kind, .int .i64 m.n, .string m.ch, .int .i64 m.off, .string m.info, .string m.rest, .string m.dest, .string m.title, .string m.att.id, .slice A9 m.att.cl.length c9, .slice A10 m.att.pr.length c10] W0) := Lib.hid (by rw [← hW]; exact HS.out)
  clear hW HS
  have HL0 := Lib.hid (HLi.out.below HD.out.bel)
  have hw0 := HD.out.bel.size
  have hw1 := HD.out.res.lt
  obtain ⟨p0, p1, p2, p3, p4, p5, p6, p7, p8, p9, p10, x0, x1, x2, x3, x4, x5, x6, x7, x8, x9, x10⟩ := mk_facts HD.out.mrk
  clear x0 x1 x2 x3 x4 x5 x6 x7 x8 x9 x10
  have HBr : Hid (Below W0.heap.size W0 W0) := Lib.hid (Below.refl _ _)
  have HS9 : Hid (∀ W, Below W0.heap.size W0 W → (W.cell? ⟨b, off + i, none⟩ = some (.string (ln zs i)) ∧ W.cell? ⟨b, off + (i + 1), none⟩ = some (.string (ln zs (i + 1))) ∧ Below W0.heap.size W0 W)) := Lib.hid fun W h =>
    ⟨((HD.out.bel.trans (h.mono hw0)).cell (p := ⟨b, off + i, none⟩) hb).trans (HCell.out i hi), ((HD.out.bel.trans (h.mono hw0)).cell (p := ⟨b, off + (i + 1), none⟩) hb).trans (HCell.out (i + 1) hi1), h⟩
  have HHd : Hid (∀ W, Below W0.heap.size W0 W → Calls Tryz.prog 77 #[.string (ln zs i), .string (ln zs (i + 1))] W fun e w' => e = .returned (.bool true) ∧ Below W.heap.size W w') := Lib.hid fun W h => by
    have := HHD.out W (HL0.out.below h).cell
    rwa [HB.out] at this
  have hi0 : (0 : Int) ≤ (i : Int) + 1 := by omega
  have hi2 : (i : Int) + 1 < (zs.length : Int) := by omega
  have hi3 : ((i : Int) + 1).toNat = i + 1 := by omega
  have hw2 : IntKind.i64.wrap ((i : Int) + 1) = (i : Int) + 1 := IntWalk.i64_in _ (by omega)
  have d1 : decide ((i : Int) + 1 < (zs.length : Int)) = true := decide_eq_true (by omega)
  have d2 : decide (i + 1 < zs.length) = true := decide_eq_true hi1
  obtain ⟨s0, s1, _⟩ := HS9.out _ HBr.out
  clear p1 p2 p3 p4 p5 p6 p7 p8 p9 p10 HHD
  go_wp2_with fail
  refine wp_region_held_drew (S := fun W' => W'.cell? ⟨b, off + i, none⟩ = some (.string (ln zs i)) ∧ W'.cell? ⟨b, off + (i + 1), none⟩ = some (.string (ln zs (i + 1))) ∧ Below W0.heap.size W0 W') (by kernel_rfl) (HS9.out _ HBr.out.drew) (fun hHeld => ?_)
  refine tk 0 (.int .i64 i) rfl hHeld (fun W' hSw => ?_) ?_
  · obtain ⟨h0, h1, h2⟩ := hSw
    go_simp
  refine tk 1 (.int .i64 ((i : Int) + 1)) rfl hHeld (fun W' hSw => ?_) ?_
  · obtain ⟨h0, h1, h2⟩ := hSw
    go_simp
  refine tk 2 (.slice (some ⟨b, off, none⟩) zs.length c) rfl hHeld (fun W' hSw => ?_) ?_
  · obtain ⟨h0, h1, h2⟩ := hSw
    go_simp
  refine tk 3 (.int .i64 zs.length) rfl hHeld (fun W' hSw => ?_) ?_
  · obtain ⟨h0, h1, h2⟩ := hSw
    go_simp
  refine tk 4 (.bool true) rfl hHeld (fun W' hSw => ?_) ?_
  · obtain ⟨h0, h1, h2⟩ := hSw
    go_simp
  refine tk 5 (.bool true) rfl hHeld (fun W' hSw => ?_) ?_
  · obtain ⟨h0, h1, h2⟩ := hSw
    go_simp
  refine tk 6 (.slice (some ⟨b, off, none⟩) zs.length c) rfl hHeld (fun W' hSw => ?_) ?_
  · obtain ⟨h0, h1, h2⟩ := hSw
    go_simp
  refine tk 7 (.int .i64 i) rfl hHeld (fun W' hSw => ?_) ?_
  · obtain ⟨h0, h1, h2⟩ := hSw
    go_simp
  refine tk 8 (.pointer (some ⟨b, off + i, none⟩)) rfl hHeld (fun W' hSw => ?_) ?_
  · obtain ⟨h0, h1, h2⟩ := hSw
    go_simp
  refine tk 9 (.string (ln zs i)) rfl hHeld (fun W' hSw => ?_) ?_
  · obtain ⟨h0, h1, h2⟩ := hSw
    go_simp
  refine tk 10 (.slice (some ⟨b, off, none⟩) zs.length c) rfl hHeld (fun W' hSw => ?_) ?_
  · obtain ⟨h0, h1, h2⟩ := hSw
    go_simp
  refine tk 11 (.int .i64 i) rfl hHeld (fun W' hSw => ?_) ?_
  · obtain ⟨h0, h1, h2⟩ := hSw
    go_simp
  refine tk 12 (.int .i64 ((i : Int) + 1)) rfl hHeld (fun W' hSw => ?_) ?_
  · obtain ⟨h0, h1, h2⟩ := hSw
    go_simp
  refine tk 13 (.pointer (some ⟨b, off + (i + 1), none⟩)) rfl hHeld (fun W' hSw => ?_) ?_
  · obtain ⟨h0, h1, h2⟩ := hSw
    go_simp
  refine tk 14 (.string (ln zs (i + 1))) rfl hHeld (fun W' hSw => ?_) ?_
  · obtain ⟨h0, h1, h2⟩ := hSw
    go_simp
  refine rd1 15 rfl (fun K hK => ?_)
  go_simp
  ((with_reducible refine (HHd.out _ HBr.out.drew).mono ?_))
  rintro e W9 ⟨rfl, b8⟩
  have b9 : Below W0.heap.size W0 W9 := HBr.out.drew.trans b8
  go_simp
  refine hK.out _ _ (HS9.out _ b9) (fun hHeld => ?_)
  clear hK K
  refine rd1 16 rfl (fun K hK => ?_)
  go_simp
  refine hK.out _ _ (hHeld) (fun hHeld => ?_)
  clear hK K
  refine wpAnyH_done (by kernel_rfl) ?_ _
  have HD9 := Lib.hid (HD.out.next b9)
  have HL9 := Lib.hid (HL0.out.below b9)
  have hz9 := b9.size
  have HQ9 := Lib.hid (HQ.out W9 HL9.out)
  clear HQ HHd HS9 s0 s1 hHeld
  go_wp2_with fail
  ((with_reducible refine (HQ9.out).mono ?_))
  rintro e w2 ⟨b2, hp⟩
  have HD2 := Lib.hid (HD9.out.next b2)
  have hw9 := HD9.out.res.lt
  have hw9b : B ≤ W9.heap.size := by omega
  obtain ⟨k0, k1, k2, k3, k4, k5, k6, k7, k8, k9, k10, y0, y1, y2, y3, y4, y5, y6, y7, y8, y9, y10⟩ := ZB.facts HD2.out.res
  clear HQ9 b2
  cases PR with
  | none =>
    obtain ⟨v, u, ⟨i0, i1, s2, s3, s4, s5, s6, A7, n7, c7, A8, n8, c8, D9, n9, d9, D10, n10, d10, rfl⟩, rfl⟩ := hp
    go_wp2_with fail
    exact blockAt_ret (blk11 HD2.out.res _ _ _ _ _ _ _ _ _ _ _) rfl rfl rfl rfl (bk_none rfl ⟨_, _, _, _, _, _, _, _, _, _, _, _, _, _, _, _, _, _, _, rfl⟩ (below11 HD2.out.bel (Nat.le_succ _) _ _ _ _ _ _ _ _ _ _ _))
  | some r =>
    obtain ⟨bk, tq⟩ := r
    obtain ⟨v, rfl, hrep⟩ := hp
    obtain ⟨f0, f1, f2, f3, f4, f5, f6, D9, n9, d9, D10, n10, d10, D11, n11, d11, D12, n12, d12, rfl⟩ := hrep.form
    have HREP := Lib.hid hrep
    clear hrep
    go_wp2_with fail
    exact blockAt_ret (blk11 HD2.out.res _ _ _ _ _ _ _ _ _ _ _) rfl rfl rfl rfl (bk_some rfl (HREP.out.far (grown11 _ _ _ _ _ _ _ _ _ _ _ _ _) hw9 hw9b) (below11 HD2.out.bel (Nat.le_succ _) _ _ _ _ _ _ _ _ _ _ _))

set_option maxRecDepth 100000 in
set_option maxHeartbeats 2000000 in
theorem n_atP (d : Nat) (hd : d ≤ 15) (zs : List ByteArray) (A : Option Addr) (c i B : Nat) (MM : Int) (m : MkL) (A9 : Option Addr) (c9 : Nat) (A10 : Option Addr) (c10 : Nat) (w : World) (hL : LinesAt w A zs MM) (hi : i < zs.length) (hc : zs.length ≤ c) (hcm : c ≤ maxLen) (hB : B ≤ w.heap.size) (ha : AttR w (Rg B w) m.att A9 A10) (hk : m.kind = 0) (hh : headAt zs i = false) :
    Calls Tryz.prog 39 #[.slice A zs.length c, .int .i64 i, .agg (m.cells (.slice A9 m.att.cl.length c9) (.slice A10 m.att.pr.length c10)), .int .i64 d] w (BkPost B (some (paraB zs i, paraTo zs i)) w) := by
  have hlen := hL.len
  have HLi := Lib.hid hL
  have HA := Lib.hid ha
  have HS := Lib.hid (dw_start w (m.cells (.slice A9 m.att.cl.length c9) (.slice A10 m.att.pr.length c10)))
  obtain ⟨PR, hPR⟩ : ∃ PR, PR = some (paraB zs i, paraTo zs i) := ⟨_, rfl⟩
  rw [← hPR]
  have hz : ∀ j, (ln zs j).size ≤ 1000000 := fun j => Nat.le_trans (ln_size hL.sz j) (by decide)
  have HHD : Hid (∀ W, W.cell? ⟨0, 0, none⟩ = some (.int .i64 MM) → Calls Tryz.prog 77 #[.string (ln zs i), .string (ln zs (i + 1))] W fun e w' => e = .returned (.bool (headB (bytesL (ln zs i)) (bytesL (ln zs (i + 1))))) ∧ Below W.heap.size W w') := Lib.hid fun W h => t_head (ln zs i) (ln zs (i + 1)) MM W (hz i) (hz (i + 1)) h
  obtain ⟨b, off, rfl, hb, hcell⟩ := hL.get (by omega)
  have HCell := Lib.hid hcell
  clear hz hcell
  have hh2 : (decide (i + 1 < zs.length) && headB (bytesL (ln zs i)) (bytesL (ln zs (i + 1)))) = false := hh
  have HQ : Hid (∀ W, LinesAt W (some ⟨b, off, none⟩) zs MM → Calls Tryz.prog 79 #[.slice (some ⟨b, off, none⟩) zs.length c, .int .i64 i] W fun e w' => (∃ v, e = .returned (.tuple #[.agg v, .int .i64 (paraTo zs i)]) ∧ RepB w' (Rg W.heap.size w') v (paraB zs i)) ∧ Below W.heap.size W w') := Lib.hid fun W hLW => n_para zs (some ⟨b, off, none⟩) c i W.heap.size MM W hLW hi (Nat.le_refl _)
  have HH2 := Lib.hid hh2
  clear hh hh2
  have z2 : (((m.kind : Nat) : Int) == 2) = false := kF (by omega)
  have z3 : (((m.kind : Nat) : Int) == 3) = false := kF (by omega)
  have z11 : (((m.kind : Nat) : Int) == 11) = false := kF (by omega)
  have z4 : (((m.kind : Nat) : Int) == 4) = false := kF (by omega)
  have z7 : (((m.kind : Nat) : Int) == 7) = false := kF (by omega)
  have z8 : (((m.kind : Nat) : Int) == 8) = false := kF (by omega)
  have z9 : (((m.kind : Nat) : Int) == 9) = false := kF (by omega)
  have z10 : (((m.kind : Nat) : Int) == 10) = false := kF (by omega)
  have z5 : (((m.kind : Nat) : Int) == 5) = false := kF (by omega)
  have z6 : (((m.kind : Nat) : Int) == 6) = false := kF (by omega)
  have HPR := Lib.hid hPR
  have HK := Lib.hid hk
  clear hL hk ha hPR
  unfold MkL.cells zbC at HS
  go_enter Tryz.func39, Tryz.ntmps39
  unfold MkL.cells
  go_upto_region 1 with fail
  generalize hW : (w.alloc _).alloc _ = W0
  have HD : Hid (DW w #[.int .i64 m.kind, .int .i64 m.n, .string m.ch, .int .i64 m.off, .string m.info, .string m.rest, .string m.dest, .string m.title, .string m.att.id, .slice A9 m.att.cl.length c9, .slice A10 m.att.pr.length c10] W0) := Lib.hid (by rw [← hW]; exact HS.out)
  clear hW HS
  have HL0 := Lib.hid (HLi.out.below HD.out.bel)
  have hw0 := HD.out.bel.size
  have hw1 := HD.out.res.lt
  obtain ⟨p0, p1, p2, p3, p4, p5, p6, p7, p8, p9, p10, x0, x1, x2, x3, x4, x5, x6, x7, x8, x9, x10⟩ := mk_facts HD.out.mrk
  clear x0 x1 x2 x3 x4 x5 x6 x7 x8 x9 x10
  by_cases hi1 : i + 1 < zs.length
  · have HB : Hid (headB (bytesL (ln zs i)) (bytesL (ln zs (i + 1))) = false) := Lib.hid (by have h := HH2.out; rw [decide_eq_true hi1] at h; exact h)
    clear HH2
    have HBr : Hid (Below W0.heap.size W0 W0) := Lib.hid (Below.refl _ _)
    have HS9 : Hid (∀ W, Below W0.heap.size W0 W → (W.cell? ⟨b, off + i, none⟩ = some (.string (ln zs i)) ∧ W.cell? ⟨b, off + (i + 1), none⟩ = some (.string (ln zs (i + 1))) ∧ Below W0.heap.size W0 W)) := Lib.hid fun W h =>
      ⟨((HD.out.bel.trans (h.mono hw0)).cell (p := ⟨b, off + i, none⟩) hb).trans (HCell.out i hi), ((HD.out.bel.trans (h.mono hw0)).cell (p := ⟨b, off + (i + 1), none⟩) hb).trans (HCell.out (i + 1) hi1), h⟩
    have HHd : Hid (∀ W, Below W0.heap.size W0 W → Calls Tryz.prog 77 #[.string (ln zs i), .string (ln zs (i + 1))] W fun e w' => e = .returned (.bool false) ∧ Below W.heap.size W w') := Lib.hid fun W h => by
      have := HHD.out W (HL0.out.below h).cell
      rwa [HB.out] at this
    have hi0 : (0 : Int) ≤ (i : Int) + 1 := by omega
    have hi2 : (i : Int) + 1 < (zs.length : Int) := by omega
    have hi3 : ((i : Int) + 1).toNat = i + 1 := by omega
    have hw2 : IntKind.i64.wrap ((i : Int) + 1) = (i : Int) + 1 := IntWalk.i64_in _ (by omega)
    have d1 : decide ((i : Int) + 1 < (zs.length : Int)) = true := decide_eq_true (by omega)
    have d2 : decide (i + 1 < zs.length) = true := decide_eq_true hi1
    obtain ⟨s0, s1, _⟩ := HS9.out _ HBr.out
    clear p1 p2 p3 p4 p5 p6 p7 p8 p9 p10 HHD
    go_wp2_with fail
    refine wp_region_held_drew (S := fun W' => W'.cell? ⟨b, off + i, none⟩ = some (.string (ln zs i)) ∧ W'.cell? ⟨b, off + (i + 1), none⟩ = some (.string (ln zs (i + 1))) ∧ Below W0.heap.size W0 W') (by kernel_rfl) (HS9.out _ HBr.out.drew) (fun hHeld => ?_)
    refine tk 0 (.int .i64 i) rfl hHeld (fun W' hSw => ?_) ?_
    · obtain ⟨h0, h1, h2⟩ := hSw
      go_simp
    refine tk 1 (.int .i64 ((i : Int) + 1)) rfl hHeld (fun W' hSw => ?_) ?_
    · obtain ⟨h0, h1, h2⟩ := hSw
      go_simp
    refine tk 2 (.slice (some ⟨b, off, none⟩) zs.length c) rfl hHeld (fun W' hSw => ?_) ?_
    · obtain ⟨h0, h1, h2⟩ := hSw
      go_simp
    refine tk 3 (.int .i64 zs.length) rfl hHeld (fun W' hSw => ?_) ?_
    · obtain ⟨h0, h1, h2⟩ := hSw
      go_simp
    refine tk 4 (.bool true) rfl hHeld (fun W' hSw => ?_) ?_
    · obtain ⟨h0, h1, h2⟩ := hSw
      go_simp
    refine tk 5 (.bool true) rfl hHeld (fun W' hSw => ?_) ?_
    · obtain ⟨h0, h1, h2⟩ := hSw
      go_simp
    refine tk 6 (.slice (some ⟨b, off, none⟩) zs.length c) rfl hHeld (fun W' hSw => ?_) ?_
    · obtain ⟨h0, h1, h2⟩ := hSw
      go_simp
    refine tk 7 (.int .i64 i) rfl hHeld (fun W' hSw => ?_) ?_
    · obtain ⟨h0, h1, h2⟩ := hSw
      go_simp
    refine tk 8 (.pointer (some ⟨b, off + i, none⟩)) rfl hHeld (fun W' hSw => ?_) ?_
    · obtain ⟨h0, h1, h2⟩ := hSw
      go_simp
    refine tk 9 (.string (ln zs i)) rfl hHeld (fun W' hSw => ?_) ?_
    · obtain ⟨h0, h1, h2⟩ := hSw
      go_simp
    refine tk 10 (.slice (some ⟨b, off, none⟩) zs.length c) rfl hHeld (fun W' hSw => ?_) ?_
    · obtain ⟨h0, h1, h2⟩ := hSw
      go_simp
    refine tk 11 (.int .i64 i) rfl hHeld (fun W' hSw => ?_) ?_
    · obtain ⟨h0, h1, h2⟩ := hSw
      go_simp
    refine tk 12 (.int .i64 ((i : Int) + 1)) rfl hHeld (fun W' hSw => ?_) ?_
    · obtain ⟨h0, h1, h2⟩ := hSw
      go_simp
    refine tk 13 (.pointer (some ⟨b, off + (i + 1), none⟩)) rfl hHeld (fun W' hSw => ?_) ?_
    · obtain ⟨h0, h1, h2⟩ := hSw
      go_simp
    refine tk 14 (.string (ln zs (i + 1))) rfl hHeld (fun W' hSw => ?_) ?_
    · obtain ⟨h0, h1, h2⟩ := hSw
      go_simp
    refine rd1 15 rfl (fun K hK => ?_)
    go_simp
    ((with_reducible refine (HHd.out _ HBr.out.drew).mono ?_))
    rintro e W9 ⟨rfl, b8⟩
    have b9 : Below W0.heap.size W0 W9 := HBr.out.drew.trans b8
    go_simp
    refine hK.out _ _ (HS9.out _ b9) (fun hHeld => ?_)
    clear hK K
    refine rd1 16 rfl (fun K hK => ?_)
    go_simp
    refine hK.out _ _ (hHeld) (fun hHeld => ?_)
    clear hK K
    refine wpAnyH_done (by kernel_rfl) ?_ _
    clear HHd HS9 s0 s1 hHeld
    have HD9 := Lib.hid (HD.out.next b9)
    have HL9 := Lib.hid (HL0.out.below b9)
    have hz9 := b9.size
    have HQ9 := Lib.hid (HQ.out W9 HL9.out)
    clear HQ
    go_wp2_with fail
    ((with_reducible refine (HQ9.out).mono ?_))
    rintro e w2 ⟨⟨v, rfl, hrep⟩, b2⟩
    have HD2 := Lib.hid (HD9.out.next b2)
    have hw9 := HD9.out.res.lt
    have hw9b : B ≤ W9.heap.size := by omega
    obtain ⟨f0, f1, f2, f3, f4, f5, f6, D9, n9, d9, D10, n10, d10, D11, n11, d11, D12, n12, d12, rfl⟩ := hrep.form
    have HREP := Lib.hid (hrep.low ((Below.refl _ w2).alloc (Nat.le_refl _) (.cells #[.int .i64 f0, .int .i64 f1, .string f2, .string f3, .string f4, .string f5, .string f6, .slice D9 n9 d9, .slice D10 n10 d10, .slice D11 n11 d11, .slice D12 n12 d12] 46)))
    have HD3 := Lib.hid (HD2.out.next ((Below.refl _ w2).alloc (Nat.le_refl _) (.cells #[.int .i64 f0, .int .i64 f1, .string f2, .string f3, .string f4, .string f5, .string f6, .slice D9 n9 d9, .slice D10 n10 d10, .slice D11 n11 d11, .slice D12 n12 d12] 46)))
    have HBv := Lib.hid (Blk.new w2 46 #[.int .i64 f0, .int .i64 f1, .string f2, .string f3, .string f4, .string f5, .string f6, .slice D9 n9 d9, .slice D10 n10 d10, .slice D11 n11 d11, .slice D12 n12 d12])
    clear HQ9 b2 hrep
    go_upto_region 27 with fail
    generalize hW3 : w2.alloc _ = W3 at *
    generalize w2.heap.size = gv at *
    clear hW3
    obtain ⟨k0, k1, k2, k3, k4, k5, k6, k7, k8, k9, k10, y0, y1, y2, y3, y4, y5, y6, y7, y8, y9, y10⟩ := ZB.facts HD3.out.res
    obtain ⟨l0, l1, l2, l3, l4, l5, l6, l7, l8, l9, l10, j0, j1, j2, j3, j4, j5, j6, j7, j8, j9, j10⟩ := mk_facts HBv.out
    clear j0 j1 j2 j3 j4 j5 j6 j7 j8 j9 j10 HBv
    go_wp2_with fail
    exact blockAt_ret (blk11 HD3.out.res _ _ _ _ _ _ _ _ _ _ _) rfl rfl rfl rfl (bk_some (by rw [HPR.out]) (HREP.out.far (grown11 _ _ _ _ _ _ _ _ _ _ _ _ _) hw9 hw9b) (below11 HD3.out.bel (Nat.le_succ _) _ _ _ _ _ _ _ _ _ _ _))
  · have d1 : decide ((i : Int) + 1 < (zs.length : Int)) = false := decide_eq_false (by omega)
    have d2 : decide (i + 1 < zs.length) = false := decide_eq_false hi1
    clear HH2 HHD p1 p2 p3 p4 p5 p6 p7 p8 p9 p10
    go_wp2_with fail
    go_quiet (fail)
    have b9 : Below W0.heap.size W0 (W0.drewN nq) := below_drewN (Below.refl _ _) nq
    generalize W0.drewN nq = W9 at *
    have HD9 := Lib.hid (HD.out.next b9)
    have HL9 := Lib.hid (HL0.out.below b9)
    have hz9 := b9.size
    have HQ9 := Lib.hid (HQ.out W9 HL9.out)
    clear HQ
    go_wp2_with fail
    ((with_reducible refine (HQ9.out).mono ?_))
    rintro e w2 ⟨⟨v, rfl, hrep⟩, b2⟩
    have HD2 := Lib.hid (HD9.out.next b2)
    have hw9 := HD9.out.res.lt
    have hw9b : B ≤ W9.heap.size := by omega
    obtain ⟨f0, f1, f2, f3, f4, f5, f6, D9, n9, d9, D10, n10, d10, D11, n11, d11, D12, n12, d12, rfl⟩ := hrep.form
    have HREP := Lib.hid (hrep.low ((Below.refl _ w2).alloc (Nat.le_refl _) (.cells #[.int .i64 f0, .int .i64 f1, .string f2, .string f3, .string f4, .string f5, .string f6, .slice D9 n9 d9, .slice D10 n10 d10, .slice D11 n11 d11, .slice D12 n12 d12] 46)))
    have HD3 := Lib.hid (HD2.out.next ((Below.refl _ w2).alloc (Nat.le_refl _) (.cells #[.int .i64 f0, .int .i64 f1, .string f2, .string f3, .string f4, .string f5, .string f6, .slice D9 n9 d9, .slice D10 n10 d10, .slice D11 n11 d11, .slice D12 n12 d12] 46)))
    have HBv := Lib.hid (Blk.new w2 46 #[.int .i64 f0, .int .i64 f1, .string f2, .string f3, .string f4, .string f5, .string f6, .slice D9 n9 d9, .slice D10 n10 d10, .slice D11 n11 d11, .slice D12 n12 d12])
    clear HQ9 b2 hrep
    go_upto_region 27 with fail
    generalize hW3 : w2.alloc _ = W3 at *
    generalize w2.heap.size = gv at *
    clear hW3
    obtain ⟨k0, k1, k2, k3, k4, k5, k6, k7, k8, k9, k10, y0, y1, y2, y3, y4, y5, y6, y7, y8, y9, y10⟩ := ZB.facts HD3.out.res
    obtain ⟨l0, l1, l2, l3, l4, l5, l6, l7, l8, l9, l10, j0, j1, j2, j3, j4, j5, j6, j7, j8, j9, j10⟩ := mk_facts HBv.out
    clear j0 j1 j2 j3 j4 j5 j6 j7 j8 j9 j10 HBv
    go_wp2_with fail
    exact blockAt_ret (blk11 HD3.out.res _ _ _ _ _ _ _ _ _ _ _) rfl rfl rfl rfl (bk_some (by rw [HPR.out]) (HREP.out.far (grown11 _ _ _ _ _ _ _ _ _ _ _ _ _) hw9 hw9b) (below11 HD3.out.bel (Nat.le_succ _) _ _ _ _ _ _ _ _ _ _ _))

end Go.Proofs.YtpoafhgbhnblmaaGreatDoor
namespace Go.Proofs.YtpoafhgbhnblmaaGreatDoor
open Go.RowKit Go.Pub
theorem n_at (rec1 rec2 : List ByteArray → Option (List BkT)) (d : Nat) (hd : d ≤ 15) (zs : List ByteArray) (A : Option Addr) (c i B : Nat) (MM : Int) (A9 : Option Addr) (c9 : Nat) (A10 : Option Addr) (c10 : Nat) (w : World) (h1 : RecP rec1 (d + 1) MM) (h2 : d + 1 ≤ 15 → RecP rec2 (d + 2) MM) (hL : LinesAt w A zs MM) (hi : i < zs.length) (hb : blankB (ln zs i) = false) (hc : zs.length ≤ c) (hcm : c ≤ maxLen) (hB : B ≤ w.heap.size) (ha : AttR w (Rg B w) (markM (ln zs i)).att A9 A10) :
    Calls Tryz.prog 39 #[.slice A zs.length c, .int .i64 i, .agg ((markM (ln zs i)).cells (.slice A9 (markM (ln zs i)).att.cl.length c9) (.slice A10 (markM (ln zs i)).att.pr.length c10)), .int .i64 d] w
      (BkPost B (blockT rec1 rec2 (decide (d + 1 ≤ 15)) (decide (d + 2 ≤ 15)) zs i (markM (ln zs i))) w) := by
  have hk := (mark_kinds (ln zs i)).2 hb
  have hls := ln_size hL.sz i
  have hoff : (markM (ln zs i)).off ≤ 1000000 := Nat.le_trans (mark_small (ln zs i)).2 (by omega)
  have hok : (markM (ln zs i)).kind = 5 ∨ (markM (ln zs i)).kind = 6 → MkOk (markM (ln zs i)) := mkOk (ln zs i) hls
  have hok10 : (markM (ln zs i)).kind = 10 → MkOk (markM (ln zs i)) := fun h => ⟨hoff, Nat.le_trans (mark_rest (ln zs i) (by omega)).1 hls, fun e => by omega⟩
  generalize markM (ln zs i) = m at *
  unfold blockT
  by_cases e2 : m.kind = 2
  · rw [if_pos e2]; exact n_at2 d hd zs A c i B MM m A9 c9 A10 c10 w hL hi hc hcm hB ha e2
  rw [if_neg e2]
  by_cases e3 : m.kind = 3
  · rw [if_pos e3]; exact n_at3 d hd zs A c i B MM m A9 c9 A10 c10 w hL hi hc hcm hB ha e3
  rw [if_neg e3]
  by_cases e11 : m.kind = 11
  · rw [if_pos e11]; exact n_at11 d hd zs A c i B MM m A9 c9 A10 c10 w hL hi hc hcm hB ha e11
  rw [if_neg e11]
  by_cases e4 : m.kind = 4
  · rw [if_pos e4]; exact n_at4 rec1 d hd zs A c i B MM m A9 c9 A10 c10 w hL hi hc hcm hB ha e4 h1
  rw [if_neg e4]
  by_cases e7 : m.kind = 7
  · rw [if_pos e7]; exact n_at7 d hd zs A c i B MM m A9 c9 A10 c10 w hL hi hc hcm hB ha e7 hoff
  rw [if_neg e7]
  by_cases e8 : m.kind = 8
  · rw [if_pos e8]; exact n_at8 d hd zs A c i B MM m A9 c9 A10 c10 w hL hi hc hcm hB ha e8
  rw [if_neg e8]
  by_cases e9 : m.kind = 9
  · rw [if_pos e9]; exact n_at9 rec1 d hd zs A c i B MM m A9 c9 A10 c10 w hL hi hc hcm hB ha e9 h1
  rw [if_neg e9]
  by_cases e10 : m.kind = 10
  · rw [if_pos e10]; exact n_at10 rec1 d hd zs A c i B MM m A9 c9 A10 c10 w hL hi hc hcm hB ha e10 h1 (hok10 e10)
  rw [if_neg e10]
  by_cases e56 : m.kind = 5 ∨ m.kind = 6
  · rw [if_pos e56]; exact n_at56 rec2 d hd zs A c i B MM m A9 c9 A10 c10 w hL hi hc hcm hB ha e56 h2 (hok e56)
  rw [if_neg e56]
  have e0 : m.kind = 0 := by omega
  by_cases hh : headAt zs i = true
  · rw [if_pos hh]; exact n_atT d hd zs A c i B MM m A9 c9 A10 c10 w hL hi hc hcm hB ha e0 hh
  · rw [if_neg hh]; exact n_atP d hd zs A c i B MM m A9 c9 A10 c10 w hL hi hc hcm hB ha e0 (by simpa using hh)
/-- The blocks at a depth. -/
def AllP (n : Nat) : Prop := ∀ (d : Nat), n + d = 16 → ∀ (zs : List ByteArray) (A : Option Addr) (c : Nat) (MM : Int) (w : World), LinesAt w A zs MM → zs.length ≤ c → c ≤ maxLen → Calls Tryz.prog 30 #[.slice A zs.length c, .int .i64 d] w (BksPostC (blocksN n zs) w)
theorem recP_of (n d : Nat) (hnd : n + d = 16) (MM : Int) (h : AllP n) : RecP (fun l => (blocksN n l).map (·.1)) d MM := fun zs A c W hL hc hcm => (h d hnd zs A c MM W hL hc hcm).mono fun e w' hp => by
  obtain ⟨hb, hp⟩ := hp
  refine ⟨?_, hb⟩
  cases hr : blocksN n zs with
  | none => rw [hr] at hp; simp only [hr, Option.map_none]; exact hp
  | some p =>
    rw [hr] at hp
    obtain ⟨v, A2, c2, rfl, hk, _, _⟩ := hp
    obtain ⟨A1, c1, vs, rfl, h1, h2⟩ := hk
    simp only [hr, Option.map_some]
    exact ⟨A1, c1, A2, _, c2, rfl, A1, c1, vs, rfl, h1, h2⟩
theorem n_all : ∀ n, AllP n := by
  intro n
  induction n using Nat.strongRecOn with
  | ind n ih =>
    intro d hnd zs A c MM w hL hc hcm
    refine n_blocksC n d hnd zs A c MM w hL ?_
    intro hn0 i B W A9 c9 A10 c10 hi hb hB hLW ha
    match n, hn0, hnd, ih with
    | 0, hn0, hnd, ih =>
      exact absurd rfl hn0
    | 1, hn0, hnd, ih =>
      have hd : d = 15 := by omega
      subst hd
      rw [atN_one]
      have := n_at (fun l => (blocksN 0 l).map (·.1)) (fun _ => none) 15 (by omega) zs A c i B MM A9 c9 A10 c10 W (recP_of 0 16 rfl MM (ih 0 (by omega))) (fun h => absurd h (by omega)) hLW hi hb hc hcm hB ha
      exact this
    | n + 2, hn0, hnd, ih =>
      rw [atN_two]
      have e1 : decide (d + 1 ≤ 15) = true := decide_eq_true (by omega)
      have e2 : decide (d + 2 ≤ 15) = decide (1 ≤ n) := decide_eq_decide.2 (by omega)
      have := n_at (fun l => (blocksN (n + 1) l).map (·.1)) (fun l => (blocksN n l).map (·.1)) d (by omega) zs A c i B MM A9 c9 A10 c10 W (recP_of (n + 1) (d + 1) (by omega) MM (ih (n + 1) (by omega))) (fun _ => recP_of n (d + 2) (by omega) MM (ih n (by omega))) hLW hi hb hc hcm hB ha
      rw [e1, e2] at this
      exact this
end Go.Proofs.YtpoafhgbhnblmaaGreatDoor
namespace Go.Proofs.YtpoafhgbhnblmaaGreatDoor
open Go.RowKit Go.Pub
theorem n_parse (zs : List ByteArray) (A : Option Addr) (c : Nat) (MM : Int) (w : World) (hL : LinesAt w A zs MM) (hc : zs.length ≤ c) (hcm : c ≤ maxLen) :
    Calls Tryz.prog 22 #[.slice A zs.length c] w (BksPostC (blocksN 16 zs) w) := by
  have hlen := hL.len
  have HB : Hid (Calls Tryz.prog 30 #[.slice A zs.length c, .int .i64 0] w (BksPostC (blocksN 16 zs) w)) := Lib.hid (n_all 16 0 rfl zs A c MM w hL hc hcm)
  have d1 : decide (16384 < (zs.length : Int)) = false := decide_eq_false (by omega)
  have d2 : decide (16384 < zs.length) = false := decide_eq_false (by omega)
  obtain ⟨R, hR⟩ : ∃ R, R = blocksN 16 zs := ⟨_, rfl⟩
  rw [← hR] at HB ⊢
  clear hL hR
  go_enter Tryz.func22, Tryz.ntmps22
  go_wp2_with fail
  ((with_reducible refine (HB.out).mono ?_))
  rintro e w1 ⟨b1, hp⟩
  have HB1 := Lib.hid b1
  cases R with
  | none =>
    subst hp
    unfold bkErr
    go_wp2_with fail
    go_ret3
    exact ⟨HB1.out, rfl⟩
  | some p =>
    obtain ⟨v, A2, c2, rfl, hk, hr, A', c', hcv, hcc⟩ := hp
    have HK := Lib.hid hk
    have HR := Lib.hid hr
    obtain ⟨A1, c1, vs, rfl, _, _⟩ := hk
    have hcap : p.1.length ≤ c1 := by injection hcv with _ _ e; rw [e]; exact hcc
    clear hcv hcc
    clear hr
    go_wp2_with fail
    go_ret3
    exact ⟨HB1.out, _, _, _, rfl, HK.out, HR.out, _, _, rfl, hcap⟩
/-- The blocks, or the error. -/
def NsPPost (r : Option (List BkT × List (Nat × Nat))) (w : World) (e : Ending) (w' : World) : Prop :=
  Below w.heap.size w w' ∧ match r with
  | none => e = .returned (.tuple #[.slice none 0 0, .int .i64 11])
  | some p => ∃ A c, e = .returned (.tuple #[.slice A p.1.length c, .int .i64 0]) ∧ KidsV w' (Rg w.heap.size w') (.slice A p.1.length c) p.1 ∧ p.1.length ≤ c
/-- The ranges, or the error. -/
def NsRPost (r : Option (List BkT × List (Nat × Nat))) (w : World) (e : Ending) (w' : World) : Prop :=
  Below w.heap.size w w' ∧ match r with
  | none => e = .returned (.tuple #[.slice none 0 0, .int .i64 11])
  | some p => ∃ A c, e = .returned (.tuple #[.slice A p.2.length c, .int .i64 0]) ∧ ReadsS w' (Rg w.heap.size w') 2 A p.2.length (rngs p.2)
theorem n_Parse (zs : List ByteArray) (A : Option Addr) (c : Nat) (MM : Int) (w : World) (hL : LinesAt w A zs MM) (hc : zs.length ≤ c) (hcm : c ≤ maxLen) :
    Calls Tryz.prog 12 #[.slice A zs.length c] w (NsPPost (blocksN 16 zs) w) := by
  have HB := Lib.hid (n_parse zs A c MM w hL hc hcm)
  obtain ⟨R, hR⟩ : ∃ R, R = blocksN 16 zs := ⟨_, rfl⟩
  rw [← hR] at HB ⊢
  clear hL hR
  go_enter Tryz.func12, Tryz.ntmps12
  go_wp2_with fail
  ((with_reducible refine (HB.out).mono ?_))
  rintro e w1 ⟨b1, hp⟩
  have HB1 := Lib.hid b1
  cases R with
  | none =>
    subst hp
    unfold bkErr
    go_wp2_with fail
    go_ret2
    exact ⟨HB1.out, rfl⟩
  | some p =>
    obtain ⟨v, A2, c2, rfl, hk, hr, A', c', hcv, hcc⟩ := hp
    have HK := Lib.hid hk
    obtain ⟨A1, c1, vs, rfl, _, _⟩ := hk
    have hcap : p.1.length ≤ c1 := by injection hcv with _ _ e; rw [e]; exact hcc
    clear hcv hcc
    clear hr
    go_wp2_with fail
    go_ret2
    exact ⟨HB1.out, _, _, rfl, HK.out, hcap⟩
theorem n_Ranges (zs : List ByteArray) (A : Option Addr) (c : Nat) (MM : Int) (w : World) (hL : LinesAt w A zs MM) (hc : zs.length ≤ c) (hcm : c ≤ maxLen) :
    Calls Tryz.prog 15 #[.slice A zs.length c] w (NsRPost (blocksN 16 zs) w) := by
  have HB := Lib.hid (n_parse zs A c MM w hL hc hcm)
  obtain ⟨R, hR⟩ : ∃ R, R = blocksN 16 zs := ⟨_, rfl⟩
  rw [← hR] at HB ⊢
  clear hL hR
  go_enter Tryz.func15, Tryz.ntmps15
  go_wp2_with fail
  ((with_reducible refine (HB.out).mono ?_))
  rintro e w1 ⟨b1, hp⟩
  have HB1 := Lib.hid b1
  cases R with
  | none =>
    subst hp
    unfold bkErr
    go_wp2_with fail
    go_ret2
    exact ⟨HB1.out, rfl⟩
  | some p =>
    obtain ⟨v, A2, c2, rfl, hk, hr, A', c', hcv, hcc⟩ := hp
    have HR := Lib.hid hr
    obtain ⟨A1, c1, vs, rfl, _, _⟩ := hk
    have hcap : p.1.length ≤ c1 := by injection hcv with _ _ e; rw [e]; exact hcc
    clear hcv hcc
    clear hr
    go_wp2_with fail
    go_ret2
    exact ⟨HB1.out, _, _, rfl, HR.out⟩
end Go.Proofs.YtpoafhgbhnblmaaGreatDoor
namespace Go.Proofs.YtpoafhgbhnblmaaGreatDoor
open Go.RowKit Go.Pub
def kindT : BkT → Nat | .mk k _ _ _ _ _ _ _ _ => k
def kidsT : BkT → List BkT | .mk _ _ _ _ _ _ _ _ ks => ks
theorem RepB.look {w : World} {S : Nat → Prop} {v : Array Value} {b : BkT} (h : RepB w S v b) : v[0]? = some (.int .i64 (kindT b)) ∧ ∃ A c, v[10]? = some (.slice A (kidsT b).length c) ∧ KidsV w S (.slice A (kidsT b).length c) (kidsT b) := by
  cases h with
  | mk kind level info text dest title att line kids A1 A2 A4 c1 c2 c4 vL vs ha hl hr hc =>
    exact ⟨rfl, A4, c4, rfl, A4, c4, vs, rfl, hr, hc⟩
/-- A block among others, looked at. -/
theorem KidsV.look {w : World} {S : Nat → Prop} {A : Option Addr} {n c : Nat} {bs : List BkT} (h : KidsV w S (.slice A n c) bs) (hn : 0 < bs.length) : ∃ g off, A = some ⟨g, off, none⟩ ∧ n = bs.length ∧ ∀ k (hk : k < bs.length), w.cell? ⟨g, off + k * 11, none⟩ = some (.int .i64 (kindT bs[k])) ∧
    ∃ A' c', w.cell? ⟨g, off + (k * 11 + 10), none⟩ = some (.slice A' (kidsT bs[k]).length c') ∧ KidsV w S (.slice A' (kidsT bs[k]).length c') (kidsT bs[k]) := by
  obtain ⟨g, off, c0, e, _, hc⟩ := h.get hn
  injection e with e1 e2 _
  refine ⟨g, off, e1, e2, fun k hk => ?_⟩
  obtain ⟨vb, h1, h2⟩ := hc k hk
  obtain ⟨l1, A', c', l2, l3⟩ := h1.look
  exact ⟨(h2 0 (by omega)).trans l1, A', c', (h2 10 (by omega)).trans l2, l3⟩
theorem lines_lit (w : World) (zs : List ByteArray) (MM : Int) (hm : w.cell? ⟨0, 0, none⟩ = some (.int .i64 MM)) (hl : zs.length ≤ 10000) (hs : ∀ z ∈ zs, z.size ≤ 100000) : LinesAt (w.alloc (.cells (strs zs).toArray 9)) (some ⟨w.heap.size, 0, none⟩) zs MM :=
  ⟨(reads_block (heap_alloc_new w _)).more (by simp), hl, hs, (World.cell?_alloc_lt w _ _ (World.block_lt_of_cell? _ _ hm)).trans hm⟩
set_option maxRecDepth 100000 in
set_option maxHeartbeats 2000000 in
theorem l7_awake (MM : Int) (w : World) (hm : w.cell? ⟨0, 0, none⟩ = some (.int .i64 MM)) : Calls Tryz.prog 11 #[] w fun e w' => e = .returned (.bool true) ∧ Below w.heap.size w w' := by
  have hB1 := (Below.refl _ w).alloc (Nat.le_refl _) (.cells #[.string ⟨#[45, 32, 97]⟩, .string ⟨#[32, 32, 45, 32, 98]⟩] 9)
  have HP : Hid (Calls Tryz.prog 12 #[.slice (some ⟨w.heap.size, 0, none⟩) 2 2] (w.alloc (.cells #[.string ⟨#[45, 32, 97]⟩, .string ⟨#[32, 32, 45, 32, 98]⟩] 9)) (NsPPost (blocksN 16 exL1) (w.alloc (.cells #[.string ⟨#[45, 32, 97]⟩, .string ⟨#[32, 32, 45, 32, 98]⟩] 9)))) := Lib.hid (n_Parse exL1 _ 2 MM _ (lines_lit w exL1 MM hm (by decide) (by decide)) (by decide) (by decide))
  have HQ : Hid (∀ W : World, W.cell? ⟨0, 0, none⟩ = some (.int .i64 MM) → Calls Tryz.prog 15 #[.slice (some ⟨W.heap.size, 0, none⟩) 3 3] (W.alloc (.cells #[.string ⟨#[97]⟩, .string ⟨#[]⟩, .string ⟨#[35, 32, 84]⟩] 9)) (NsRPost (blocksN 16 exL2) (W.alloc (.cells #[.string ⟨#[97]⟩, .string ⟨#[]⟩, .string ⟨#[35, 32, 84]⟩] 9)))) := Lib.hid fun W h => n_Ranges exL2 _ 3 MM _ (lines_lit W exL2 MM h (by decide) (by decide)) (by decide) (by decide)
  rw [ex_b1] at HP
  have hp0 := World.block_lt_of_cell? _ _ hm
  have HB1 := Lib.hid hB1
  have HM := Lib.hid hm
  obtain ⟨p2, hp2⟩ : ∃ p, blocksN 16 exL2 = some p ∧ p.2 = [(0, 1), (2, 3)] := by
    obtain ⟨p, h1, h2⟩ := opt_map_some ex_b2
    exact ⟨p, h1, h2.symm⟩
  rw [hp2.1] at HQ
  unfold NsPPost at HP
  unfold NsRPost at HQ
  simp only [hp2.2] at HQ
  clear hB1 hm hp2
  go_enter Tryz.func11, Tryz.ntmps11
  go_wp2_with fail
  ((with_reducible refine (HP.out).mono ?_))
  rintro e w1 ⟨b1, A, c, rfl, hk, -⟩
  have HB2 := Lib.hid (HB1.out.trans (b1.mono (by simp)))
  have HK := Lib.hid hk
  have hm1 := Lib.hid ((HB2.out.cell (p := ⟨0, 0, none⟩) hp0).trans HM.out)
  clear b1 hk
  go_wp2_with fail
  ((with_reducible refine (HQ.out _ hm1.out).mono ?_))
  rintro e w2 ⟨b2, A2, c2, rfl, hr⟩
  have b2' : Below w1.heap.size w1 w2 := ((Below.refl _ w1).alloc (Nat.le_refl _) _).trans (b2.mono (by simp))
  have HB3 := Lib.hid (HB2.out.trans (b2'.mono HB2.out.size))
  have hk2 := HK.out.keep (S' := fun _ => True) (fun g hg => b2'.block g hg.2) (fun _ _ => trivial)
  obtain ⟨g1, o1, rfl, -, h1⟩ := hk2.look (by decide)
  obtain ⟨f1, A3, c3, f2, hk3⟩ := h1 0 (by decide)
  obtain ⟨g2, o2, rfl, -, h2⟩ := hk3.look (by decide)
  obtain ⟨f3, A4, c4, f4, hk4⟩ := h2 0 (by decide)
  obtain ⟨g3, o3, rfl, -, h3⟩ := hk4.look (by decide)
  obtain ⟨f5, A5, c5, f6, -⟩ := h3 0 (by decide)
  obtain ⟨f7, A6, c6, f8, -⟩ := h3 1 (by decide)
  obtain ⟨g4, o4, rfl, -, hc⟩ := hr.row (by decide) (by decide)
  have r0 := hc 0 _ rfl
  have r1 := hc 1 _ rfl
  have r2 := hc 2 _ rfl
  have r3 := hc 3 _ rfl
  have F1 : w2.cell? ⟨g1, o1, none⟩ = some (.int .i64 7) := f1
  have F2 : w2.cell? ⟨g1, o1 + 10, none⟩ = some (.slice (some ⟨g2, o2, none⟩) 1 c3) := f2
  have F4 : w2.cell? ⟨g2, o2 + 10, none⟩ = some (.slice (some ⟨g3, o3, none⟩) 2 c4) := f4
  have F5 : w2.cell? ⟨g3, o3, none⟩ = some (.int .i64 1) := f5
  have F7 : w2.cell? ⟨g3, o3 + 11, none⟩ = some (.int .i64 7) := f7
  have R0 : w2.cell? ⟨g4, o4, none⟩ = some (.int .i64 0) := r0
  have R1 : w2.cell? ⟨g4, o4 + 1, none⟩ = some (.int .i64 1) := r1
  have R2 : w2.cell? ⟨g4, o4 + 2, none⟩ = some (.int .i64 2) := r2
  have R3 : w2.cell? ⟨g4, o4 + 3, none⟩ = some (.int .i64 3) := r3
  clear hc hr h1 h2 h3 hk2 hk3 hk4 b2 b2' HP HQ HK f1 f2 f3 f4 f5 f6 f7 f8 r0 r1 r2 r3
  go_wp2_with fail
  go_ret
  exact ⟨rfl, HB3.out⟩

end Go.Proofs.YtpoafhgbhnblmaaGreatDoor
