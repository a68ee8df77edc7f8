/-
  Texts of the proof, put together (what this law reaches): NsVB, NsVC, NsVD, NsFC.
-/
import Derived.Test.YtpoafhgbhnblmaaGreatDoorD17
import Derived.Test.YtpoafhgbhnblmaaGreatDoorD18
import Derived.Test.YtpoafhgbhnblmaaGreatDoorD16
set_option linter.unusedVariables false
set_option linter.unusedSimpArgs false
namespace Go.Proofs.YtpoafhgbhnblmaaGreatDoor
open Go.RowKit Go.Pub
set_option maxRecDepth 100000 in
set_option maxHeartbeats 2000000 in
theorem n_at2 (d : Nat) (hd : d ≤ 15) (zs : List ByteArray) (A : Option Addr) (c i B : Nat) (MM : Int) (m : MkL) (A9 : Option Addr) (c9 : Nat) (A10 : Option Addr) (c10 : Nat) (w : World) (hL : LinesAt w A zs MM) (hi : i < zs.length) (hc : zs.length ≤ c) (hcm : c ≤ maxLen) (hB : B ≤ w.heap.size) (ha : AttR w (Rg B w) m.att A9 A10) (hk : m.kind = 2) :
    Calls Tryz.prog 39 #[.slice A zs.length c, .int .i64 i, .agg (m.cells (.slice A9 m.att.cl.length c9) (.slice A10 m.att.pr.length c10)), .int .i64 d] w (BkPost B (some (BkT.mk 2 m.n ⟨#[]⟩ ⟨#[]⟩ ⟨#[]⟩ ⟨#[]⟩ m.att m.rest [], i + 1)) w) := by
  have hlen := hL.len
  have HLi := Lib.hid hL
  have HA := Lib.hid ha
  have HS := Lib.hid (dw_start w (m.cells (.slice A9 m.att.cl.length c9) (.slice A10 m.att.pr.length c10)))
  obtain ⟨PR, hPR⟩ : ∃ PR, PR = some (BkT.mk 2 m.n ⟨#[]⟩ ⟨#[]⟩ ⟨#[]⟩ ⟨#[]⟩ m.att m.rest [], i + 1) := ⟨_, rfl⟩
  rw [← hPR]
  have HSr := Lib.hid fun W => n_source m.rest W
  have HPR := Lib.hid hPR
  have z2 : (((m.kind : Nat) : Int) == 2) = true := by rw [beq_iff_eq]; omega
  have HK := Lib.hid hk
  clear hL hk ha hPR
  unfold MkL.cells zbC at HS
  go_enter Tryz.func39, Tryz.ntmps39
  unfold MkL.cells
  go_upto_region 1 with fail
  generalize hW : (w.alloc _).alloc _ = W0
  have HD : Hid (DW w #[.int .i64 m.kind, .int .i64 m.n, .string m.ch, .int .i64 m.off, .string m.info, .string m.rest, .string m.dest, .string m.title, .string m.att.id, .slice A9 m.att.cl.length c9, .slice A10 m.att.pr.length c10] W0) := Lib.hid (by rw [← hW]; exact HS.out)
  clear hW HS
  have HL0 := Lib.hid (HLi.out.below HD.out.bel)
  have hw0 := HD.out.bel.size
  have hw1 := HD.out.res.lt
  obtain ⟨p0, p1, p2, p3, p4, p5, p6, p7, p8, p9, p10, x0, x1, x2, x3, x4, x5, x6, x7, x8, x9, x10⟩ := mk_facts HD.out.mrk
  clear x0 x1 x2 x3 x4 x5 x6 x7 x8 x9 x10
  have HS9 : Hid (∀ W, Below W0.heap.size W0 W → (W.cell? ⟨w.heap.size, 1, none⟩ = some (.int .i64 m.n) ∧ W.cell? ⟨w.heap.size, 5, none⟩ = some (.string m.rest) ∧ W.cell? ⟨w.heap.size, 8, none⟩ = some (.string m.att.id) ∧ W.cell? ⟨w.heap.size, 9, none⟩ = some (.slice A9 m.att.cl.length c9) ∧ W.cell? ⟨w.heap.size, 10, none⟩ = some (.slice A10 m.att.pr.length c10) ∧ w.heap.size + 1 < W.heap.size)) := Lib.hid fun W h => by
    obtain ⟨p0, p1, p2, p3, p4, p5, p6, p7, p8, p9, p10, x0⟩ := mk_facts (HD.out.mrk.below h (by omega))
    exact ⟨p1, p5, p8, p9, p10, Nat.lt_of_lt_of_le hw1 h.size⟩
  have HT11 : Hid (∀ W z0 z1 z2 z3 z4 z5 z6 z7 z8 z9 z10, Below W0.heap.size W0 W → ((((((((((((W.setCell ⟨w.heap.size + 1, 0, none⟩ z0).setCell ⟨w.heap.size + 1, 1, none⟩ z1).setCell ⟨w.heap.size + 1, 2, none⟩ z2).setCell ⟨w.heap.size + 1, 3, none⟩ z3).setCell ⟨w.heap.size + 1, 4, none⟩ z4).setCell ⟨w.heap.size + 1, 5, none⟩ z5).setCell ⟨w.heap.size + 1, 6, none⟩ z6).setCell ⟨w.heap.size + 1, 7, none⟩ z7).setCell ⟨w.heap.size + 1, 8, none⟩ z8).setCell ⟨w.heap.size + 1, 9, none⟩ z9).setCell ⟨w.heap.size + 1, 10, none⟩ z10).cell? ⟨w.heap.size, 1, none⟩ = some (.int .i64 m.n) ∧ (((((((((((W.setCell ⟨w.heap.size + 1, 0, none⟩ z0).setCell ⟨w.heap.size + 1, 1, none⟩ z1).setCell ⟨w.heap.size + 1, 2, none⟩ z2).setCell ⟨w.heap.size + 1, 3, none⟩ z3).setCell ⟨w.heap.size + 1, 4, none⟩ z4).setCell ⟨w.heap.size + 1, 5, none⟩ z5).setCell ⟨w.heap.size + 1, 6, none⟩ z6).setCell ⟨w.heap.size + 1, 7, none⟩ z7).setCell ⟨w.heap.size + 1, 8, none⟩ z8).setCell ⟨w.heap.size + 1, 9, none⟩ z9).setCell ⟨w.heap.size + 1, 10, none⟩ z10).cell? ⟨w.heap.size, 5, none⟩ = some (.string m.rest) ∧ (((((((((((W.setCell ⟨w.heap.size + 1, 0, none⟩ z0).setCell ⟨w.heap.size + 1, 1, none⟩ z1).setCell ⟨w.heap.size + 1, 2, none⟩ z2).setCell ⟨w.heap.size + 1, 3, none⟩ z3).setCell ⟨w.heap.size + 1, 4, none⟩ z4).setCell ⟨w.heap.size + 1, 5, none⟩ z5).setCell ⟨w.heap.size + 1, 6, none⟩ z6).setCell ⟨w.heap.size + 1, 7, none⟩ z7).setCell ⟨w.heap.size + 1, 8, none⟩ z8).setCell ⟨w.heap.size + 1, 9, none⟩ z9).setCell ⟨w.heap.size + 1, 10, none⟩ z10).cell? ⟨w.heap.size, 8, none⟩ = some (.string m.att.id) ∧ (((((((((((W.setCell ⟨w.heap.size + 1, 0, none⟩ z0).setCell ⟨w.heap.size + 1, 1, none⟩ z1).setCell ⟨w.heap.size + 1, 2, none⟩ z2).setCell ⟨w.heap.size + 1, 3, none⟩ z3).setCell ⟨w.heap.size + 1, 4, none⟩ z4).setCell ⟨w.heap.size + 1, 5, none⟩ z5).setCell ⟨w.heap.size + 1, 6, none⟩ z6).setCell ⟨w.heap.size + 1, 7, none⟩ z7).setCell ⟨w.heap.size + 1, 8, none⟩ z8).setCell ⟨w.heap.size + 1, 9, none⟩ z9).setCell ⟨w.heap.size + 1, 10, none⟩ z10).cell? ⟨w.heap.size, 9, none⟩ = some (.slice A9 m.att.cl.length c9) ∧ (((((((((((W.setCell ⟨w.heap.size + 1, 0, none⟩ z0).setCell ⟨w.heap.size + 1, 1, none⟩ z1).setCell ⟨w.heap.size + 1, 2, none⟩ z2).setCell ⟨w.heap.size + 1, 3, none⟩ z3).setCell ⟨w.heap.size + 1, 4, none⟩ z4).setCell ⟨w.heap.size + 1, 5, none⟩ z5).setCell ⟨w.heap.size + 1, 6, none⟩ z6).setCell ⟨w.heap.size + 1, 7, none⟩ z7).setCell ⟨w.heap.size + 1, 8, none⟩ z8).setCell ⟨w.heap.size + 1, 9, none⟩ z9).setCell ⟨w.heap.size + 1, 10, none⟩ z10).cell? ⟨w.heap.size, 10, none⟩ = some (.slice A10 m.att.pr.length c10) ∧ w.heap.size + 1 < (((((((((((W.setCell ⟨w.heap.size + 1, 0, none⟩ z0).setCell ⟨w.heap.size + 1, 1, none⟩ z1).setCell ⟨w.heap.size + 1, 2, none⟩ z2).setCell ⟨w.heap.size + 1, 3, none⟩ z3).setCell ⟨w.heap.size + 1, 4, none⟩ z4).setCell ⟨w.heap.size + 1, 5, none⟩ z5).setCell ⟨w.heap.size + 1, 6, none⟩ z6).setCell ⟨w.heap.size + 1, 7, none⟩ z7).setCell ⟨w.heap.size + 1, 8, none⟩ z8).setCell ⟨w.heap.size + 1, 9, none⟩ z9).setCell ⟨w.heap.size + 1, 10, none⟩ z10).heap.size)) := Lib.hid fun W z0 z1 z2 z3 z4 z5 z6 z7 z8 z9 z10 h => by
    obtain ⟨p0, p1, p2, p3, p4, p5, p6, p7, p8, p9, p10, x0⟩ := mk_facts (Blk.grown (HD.out.mrk.below h (by omega)) (grown11 W (w.heap.size + 1) z0 z1 z2 z3 z4 z5 z6 z7 z8 z9 z10) (by simp))
    exact ⟨p1, p5, p8, p9, p10, Nat.lt_of_lt_of_le (Nat.lt_of_lt_of_le hw1 h.size) (grown11 W (w.heap.size + 1) z0 z1 z2 z3 z4 z5 z6 z7 z8 z9 z10).size⟩
  have HBr : Hid (Below W0.heap.size W0 W0) := Lib.hid (Below.refl _ _)
  have hw2 : IntKind.i64.wrap ((i : Int) + 1) = (i : Int) + 1 := IntWalk.i64_in _ (by omega)
  clear p1 p2 p3 p4 p5 p6 p7 p8 p9 p10
  have s0 := HS9.out _ HBr.out
  obtain ⟨p1, p5, p8, p9, p10, _⟩ := s0
  go_wp2_with fail
  refine wp_region_held_drew (S := fun W' => W'.cell? ⟨w.heap.size, 1, none⟩ = some (.int .i64 m.n) ∧ W'.cell? ⟨w.heap.size, 5, none⟩ = some (.string m.rest) ∧ W'.cell? ⟨w.heap.size, 8, none⟩ = some (.string m.att.id) ∧ W'.cell? ⟨w.heap.size, 9, none⟩ = some (.slice A9 m.att.cl.length c9) ∧ W'.cell? ⟨w.heap.size, 10, none⟩ = some (.slice A10 m.att.pr.length c10) ∧ w.heap.size + 1 < W'.heap.size) (by kernel_rfl) (HS9.out _ HBr.out.drew) (fun hHeld => ?_)
  refine wpAnyH_take (i := 0) (v := .pointer (some ⟨w.heap.size, 1, none⟩)) rfl (by kernel_rfl) (by kernel_rfl) (by kernel_rfl) (fun _ _ _ h => h) (Or.inl ⟨by kernel_rfl, fun W' hSw => ?_⟩) hHeld ?_
  · obtain ⟨h0, h1, h2, h3, h4, h5⟩ := hSw
    go_simp
  try simp only [Act.put, List.setIfInBounds_toArray, List.set_cons_zero, List.set_cons_succ]
  refine wpAnyH_take (i := 1) (v := .int .i64 m.n) rfl (by kernel_rfl) (by kernel_rfl) (by kernel_rfl) (fun _ _ _ h => h) (Or.inl ⟨by kernel_rfl, fun W' hSw => ?_⟩) hHeld ?_
  · obtain ⟨h0, h1, h2, h3, h4, h5⟩ := hSw
    go_simp
  try simp only [Act.put, List.setIfInBounds_toArray, List.set_cons_zero, List.set_cons_succ]
  refine wpAnyH_take (i := 2) (v := .pointer (some ⟨w.heap.size, 5, none⟩)) rfl (by kernel_rfl) (by kernel_rfl) (by kernel_rfl) (fun _ _ _ h => h) (Or.inl ⟨by kernel_rfl, fun W' hSw => ?_⟩) hHeld ?_
  · obtain ⟨h0, h1, h2, h3, h4, h5⟩ := hSw
    go_simp
  try simp only [Act.put, List.setIfInBounds_toArray, List.set_cons_zero, List.set_cons_succ]
  refine wpAnyH_take (i := 3) (v := .string m.rest) rfl (by kernel_rfl) (by kernel_rfl) (by kernel_rfl) (fun _ _ _ h => h) (Or.inl ⟨by kernel_rfl, fun W' hSw => ?_⟩) hHeld ?_
  · obtain ⟨h0, h1, h2, h3, h4, h5⟩ := hSw
    go_simp
  try simp only [Act.put, List.setIfInBounds_toArray, List.set_cons_zero, List.set_cons_succ]
  refine wpAnyH_take (i := 5) (v := .pointer (some ⟨w.heap.size, 8, none⟩)) rfl (by kernel_rfl) (by kernel_rfl) (by kernel_rfl) (fun _ _ _ h => h) (Or.inl ⟨by kernel_rfl, fun W' hSw => ?_⟩) hHeld ?_
  · obtain ⟨h0, h1, h2, h3, h4, h5⟩ := hSw
    go_simp
  try simp only [Act.put, List.setIfInBounds_toArray, List.set_cons_zero, List.set_cons_succ]
  refine wpAnyH_take (i := 6) (v := .agg #[.string m.att.id, .slice A9 m.att.cl.length c9, .slice A10 m.att.pr.length c10]) rfl (by kernel_rfl) (by kernel_rfl) (by kernel_rfl) (fun _ _ _ h => h) (Or.inl ⟨by kernel_rfl, fun W' hSw => ?_⟩) hHeld ?_
  · obtain ⟨h0, h1, h2, h3, h4, h5⟩ := hSw
    go_simp
  try simp only [Act.put, List.setIfInBounds_toArray, List.set_cons_zero, List.set_cons_succ]
  refine wpAnyH_take (i := 8) (v := .int .i64 i) rfl (by kernel_rfl) (by kernel_rfl) (by kernel_rfl) (fun _ _ _ h => h) (Or.inl ⟨by kernel_rfl, fun W' hSw => ?_⟩) hHeld ?_
  · obtain ⟨h0, h1, h2, h3, h4, h5⟩ := hSw
    go_simp
  try simp only [Act.put, List.setIfInBounds_toArray, List.set_cons_zero, List.set_cons_succ]
  refine wpAnyH_take (i := 9) (v := .int .i64 ((i : Int) + 1)) rfl (by kernel_rfl) (by kernel_rfl) (by kernel_rfl) (fun _ _ _ h => h) (Or.inl ⟨by kernel_rfl, fun W' hSw => ?_⟩) hHeld ?_
  · obtain ⟨h0, h1, h2, h3, h4, h5⟩ := hSw
    go_simp
  try simp only [Act.put, List.setIfInBounds_toArray, List.set_cons_zero, List.set_cons_succ]
  refine wpAnyH_ready (rs := [4]) (by kernel_rfl) (by simp) (AllReadyH.cons rfl (fun K hK => ?_) AllReadyH.nil)
  go_simp
  ((with_reducible refine (HSr.out _).mono ?_))
  rintro e w9 ⟨v, rfl, hsrc, b8⟩
  have b9 : Below W0.heap.size W0 w9 := HBr.out.drew.trans b8
  obtain ⟨Av, nv, cv, rfl⟩ := srcV_form hsrc
  have HD9 := Lib.hid (HD.out.next b9)
  have hz9 : w.heap.size + 1 < w9.heap.size := HD9.out.res.lt
  obtain ⟨q0, q1, q2, q3, q4, q5, q6, q7, q8, q9, q10, r0, r1, r2, r3, r4, r5, r6, r7, r8, r9, r10⟩ := ZB.facts HD9.out.res
  go_simp
  refine hK.out _ _ (HS9.out _ b9) (fun hHeld => ?_)
  clear hK K
  try simp only [Act.put, List.setIfInBounds_toArray, List.set_cons_zero, List.set_cons_succ]
  refine wpAnyH_ready (rs := [7]) (by kernel_rfl) (by simp) (AllReadyH.cons rfl (fun K hK => ?_) AllReadyH.nil)
  go_simp
  refine hK.out _ _ (hHeld) (fun hHeld => ?_)
  clear hK K
  try simp only [Act.put, List.setIfInBounds_toArray, List.set_cons_zero, List.set_cons_succ]
  refine wpAnyH_ready (rs := [10]) (by kernel_rfl) (by simp) (AllReadyH.cons rfl (fun K hK => ?_) AllReadyH.nil)
  go_simp
  refine hK.out _ _ (HT11.out _ _ _ _ _ _ _ _ _ _ _ _ b9) (fun hHeld => ?_)
  clear hK K
  try simp only [Act.put, List.setIfInBounds_toArray, List.set_cons_zero, List.set_cons_succ]
  refine wpAnyH_ready (rs := [11]) (by kernel_rfl) (by simp) (AllReadyH.cons rfl (fun K hK => ?_) AllReadyH.nil)
  go_simp
  refine hK.out _ _ (hHeld) (fun hHeld => ?_)
  clear hK K
  try simp only [Act.put, List.setIfInBounds_toArray, List.set_cons_zero, List.set_cons_succ]
  refine wpAnyH_ready (rs := [12]) (by kernel_rfl) (by simp) (AllReadyH.cons rfl (fun K hK => ?_) AllReadyH.nil)
  go_simp
  refine hK.out _ _ (hHeld) (fun hHeld => ?_)
  clear hK K
  try simp only [Act.put, List.setIfInBounds_toArray, List.set_cons_zero, List.set_cons_succ]
  refine wpAnyH_done (by kernel_rfl) ?_ _
  go_wp2_with fail
  rw [HPR.out]
  exact blockAt_ret (blk11 HD9.out.res _ _ _ _ _ _ _ _ _ _ _) rfl rfl rfl rfl (bk_some rfl (repB_mk (att := m.att) (HA.out.far (below11 HD9.out.bel (Nat.le_succ _) _ _ _ _ _ _ _ _ _ _ _) (Nat.le_refl _)) (srcV_far (B := W0.heap.size) hsrc (grown11 _ _ _ _ _ _ _ _ _ _ _ _ _) hw1 (by omega)) (KidsV.none_ _ _)) (below11 HD9.out.bel (Nat.le_succ _) _ _ _ _ _ _ _ _ _ _ _))

end Go.Proofs.YtpoafhgbhnblmaaGreatDoor
namespace Go.Proofs.YtpoafhgbhnblmaaGreatDoor
open Go.RowKit Go.Pub
set_option maxRecDepth 100000 in
set_option maxHeartbeats 2000000 in
theorem n_at8 (d : Nat) (hd : d ≤ 15) (zs : List ByteArray) (A : Option Addr) (c i B : Nat) (MM : Int) (m : MkL) (A9 : Option Addr) (c9 : Nat) (A10 : Option Addr) (c10 : Nat) (w : World) (hL : LinesAt w A zs MM) (hi : i < zs.length) (hc : zs.length ≤ c) (hcm : c ≤ maxLen) (hB : B ≤ w.heap.size) (ha : AttR w (Rg B w) m.att A9 A10) (hk : m.kind = 8) :
    Calls Tryz.prog 39 #[.slice A zs.length c, .int .i64 i, .agg (m.cells (.slice A9 m.att.cl.length c9) (.slice A10 m.att.pr.length c10)), .int .i64 d] w (BkPost B (some (BkT.mk 4 0 ⟨#[]⟩ (mk (joinN (cutL zs (i + 1) (closeI zs m (i + 1))))) ⟨#[]⟩ ⟨#[]⟩ (closeA zs m (i + 1)) ⟨#[]⟩ [], min (closeI zs m (i + 1) + 1) zs.length)) w) := by
  have hlen := hL.len
  have HLi := Lib.hid hL
  have HA := Lib.hid ha
  have HS := Lib.hid (dw_start w (m.cells (.slice A9 m.att.cl.length c9) (.slice A10 m.att.pr.length c10)))
  obtain ⟨PR, hPR⟩ : ∃ PR, PR = some (BkT.mk 4 0 ⟨#[]⟩ (mk (joinN (cutL zs (i + 1) (closeI zs m (i + 1))))) ⟨#[]⟩ ⟨#[]⟩ (closeA zs m (i + 1)) ⟨#[]⟩ [], min (closeI zs m (i + 1) + 1) zs.length) := ⟨_, rfl⟩
  rw [← hPR]
  have hbd := closeI_bd zs m i hi
  have HC := Lib.hid fun W (h : LinesAt W A zs MM) => n_closing zs A c i MM m A9 m.att.cl.length c9 A10 m.att.pr.length c10 W h hi
  have HBet := Lib.hid fun W (h : LinesAt W A zs MM) => n_between zs A c i (closeI zs m (i + 1)) MM W h hbd.1 hbd.2 hc hcm
  generalize closeA zs m (i + 1) = a at *
  generalize closeI zs m (i + 1) = t at *
  generalize mk (joinN (cutL zs (i + 1) t)) = J at *
  unfold ClsPost MkL.cells at HC
  have HMn : ∀ w : World, (Builtin.min_ #[3, 3] 3 #[.int .i64 ((t : Int) + 1), .int .i64 zs.length]).run Tryz.prog w = .ok (.int .i64 ((min (t + 1) zs.length : Nat) : Int)) w := fun w => by
    rw [run_min_int2]
    congr 2
    split <;> omega
  have HPR := Lib.hid hPR
  have z2 : (((m.kind : Nat) : Int) == 2) = false := by rw [beq_eq_false_iff_ne]; omega
  have z3 : (((m.kind : Nat) : Int) == 3) = false := by rw [beq_eq_false_iff_ne]; omega
  have z11 : (((m.kind : Nat) : Int) == 11) = false := by rw [beq_eq_false_iff_ne]; omega
  have z4 : (((m.kind : Nat) : Int) == 4) = false := by rw [beq_eq_false_iff_ne]; omega
  have z7 : (((m.kind : Nat) : Int) == 7) = false := by rw [beq_eq_false_iff_ne]; omega
  have z8 : (((m.kind : Nat) : Int) == 8) = true := by rw [beq_iff_eq]; omega
  have HK := Lib.hid hk
  clear hL hk ha hPR
  unfold MkL.cells zbC at HS
  go_enter Tryz.func39, Tryz.ntmps39
  unfold MkL.cells
  go_upto_region 1 with fail
  generalize hW : (w.alloc _).alloc _ = W0
  have HD : Hid (DW w #[.int .i64 m.kind, .int .i64 m.n, .string m.ch, .int .i64 m.off, .string m.info, .string m.rest, .string m.dest, .string m.title, .string m.att.id, .slice A9 m.att.cl.length c9, .slice A10 m.att.pr.length c10] W0) := Lib.hid (by rw [← hW]; exact HS.out)
  clear hW HS
  have HL0 := Lib.hid (HLi.out.below HD.out.bel)
  have hw0 := HD.out.bel.size
  have hw1 := HD.out.res.lt
  obtain ⟨p0, p1, p2, p3, p4, p5, p6, p7, p8, p9, p10, x0, x1, x2, x3, x4, x5, x6, x7, x8, x9, x10⟩ := mk_facts HD.out.mrk
  clear x0 x1 x2 x3 x4 x5 x6 x7 x8 x9 x10
  go_wp2_with fail
  ((with_reducible refine (HC.out _ HL0.out).mono ?_))
  rintro e w1 ⟨⟨vC, vP, rfl, ho⟩, b1⟩
  obtain ⟨A1, c1, rfl⟩ := own_slice ho.cls
  obtain ⟨A2, c2, rfl⟩ := own_slice ho.prs
  have HD1 := Lib.hid (HD.out.next b1)
  have hz1 := b1.size
  obtain ⟨_, _, _, _, e1, e2, hat⟩ := AttR.of_own ho
  injection e1 with e1a _ e1b
  injection e2 with e2a _ e2b
  subst e1a e1b e2a e2b
  have HAT := Lib.hid hat
  clear ho b1 HC hat p0 p1 p2 p3 p4 p5 p6 p7 p8 p9 p10
  go_upto_region 14 with fail
  generalize hW2 : w1.alloc _ = W2
  obtain ⟨g12, hg12⟩ : ∃ g, g = w1.heap.size := ⟨_, rfl⟩
  have HBk : Hid (Blk W2 g12 43 #[.string a.id, .slice A1 a.cl.length c1, .slice A2 a.pr.length c2]) := Lib.hid (by rw [← hW2, hg12]; exact Blk.new w1 _ _)
  have HD2 : Hid (DW w #[.int .i64 m.kind, .int .i64 m.n, .string m.ch, .int .i64 m.off, .string m.info, .string m.rest, .string m.dest, .string m.title, .string m.att.id, .slice A9 m.att.cl.length c9, .slice A10 m.att.pr.length c10] W2) := Lib.hid (by rw [← hW2]; exact HD1.out.next ((Below.refl _ _).alloc (Nat.le_refl _) _))
  have HAT2 : Hid (AttR W2 (Rg W0.heap.size W2) a A1 A2) := Lib.hid (by rw [← hW2]; exact HAT.out.below ((Below.refl _ _).alloc (Nat.le_refl _) _))
  have hgw : w.heap.size + 1 < g12 := by omega
  have hz2 : W0.heap.size ≤ W2.heap.size := by rw [← hW2]; simp; omega
  rw [← hg12]
  clear hW2 hg12 HAT HD1 hz1
  have hgl := HBk.out.lt
  have HBr : Hid (Below W2.heap.size W2 W2) := Lib.hid (Below.refl _ _)
  have HS9 : Hid (∀ W, Below W2.heap.size W2 W → (W.cell? ⟨g12, 0, none⟩ = some (.string a.id) ∧ W.cell? ⟨g12, 1, none⟩ = some (.slice A1 a.cl.length c1) ∧ W.cell? ⟨g12, 2, none⟩ = some (.slice A2 a.pr.length c2) ∧ w.heap.size + 1 < W.heap.size)) := Lib.hid fun W h => by
    obtain ⟨q0, q1, q2, _⟩ := at_facts (HBk.out.below h hgl)
    exact ⟨q0, q1, q2, by have := h.size; omega⟩
  have HT11 : Hid (∀ W z0 z1 z2 z3 z4 z5 z6 z7 z8 z9 z10, Below W2.heap.size W2 W → ((((((((((((W.setCell ⟨w.heap.size + 1, 0, none⟩ z0).setCell ⟨w.heap.size + 1, 1, none⟩ z1).setCell ⟨w.heap.size + 1, 2, none⟩ z2).setCell ⟨w.heap.size + 1, 3, none⟩ z3).setCell ⟨w.heap.size + 1, 4, none⟩ z4).setCell ⟨w.heap.size + 1, 5, none⟩ z5).setCell ⟨w.heap.size + 1, 6, none⟩ z6).setCell ⟨w.heap.size + 1, 7, none⟩ z7).setCell ⟨w.heap.size + 1, 8, none⟩ z8).setCell ⟨w.heap.size + 1, 9, none⟩ z9).setCell ⟨w.heap.size + 1, 10, none⟩ z10).cell? ⟨g12, 0, none⟩ = some (.string a.id) ∧ (((((((((((W.setCell ⟨w.heap.size + 1, 0, none⟩ z0).setCell ⟨w.heap.size + 1, 1, none⟩ z1).setCell ⟨w.heap.size + 1, 2, none⟩ z2).setCell ⟨w.heap.size + 1, 3, none⟩ z3).setCell ⟨w.heap.size + 1, 4, none⟩ z4).setCell ⟨w.heap.size + 1, 5, none⟩ z5).setCell ⟨w.heap.size + 1, 6, none⟩ z6).setCell ⟨w.heap.size + 1, 7, none⟩ z7).setCell ⟨w.heap.size + 1, 8, none⟩ z8).setCell ⟨w.heap.size + 1, 9, none⟩ z9).setCell ⟨w.heap.size + 1, 10, none⟩ z10).cell? ⟨g12, 1, none⟩ = some (.slice A1 a.cl.length c1) ∧ (((((((((((W.setCell ⟨w.heap.size + 1, 0, none⟩ z0).setCell ⟨w.heap.size + 1, 1, none⟩ z1).setCell ⟨w.heap.size + 1, 2, none⟩ z2).setCell ⟨w.heap.size + 1, 3, none⟩ z3).setCell ⟨w.heap.size + 1, 4, none⟩ z4).setCell ⟨w.heap.size + 1, 5, none⟩ z5).setCell ⟨w.heap.size + 1, 6, none⟩ z6).setCell ⟨w.heap.size + 1, 7, none⟩ z7).setCell ⟨w.heap.size + 1, 8, none⟩ z8).setCell ⟨w.heap.size + 1, 9, none⟩ z9).setCell ⟨w.heap.size + 1, 10, none⟩ z10).cell? ⟨g12, 2, none⟩ = some (.slice A2 a.pr.length c2) ∧ w.heap.size + 1 < (((((((((((W.setCell ⟨w.heap.size + 1, 0, none⟩ z0).setCell ⟨w.heap.size + 1, 1, none⟩ z1).setCell ⟨w.heap.size + 1, 2, none⟩ z2).setCell ⟨w.heap.size + 1, 3, none⟩ z3).setCell ⟨w.heap.size + 1, 4, none⟩ z4).setCell ⟨w.heap.size + 1, 5, none⟩ z5).setCell ⟨w.heap.size + 1, 6, none⟩ z6).setCell ⟨w.heap.size + 1, 7, none⟩ z7).setCell ⟨w.heap.size + 1, 8, none⟩ z8).setCell ⟨w.heap.size + 1, 9, none⟩ z9).setCell ⟨w.heap.size + 1, 10, none⟩ z10).heap.size)) := Lib.hid fun W z0 z1 z2 z3 z4 z5 z6 z7 z8 z9 z10 h => by
    obtain ⟨q0, q1, q2, _⟩ := at_facts (Blk.grown (HBk.out.below h hgl) (grown11 W (w.heap.size + 1) z0 z1 z2 z3 z4 z5 z6 z7 z8 z9 z10) (by simp; omega))
    exact ⟨q0, q1, q2, Nat.lt_of_lt_of_le (by have := h.size; omega) (grown11 W (w.heap.size + 1) z0 z1 z2 z3 z4 z5 z6 z7 z8 z9 z10).size⟩
  have hw2 : IntKind.i64.wrap ((t : Int) + 1) = (t : Int) + 1 := IntWalk.i64_in _ (by omega)
  have HBt := Lib.hid (HBet.out W2 (HLi.out.below HD2.out.bel))
  have HBt2 : Hid (∀ W, Below W2.heap.size W2 W → Calls Tryz.prog 73 #[.slice A zs.length c, .int .i64 i, .int .i64 t] W fun e w' => e = .returned (.string J) ∧ Below W.heap.size W w') := Lib.hid fun W h => HBet.out W (HLi.out.below (HD2.out.bel.trans (h.mono HD2.out.bel.size)))
  obtain ⟨s0, s1, s2, _⟩ := HS9.out _ HBr.out
  go_wp2_with fail
  refine wp_region_held_drew (S := fun W' => W'.cell? ⟨g12, 0, none⟩ = some (.string a.id) ∧ W'.cell? ⟨g12, 1, none⟩ = some (.slice A1 a.cl.length c1) ∧ W'.cell? ⟨g12, 2, none⟩ = some (.slice A2 a.pr.length c2) ∧ w.heap.size + 1 < W'.heap.size) (by kernel_rfl) (HS9.out _ HBr.out.drew) (fun hHeld => ?_)
  refine wpAnyH_take (i := 0) (v := .slice A zs.length c) rfl (by kernel_rfl) (by kernel_rfl) (by kernel_rfl) (fun _ _ _ h => h) (Or.inl ⟨by kernel_rfl, fun W' hSw => ?_⟩) hHeld ?_
  · obtain ⟨h0, h1, h2, h3⟩ := hSw
    go_simp
  try simp only [Act.put, List.setIfInBounds_toArray, List.set_cons_zero, List.set_cons_succ]
  refine wpAnyH_take (i := 1) (v := .int .i64 i) rfl (by kernel_rfl) (by kernel_rfl) (by kernel_rfl) (fun _ _ _ h => h) (Or.inl ⟨by kernel_rfl, fun W' hSw => ?_⟩) hHeld ?_
  · obtain ⟨h0, h1, h2, h3⟩ := hSw
    go_simp
  try simp only [Act.put, List.setIfInBounds_toArray, List.set_cons_zero, List.set_cons_succ]
  refine wpAnyH_take (i := 2) (v := .int .i64 t) rfl (by kernel_rfl) (by kernel_rfl) (by kernel_rfl) (fun _ _ _ h => h) (Or.inl ⟨by kernel_rfl, fun W' hSw => ?_⟩) hHeld ?_
  · obtain ⟨h0, h1, h2, h3⟩ := hSw
    go_simp
  try simp only [Act.put, List.setIfInBounds_toArray, List.set_cons_zero, List.set_cons_succ]
  refine wpAnyH_take (i := 4) (v := .agg #[.string a.id, .slice A1 a.cl.length c1, .slice A2 a.pr.length c2]) rfl (by kernel_rfl) (by kernel_rfl) (by kernel_rfl) (fun _ _ _ h => h) (Or.inl ⟨by kernel_rfl, fun W' hSw => ?_⟩) hHeld ?_
  · obtain ⟨h0, h1, h2, h3⟩ := hSw
    go_simp
  try simp only [Act.put, List.setIfInBounds_toArray, List.set_cons_zero, List.set_cons_succ]
  refine wpAnyH_take (i := 6) (v := .int .i64 t) rfl (by kernel_rfl) (by kernel_rfl) (by kernel_rfl) (fun _ _ _ h => h) (Or.inl ⟨by kernel_rfl, fun W' hSw => ?_⟩) hHeld ?_
  · obtain ⟨h0, h1, h2, h3⟩ := hSw
    go_simp
  try simp only [Act.put, List.setIfInBounds_toArray, List.set_cons_zero, List.set_cons_succ]
  refine wpAnyH_take (i := 7) (v := .int .i64 ((t : Int) + 1)) rfl (by kernel_rfl) (by kernel_rfl) (by kernel_rfl) (fun _ _ _ h => h) (Or.inl ⟨by kernel_rfl, fun W' hSw => ?_⟩) hHeld ?_
  · obtain ⟨h0, h1, h2, h3⟩ := hSw
    go_simp
  try simp only [Act.put, List.setIfInBounds_toArray, List.set_cons_zero, List.set_cons_succ]
  refine wpAnyH_take (i := 8) (v := .slice A zs.length c) rfl (by kernel_rfl) (by kernel_rfl) (by kernel_rfl) (fun _ _ _ h => h) (Or.inl ⟨by kernel_rfl, fun W' hSw => ?_⟩) hHeld ?_
  · obtain ⟨h0, h1, h2, h3⟩ := hSw
    go_simp
  try simp only [Act.put, List.setIfInBounds_toArray, List.set_cons_zero, List.set_cons_succ]
  refine wpAnyH_take (i := 9) (v := .int .i64 zs.length) rfl (by kernel_rfl) (by kernel_rfl) (by kernel_rfl) (fun _ _ _ h => h) (Or.inl ⟨by kernel_rfl, fun W' hSw => ?_⟩) hHeld ?_
  · obtain ⟨h0, h1, h2, h3⟩ := hSw
    go_simp
  try simp only [Act.put, List.setIfInBounds_toArray, List.set_cons_zero, List.set_cons_succ]
  refine wpAnyH_take (i := 10) (v := .int .i64 ((min (t + 1) zs.length : Nat) : Int)) rfl (by kernel_rfl) (by kernel_rfl) (by kernel_rfl) (fun _ _ _ h => h) (Or.inl ⟨by kernel_rfl, fun W' hSw => ?_⟩) hHeld ?_
  · obtain ⟨h0, h1, h2, h3⟩ := hSw
    go_simp
  try simp only [Act.put, List.setIfInBounds_toArray, List.set_cons_zero, List.set_cons_succ]
  refine wpAnyH_ready (rs := [3]) (by kernel_rfl) (by simp) (AllReadyH.cons rfl (fun K hK => ?_) AllReadyH.nil)
  go_simp
  ((with_reducible refine (HBt2.out _ HBr.out.drew).mono ?_))
  rintro e w9 ⟨rfl, b8⟩
  have b9 : Below W2.heap.size W2 w9 := HBr.out.drew.trans b8
  have HD9 := Lib.hid (HD2.out.next b9)
  have hz9 : w.heap.size + 1 < w9.heap.size := HD9.out.res.lt
  obtain ⟨q0, q1, q2, q3, q4, q5, q6, q7, q8, q9, q10, r0, r1, r2, r3, r4, r5, r6, r7, r8, r9, r10⟩ := ZB.facts HD9.out.res
  go_simp
  refine hK.out _ _ (HS9.out _ b9) (fun hHeld => ?_)
  clear hK K
  try simp only [Act.put, List.setIfInBounds_toArray, List.set_cons_zero, List.set_cons_succ]
  refine wpAnyH_ready (rs := [5]) (by kernel_rfl) (by simp) (AllReadyH.cons rfl (fun K hK => ?_) AllReadyH.nil)
  go_simp
  refine hK.out _ _ (hHeld) (fun hHeld => ?_)
  clear hK K
  try simp only [Act.put, List.setIfInBounds_toArray, List.set_cons_zero, List.set_cons_succ]
  refine wpAnyH_ready (rs := [11]) (by kernel_rfl) (by simp) (AllReadyH.cons rfl (fun K hK => ?_) AllReadyH.nil)
  go_simp
  refine hK.out _ _ (HT11.out _ _ _ _ _ _ _ _ _ _ _ _ b9) (fun hHeld => ?_)
  clear hK K
  try simp only [Act.put, List.setIfInBounds_toArray, List.set_cons_zero, List.set_cons_succ]
  refine wpAnyH_ready (rs := [12]) (by kernel_rfl) (by simp) (AllReadyH.cons rfl (fun K hK => ?_) AllReadyH.nil)
  go_simp
  refine hK.out _ _ (hHeld) (fun hHeld => ?_)
  clear hK K
  try simp only [Act.put, List.setIfInBounds_toArray, List.set_cons_zero, List.set_cons_succ]
  refine wpAnyH_ready (rs := [13]) (by kernel_rfl) (by simp) (AllReadyH.cons rfl (fun K hK => ?_) AllReadyH.nil)
  go_simp
  refine hK.out _ _ (hHeld) (fun hHeld => ?_)
  clear hK K
  try simp only [Act.put, List.setIfInBounds_toArray, List.set_cons_zero, List.set_cons_succ]
  refine wpAnyH_done (by kernel_rfl) ?_ _
  go_wp2_with fail
  rw [HPR.out]
  exact blockAt_ret (blk11 HD9.out.res _ _ _ _ _ _ _ _ _ _ _) rfl rfl rfl rfl (bk_some rfl (repB_mk (att := a) ((HAT2.out.below b9).keep (fun x hx => (grown11 _ (w.heap.size + 1) _ _ _ _ _ _ _ _ _ _ _).block x hx.2 (fun e => by injection e with e; have := hx.1; omega)) (fun x hx => ⟨by have := hx.1; omega, Nat.lt_of_lt_of_le hx.2 (grown11 _ (w.heap.size + 1) _ _ _ _ _ _ _ _ _ _ _).size⟩)) (srcV_none _ _) (KidsV.none_ _ _)) (below11 HD9.out.bel (Nat.le_succ _) _ _ _ _ _ _ _ _ _ _ _))

end Go.Proofs.YtpoafhgbhnblmaaGreatDoor
namespace Go.Proofs.YtpoafhgbhnblmaaGreatDoor
open Go.RowKit Go.Pub
set_option maxRecDepth 100000 in
set_option maxHeartbeats 2000000 in
theorem n_atT (d : Nat) (hd : d ≤ 15) (zs : List ByteArray) (A : Option Addr) (c i B : Nat) (MM : Int) (m : MkL) (A9 : Option Addr) (c9 : Nat) (A10 : Option Addr) (c10 : Nat) (w : World) (hL : LinesAt w A zs MM) (hi : i < zs.length) (hc : zs.length ≤ c) (hcm : c ≤ maxLen) (hB : B ≤ w.heap.size) (ha : AttR w (Rg B w) m.att A9 A10) (hk : m.kind = 0) (hh : headAt zs i = true) :
    Calls Tryz.prog 39 #[.slice A zs.length c, .int .i64 i, .agg (m.cells (.slice A9 m.att.cl.length c9) (.slice A10 m.att.pr.length c10)), .int .i64 d] w (BkPost B (if decide (d + 2 ≤ 15) = true then some (tableB zs i ((alignR (bytesL (ln zs (i + 1)))).getD []), tableTo zs i) else none) w) := by
  have hlen := hL.len
  have HLi := Lib.hid hL
  have HA := Lib.hid ha
  have HS := Lib.hid (dw_start w (m.cells (.slice A9 m.att.cl.length c9) (.slice A10 m.att.pr.length c10)))
  obtain ⟨PR, hPR⟩ : ∃ PR, PR = if decide (d + 2 ≤ 15) = true then some (tableB zs i ((alignR (bytesL (ln zs (i + 1)))).getD []), tableTo zs i) else none := ⟨_, rfl⟩
  rw [← hPR]
  have hz : ∀ j, (ln zs j).size ≤ 1000000 := fun j => Nat.le_trans (ln_size hL.sz j) (by decide)
  have HHD : Hid (∀ W, W.cell? ⟨0, 0, none⟩ = some (.int .i64 MM) → Calls Tryz.prog 77 #[.string (ln zs i), .string (ln zs (i + 1))] W fun e w' => e = .returned (.bool (headB (bytesL (ln zs i)) (bytesL (ln zs (i + 1))))) ∧ Below W.heap.size W w') := Lib.hid fun W h => t_head (ln zs i) (ln zs (i + 1)) MM W (hz i) (hz (i + 1)) h
  obtain ⟨b, off, rfl, hb, hcell⟩ := hL.get (by omega)
  have HCell := Lib.hid hcell
  clear hz hcell
  have hh2 : i + 1 < zs.length ∧ headB (bytesL (ln zs i)) (bytesL (ln zs (i + 1))) = true := by
    unfold headAt at hh
    rw [Bool.and_eq_true, decide_eq_true_eq] at hh
    exact hh
  have hi1 := hh2.1
  have HB := Lib.hid hh2.2
  obtain ⟨r, hr⟩ : ∃ r, alignR (bytesL (ln zs (i + 1))) = some r := by
    have h := hh2.2
    unfold headB at h
    cases hq : alignR (bytesL (ln zs (i + 1))) with
    | none => rw [hq] at h; cases h
    | some r => exact ⟨r, rfl⟩
  rw [hr] at hPR
  have HQ : Hid (∀ W, LinesAt W (some ⟨b, off, none⟩) zs MM → Calls Tryz.prog 78 #[.slice (some ⟨b, off, none⟩) zs.length c, .int .i64 i, .int .i64 d] W (BkPost W.heap.size PR W)) := Lib.hid fun W hLW => by
    rw [hPR]; exact n_table d hd zs (some ⟨b, off, none⟩) c i W.heap.size MM W hLW hi1 (Nat.le_refl _) r hr
  clear hh hh2 hr
  have z2 : (((m.kind : Nat) : Int) == 2) = false := by rw [beq_eq_false_iff_ne]; omega
  have z3 : (((m.kind : Nat) : Int) == 3) = false := by rw [beq_eq_false_iff_ne]; omega
  have z11 : (((m.kind : Nat) : Int) == 11) = false := by rw [beq_eq_false_iff_ne]; omega
  have z4 : (((m.kind : Nat) : Int) == 4) = false := by rw [beq_eq_false_iff_ne]; omega
  have z7 : (((m.kind : Nat) : Int) == 7) = false := by rw [beq_eq_false_iff_ne]; omega
  have z8 : (((m.kind : Nat) : Int) == 8) = false := by rw [beq_eq_false_iff_ne]; omega
  have z9 : (((m.kind : Nat) : Int) == 9) = false := by rw [beq_eq_false_iff_ne]; omega
  have z10 : (((m.kind : Nat) : Int) == 10) = false := by rw [beq_eq_false_iff_ne]; omega
  have z5 : (((m.kind : Nat) : Int) == 5) = false := by rw [beq_eq_false_iff_ne]; omega
  have z6 : (((m.kind : Nat) : Int) == 6) = false := by rw [beq_eq_false_iff_ne]; omega
  have HPR := Lib.hid hPR
  have HK := Lib.hid hk
  clear hL hk ha hPR
  unfold MkL.cells zbC at HS
  go_enter Tryz.func39, Tryz.ntmps39
  unfold MkL.cells
  go_upto_region 1 with fail
  generalize hW : (w.alloc _).alloc _ = W0
  have HD : Hid (DW w #[.int .i64 m.kind, .int .i64 m.n, .string m.ch, .int .i64 m.off, .string m.info, .string m.rest, .string m.dest, .string m.title, .string m.att.id, .slice A9 m.att.cl.length c9, .slice A10 m.att.pr.length c10] W0) := Lib.hid (by rw [← hW]; exact HS.out)
  clear hW HS
  have HL0 := Lib.hid (HLi.out.below HD.out.bel)
  have hw0 := HD.out.bel.size
  have hw1 := HD.out.res.lt
  obtain ⟨p0, p1, p2, p3, p4, p5, p6, p7, p8, p9, p10, x0, x1, x2, x3, x4, x5, x6, x7, x8, x9, x10⟩ := mk_facts HD.out.mrk
  clear x0 x1 x2 x3 x4 x5 x6 x7 x8 x9 x10
  have HBr : Hid (Below W0.heap.size W0 W0) := Lib.hid (Below.refl _ _)
  have HS9 : Hid (∀ W, Below W0.heap.size W0 W → (W.cell? ⟨b, off + i, none⟩ = some (.string (ln zs i)) ∧ W.cell? ⟨b, off + (i + 1), none⟩ = some (.string (ln zs (i + 1))) ∧ Below W0.heap.size W0 W)) := Lib.hid fun W h =>
    ⟨((HD.out.bel.trans (h.mono hw0)).cell (p := ⟨b, off + i, none⟩) hb).trans (HCell.out i hi), ((HD.out.bel.trans (h.mono hw0)).cell (p := ⟨b, off + (i + 1), none⟩) hb).trans (HCell.out (i + 1) hi1), h⟩
  have HHd : Hid (∀ W, Below W0.heap.size W0 W → Calls Tryz.prog 77 #[.string (ln zs i), .string (ln zs (i + 1))] W fun e w' => e = .returned (.bool true) ∧ Below W.heap.size W w') := Lib.hid fun W h => by
    have := HHD.out W (HL0.out.below h).cell
    rwa [HB.out] at this
  have hi0 : (0 : Int) ≤ (i : Int) + 1 := by omega
  have hi2 : (i : Int) + 1 < (zs.length : Int) := by omega
  have hi3 : ((i : Int) + 1).toNat = i + 1 := by omega
  have hw2 : IntKind.i64.wrap ((i : Int) + 1) = (i : Int) + 1 := IntWalk.i64_in _ (by omega)
  have d1 : decide ((i : Int) + 1 < (zs.length : Int)) = true := decide_eq_true (by omega)
  have d2 : decide (i + 1 < zs.length) = true := decide_eq_true hi1
  obtain ⟨s0, s1, _⟩ := HS9.out _ HBr.out
  clear p1 p2 p3 p4 p5 p6 p7 p8 p9 p10 HHD
  go_wp2_with fail
  refine wp_region_held_drew (S := fun W' => W'.cell? ⟨b, off + i, none⟩ = some (.string (ln zs i)) ∧ W'.cell? ⟨b, off + (i + 1), none⟩ = some (.string (ln zs (i + 1))) ∧ Below W0.heap.size W0 W') (by kernel_rfl) (HS9.out _ HBr.out.drew) (fun hHeld => ?_)
  refine wpAnyH_take (i := 0) (v := .int .i64 i) rfl (by kernel_rfl) (by kernel_rfl) (by kernel_rfl) (fun _ _ _ h => h) (Or.inl ⟨by kernel_rfl, fun W' hSw => ?_⟩) hHeld ?_
  · obtain ⟨h0, h1, h2⟩ := hSw
    go_simp
  try simp only [Act.put, List.setIfInBounds_toArray, List.set_cons_zero, List.set_cons_succ]
  refine wpAnyH_take (i := 1) (v := .int .i64 ((i : Int) + 1)) rfl (by kernel_rfl) (by kernel_rfl) (by kernel_rfl) (fun _ _ _ h => h) (Or.inl ⟨by kernel_rfl, fun W' hSw => ?_⟩) hHeld ?_
  · obtain ⟨h0, h1, h2⟩ := hSw
    go_simp
  try simp only [Act.put, List.setIfInBounds_toArray, List.set_cons_zero, List.set_cons_succ]
  refine wpAnyH_take (i := 2) (v := .slice (some ⟨b, off, none⟩) zs.length c) rfl (by kernel_rfl) (by kernel_rfl) (by kernel_rfl) (fun _ _ _ h => h) (Or.inl ⟨by kernel_rfl, fun W' hSw => ?_⟩) hHeld ?_
  · obtain ⟨h0, h1, h2⟩ := hSw
    go_simp
  try simp only [Act.put, List.setIfInBounds_toArray, List.set_cons_zero, List.set_cons_succ]
  refine wpAnyH_take (i := 3) (v := .int .i64 zs.length) rfl (by kernel_rfl) (by kernel_rfl) (by kernel_rfl) (fun _ _ _ h => h) (Or.inl ⟨by kernel_rfl, fun W' hSw => ?_⟩) hHeld ?_
  · obtain ⟨h0, h1, h2⟩ := hSw
    go_simp
  try simp only [Act.put, List.setIfInBounds_toArray, List.set_cons_zero, List.set_cons_succ]
  refine wpAnyH_take (i := 4) (v := .bool true) rfl (by kernel_rfl) (by kernel_rfl) (by kernel_rfl) (fun _ _ _ h => h) (Or.inl ⟨by kernel_rfl, fun W' hSw => ?_⟩) hHeld ?_
  · obtain ⟨h0, h1, h2⟩ := hSw
    go_simp
  try simp only [Act.put, List.setIfInBounds_toArray, List.set_cons_zero, List.set_cons_succ]
  refine wpAnyH_take (i := 5) (v := .bool true) rfl (by kernel_rfl) (by kernel_rfl) (by kernel_rfl) (fun _ _ _ h => h) (Or.inl ⟨by kernel_rfl, fun W' hSw => ?_⟩) hHeld ?_
  · obtain ⟨h0, h1, h2⟩ := hSw
    go_simp
  try simp only [Act.put, List.setIfInBounds_toArray, List.set_cons_zero, List.set_cons_succ]
  refine wpAnyH_take (i := 6) (v := .slice (some ⟨b, off, none⟩) zs.length c) rfl (by kernel_rfl) (by kernel_rfl) (by kernel_rfl) (fun _ _ _ h => h) (Or.inl ⟨by kernel_rfl, fun W' hSw => ?_⟩) hHeld ?_
  · obtain ⟨h0, h1, h2⟩ := hSw
    go_simp
  try simp only [Act.put, List.setIfInBounds_toArray, List.set_cons_zero, List.set_cons_succ]
  refine wpAnyH_take (i := 7) (v := .int .i64 i) rfl (by kernel_rfl) (by kernel_rfl) (by kernel_rfl) (fun _ _ _ h => h) (Or.inl ⟨by kernel_rfl, fun W' hSw => ?_⟩) hHeld ?_
  · obtain ⟨h0, h1, h2⟩ := hSw
    go_simp
  try simp only [Act.put, List.setIfInBounds_toArray, List.set_cons_zero, List.set_cons_succ]
  refine wpAnyH_take (i := 8) (v := .pointer (some ⟨b, off + i, none⟩)) rfl (by kernel_rfl) (by kernel_rfl) (by kernel_rfl) (fun _ _ _ h => h) (Or.inl ⟨by kernel_rfl, fun W' hSw => ?_⟩) hHeld ?_
  · obtain ⟨h0, h1, h2⟩ := hSw
    go_simp
  try simp only [Act.put, List.setIfInBounds_toArray, List.set_cons_zero, List.set_cons_succ]
  refine wpAnyH_take (i := 9) (v := .string (ln zs i)) rfl (by kernel_rfl) (by kernel_rfl) (by kernel_rfl) (fun _ _ _ h => h) (Or.inl ⟨by kernel_rfl, fun W' hSw => ?_⟩) hHeld ?_
  · obtain ⟨h0, h1, h2⟩ := hSw
    go_simp
  try simp only [Act.put, List.setIfInBounds_toArray, List.set_cons_zero, List.set_cons_succ]
  refine wpAnyH_take (i := 10) (v := .slice (some ⟨b, off, none⟩) zs.length c) rfl (by kernel_rfl) (by kernel_rfl) (by kernel_rfl) (fun _ _ _ h => h) (Or.inl ⟨by kernel_rfl, fun W' hSw => ?_⟩) hHeld ?_
  · obtain ⟨h0, h1, h2⟩ := hSw
    go_simp
  try simp only [Act.put, List.setIfInBounds_toArray, List.set_cons_zero, List.set_cons_succ]
  refine wpAnyH_take (i := 11) (v := .int .i64 i) rfl (by kernel_rfl) (by kernel_rfl) (by kernel_rfl) (fun _ _ _ h => h) (Or.inl ⟨by kernel_rfl, fun W' hSw => ?_⟩) hHeld ?_
  · obtain ⟨h0, h1, h2⟩ := hSw
    go_simp
  try simp only [Act.put, List.setIfInBounds_toArray, List.set_cons_zero, List.set_cons_succ]
  refine wpAnyH_take (i := 12) (v := .int .i64 ((i : Int) + 1)) rfl (by kernel_rfl) (by kernel_rfl) (by kernel_rfl) (fun _ _ _ h => h) (Or.inl ⟨by kernel_rfl, fun W' hSw => ?_⟩) hHeld ?_
  · obtain ⟨h0, h1, h2⟩ := hSw
    go_simp
  try simp only [Act.put, List.setIfInBounds_toArray, List.set_cons_zero, List.set_cons_succ]
  refine wpAnyH_take (i := 13) (v := .pointer (some ⟨b, off + (i + 1), none⟩)) rfl (by kernel_rfl) (by kernel_rfl) (by kernel_rfl) (fun _ _ _ h => h) (Or.inl ⟨by kernel_rfl, fun W' hSw => ?_⟩) hHeld ?_
  · obtain ⟨h0, h1, h2⟩ := hSw
    go_simp
  try simp only [Act.put, List.setIfInBounds_toArray, List.set_cons_zero, List.set_cons_succ]
  refine wpAnyH_take (i := 14) (v := .string (ln zs (i + 1))) rfl (by kernel_rfl) (by kernel_rfl) (by kernel_rfl) (fun _ _ _ h => h) (Or.inl ⟨by kernel_rfl, fun W' hSw => ?_⟩) hHeld ?_
  · obtain ⟨h0, h1, h2⟩ := hSw
    go_simp
  try simp only [Act.put, List.setIfInBounds_toArray, List.set_cons_zero, List.set_cons_succ]
  refine wpAnyH_ready (rs := [15]) (by kernel_rfl) (by simp) (AllReadyH.cons rfl (fun K hK => ?_) AllReadyH.nil)
  go_simp
  ((with_reducible refine (HHd.out _ HBr.out.drew).mono ?_))
  rintro e W9 ⟨rfl, b8⟩
  have b9 : Below W0.heap.size W0 W9 := HBr.out.drew.trans b8
  go_simp
  refine hK.out _ _ (HS9.out _ b9) (fun hHeld => ?_)
  clear hK K
  try simp only [Act.put, List.setIfInBounds_toArray, List.set_cons_zero, List.set_cons_succ]
  refine wpAnyH_ready (rs := [16]) (by kernel_rfl) (by simp) (AllReadyH.cons rfl (fun K hK => ?_) AllReadyH.nil)
  go_simp
  refine hK.out _ _ (hHeld) (fun hHeld => ?_)
  clear hK K
  try simp only [Act.put, List.setIfInBounds_toArray, List.set_cons_zero, List.set_cons_succ]
  refine wpAnyH_done (by kernel_rfl) ?_ _
  have HD9 := Lib.hid (HD.out.next b9)
  have HL9 := Lib.hid (HL0.out.below b9)
  have hz9 := b9.size
  have HQ9 := Lib.hid (HQ.out W9 HL9.out)
  clear HQ HHd HS9 s0 s1 hHeld
  go_wp2_with fail
  ((with_reducible refine (HQ9.out).mono ?_))
  rintro e w2 ⟨b2, hp⟩
  have HD2 := Lib.hid (HD9.out.next b2)
  have hw9 := HD9.out.res.lt
  have hw9b : B ≤ W9.heap.size := by omega
  obtain ⟨k0, k1, k2, k3, k4, k5, k6, k7, k8, k9, k10, y0, y1, y2, y3, y4, y5, y6, y7, y8, y9, y10⟩ := ZB.facts HD2.out.res
  clear HQ9 b2
  cases PR with
  | none =>
    obtain ⟨v, u, ⟨i0, i1, s2, s3, s4, s5, s6, A7, n7, c7, A8, n8, c8, D9, n9, d9, D10, n10, d10, rfl⟩, rfl⟩ := hp
    go_wp2_with fail
    exact blockAt_ret (blk11 HD2.out.res _ _ _ _ _ _ _ _ _ _ _) rfl rfl rfl rfl (bk_none rfl ⟨_, _, _, _, _, _, _, _, _, _, _, _, _, _, _, _, _, _, _, rfl⟩ (below11 HD2.out.bel (Nat.le_succ _) _ _ _ _ _ _ _ _ _ _ _))
  | some r =>
    obtain ⟨bk, tq⟩ := r
    obtain ⟨v, rfl, hrep⟩ := hp
    obtain ⟨f0, f1, f2, f3, f4, f5, f6, D9, n9, d9, D10, n10, d10, D11, n11, d11, D12, n12, d12, rfl⟩ := hrep.form
    have HREP := Lib.hid hrep
    clear hrep
    go_wp2_with fail
    exact blockAt_ret (blk11 HD2.out.res _ _ _ _ _ _ _ _ _ _ _) rfl rfl rfl rfl (bk_some rfl (HREP.out.far (grown11 _ _ _ _ _ _ _ _ _ _ _ _ _) hw9 hw9b) (below11 HD2.out.bel (Nat.le_succ _) _ _ _ _ _ _ _ _ _ _ _))

set_option maxRecDepth 100000 in
set_option maxHeartbeats 2000000 in
theorem n_atP (d : Nat) (hd : d ≤ 15) (zs : List ByteArray) (A : Option Addr) (c i B : Nat) (MM : Int) (m : MkL) (A9 : Option Addr) (c9 : Nat) (A10 : Option Addr) (c10 : Nat) (w : World) (hL : LinesAt w A zs MM) (hi : i < zs.length) (hc : zs.length ≤ c) (hcm : c ≤ maxLen) (hB : B ≤ w.heap.size) (ha : AttR w (Rg B w) m.att A9 A10) (hk : m.kind = 0) (hh : headAt zs i = false) :
    Calls Tryz.prog 39 #[.slice A zs.length c, .int .i64 i, .agg (m.cells (.slice A9 m.att.cl.length c9) (.slice A10 m.att.pr.length c10)), .int .i64 d] w (BkPost B (some (paraB zs i, paraTo zs i)) w) := by
  have hlen := hL.len
  have HLi := Lib.hid hL
  have HA := Lib.hid ha
  have HS := Lib.hid (dw_start w (m.cells (.slice A9 m.att.cl.length c9) (.slice A10 m.att.pr.length c10)))
  obtain ⟨PR, hPR⟩ : ∃ PR, PR = some (paraB zs i, paraTo zs i) := ⟨_, rfl⟩
  rw [← hPR]
  have hz : ∀ j, (ln zs j).size ≤ 1000000 := fun j => Nat.le_trans (ln_size hL.sz j) (by decide)
  have HHD : Hid (∀ W, W.cell? ⟨0, 0, none⟩ = some (.int .i64 MM) → Calls Tryz.prog 77 #[.string (ln zs i), .string (ln zs (i + 1))] W fun e w' => e = .returned (.bool (headB (bytesL (ln zs i)) (bytesL (ln zs (i + 1))))) ∧ Below W.heap.size W w') := Lib.hid fun W h => t_head (ln zs i) (ln zs (i + 1)) MM W (hz i) (hz (i + 1)) h
  obtain ⟨b, off, rfl, hb, hcell⟩ := hL.get (by omega)
  have HCell := Lib.hid hcell
  clear hz hcell
  have hh2 : (decide (i + 1 < zs.length) && headB (bytesL (ln zs i)) (bytesL (ln zs (i + 1)))) = false := hh
  have HQ : Hid (∀ W, LinesAt W (some ⟨b, off, none⟩) zs MM → Calls Tryz.prog 79 #[.slice (some ⟨b, off, none⟩) zs.length c, .int .i64 i] W fun e w' => (∃ v, e = .returned (.tuple #[.agg v, .int .i64 (paraTo zs i)]) ∧ RepB w' (Rg W.heap.size w') v (paraB zs i)) ∧ Below W.heap.size W w') := Lib.hid fun W hLW => n_para zs (some ⟨b, off, none⟩) c i W.heap.size MM W hLW hi (Nat.le_refl _)
  have HH2 := Lib.hid hh2
  clear hh hh2
  have z2 : (((m.kind : Nat) : Int) == 2) = false := by rw [beq_eq_false_iff_ne]; omega
  have z3 : (((m.kind : Nat) : Int) == 3) = false := by rw [beq_eq_false_iff_ne]; omega
  have z11 : (((m.kind : Nat) : Int) == 11) = false := by rw [beq_eq_false_iff_ne]; omega
  have z4 : (((m.kind : Nat) : Int) == 4) = false := by rw [beq_eq_false_iff_ne]; omega
  have z7 : (((m.kind : Nat) : Int) == 7) = false := by rw [beq_eq_false_iff_ne]; omega
  have z8 : (((m.kind : Nat) : Int) == 8) = false := by rw [beq_eq_false_iff_ne]; omega
  have z9 : (((m.kind : Nat) : Int) == 9) = false := by rw [beq_eq_false_iff_ne]; omega
  have z10 : (((m.kind : Nat) : Int) == 10) = false := by rw [beq_eq_false_iff_ne]; omega
  have z5 : (((m.kind : Nat) : Int) == 5) = false := by rw [beq_eq_false_iff_ne]; omega
  have z6 : (((m.kind : Nat) : Int) == 6) = false := by rw [beq_eq_false_iff_ne]; omega
  have HPR := Lib.hid hPR
  have HK := Lib.hid hk
  clear hL hk ha hPR
  unfold MkL.cells zbC at HS
  go_enter Tryz.func39, Tryz.ntmps39
  unfold MkL.cells
  go_upto_region 1 with fail
  generalize hW : (w.alloc _).alloc _ = W0
  have HD : Hid (DW w #[.int .i64 m.kind, .int .i64 m.n, .string m.ch, .int .i64 m.off, .string m.info, .string m.rest, .string m.dest, .string m.title, .string m.att.id, .slice A9 m.att.cl.length c9, .slice A10 m.att.pr.length c10] W0) := Lib.hid (by rw [← hW]; exact HS.out)
  clear hW HS
  have HL0 := Lib.hid (HLi.out.below HD.out.bel)
  have hw0 := HD.out.bel.size
  have hw1 := HD.out.res.lt
  obtain ⟨p0, p1, p2, p3, p4, p5, p6, p7, p8, p9, p10, x0, x1, x2, x3, x4, x5, x6, x7, x8, x9, x10⟩ := mk_facts HD.out.mrk
  clear x0 x1 x2 x3 x4 x5 x6 x7 x8 x9 x10
  by_cases hi1 : i + 1 < zs.length
  · have HB : Hid (headB (bytesL (ln zs i)) (bytesL (ln zs (i + 1))) = false) := Lib.hid (by have h := HH2.out; rw [decide_eq_true hi1] at h; exact h)
    clear HH2
    have HBr : Hid (Below W0.heap.size W0 W0) := Lib.hid (Below.refl _ _)
    have HS9 : Hid (∀ W, Below W0.heap.size W0 W → (W.cell? ⟨b, off + i, none⟩ = some (.string (ln zs i)) ∧ W.cell? ⟨b, off + (i + 1), none⟩ = some (.string (ln zs (i + 1))) ∧ Below W0.heap.size W0 W)) := Lib.hid fun W h =>
      ⟨((HD.out.bel.trans (h.mono hw0)).cell (p := ⟨b, off + i, none⟩) hb).trans (HCell.out i hi), ((HD.out.bel.trans (h.mono hw0)).cell (p := ⟨b, off + (i + 1), none⟩) hb).trans (HCell.out (i + 1) hi1), h⟩
    have HHd : Hid (∀ W, Below W0.heap.size W0 W → Calls Tryz.prog 77 #[.string (ln zs i), .string (ln zs (i + 1))] W fun e w' => e = .returned (.bool false) ∧ Below W.heap.size W w') := Lib.hid fun W h => by
      have := HHD.out W (HL0.out.below h).cell
      rwa [HB.out] at this
    have hi0 : (0 : Int) ≤ (i : Int) + 1 := by omega
    have hi2 : (i : Int) + 1 < (zs.length : Int) := by omega
    have hi3 : ((i : Int) + 1).toNat = i + 1 := by omega
    have hw2 : IntKind.i64.wrap ((i : Int) + 1) = (i : Int) + 1 := IntWalk.i64_in _ (by omega)
    have d1 : decide ((i : Int) + 1 < (zs.length : Int)) = true := decide_eq_true (by omega)
    have d2 : decide (i + 1 < zs.length) = true := decide_eq_true hi1
    obtain ⟨s0, s1, _⟩ := HS9.out _ HBr.out
    clear p1 p2 p3 p4 p5 p6 p7 p8 p9 p10 HHD
    go_wp2_with fail
    refine wp_region_held_drew (S := fun W' => W'.cell? ⟨b, off + i, none⟩ = some (.string (ln zs i)) ∧ W'.cell? ⟨b, off + (i + 1), none⟩ = some (.string (ln zs (i + 1))) ∧ Below W0.heap.size W0 W') (by kernel_rfl) (HS9.out _ HBr.out.drew) (fun hHeld => ?_)
    refine wpAnyH_take (i := 0) (v := .int .i64 i) rfl (by kernel_rfl) (by kernel_rfl) (by kernel_rfl) (fun _ _ _ h => h) (Or.inl ⟨by kernel_rfl, fun W' hSw => ?_⟩) hHeld ?_
    · obtain ⟨h0, h1, h2⟩ := hSw
      go_simp
    try simp only [Act.put, List.setIfInBounds_toArray, List.set_cons_zero, List.set_cons_succ]
    refine wpAnyH_take (i := 1) (v := .int .i64 ((i : Int) + 1)) rfl (by kernel_rfl) (by kernel_rfl) (by kernel_rfl) (fun _ _ _ h => h) (Or.inl ⟨by kernel_rfl, fun W' hSw => ?_⟩) hHeld ?_
    · obtain ⟨h0, h1, h2⟩ := hSw
      go_simp
    try simp only [Act.put, List.setIfInBounds_toArray, List.set_cons_zero, List.set_cons_succ]
    refine wpAnyH_take (i := 2) (v := .slice (some ⟨b, off, none⟩) zs.length c) rfl (by kernel_rfl) (by kernel_rfl) (by kernel_rfl) (fun _ _ _ h => h) (Or.inl ⟨by kernel_rfl, fun W' hSw => ?_⟩) hHeld ?_
    · obtain ⟨h0, h1, h2⟩ := hSw
      go_simp
    try simp only [Act.put, List.setIfInBounds_toArray, List.set_cons_zero, List.set_cons_succ]
    refine wpAnyH_take (i := 3) (v := .int .i64 zs.length) rfl (by kernel_rfl) (by kernel_rfl) (by kernel_rfl) (fun _ _ _ h => h) (Or.inl ⟨by kernel_rfl, fun W' hSw => ?_⟩) hHeld ?_
    · obtain ⟨h0, h1, h2⟩ := hSw
      go_simp
    try simp only [Act.put, List.setIfInBounds_toArray, List.set_cons_zero, List.set_cons_succ]
    refine wpAnyH_take (i := 4) (v := .bool true) rfl (by kernel_rfl) (by kernel_rfl) (by kernel_rfl) (fun _ _ _ h => h) (Or.inl ⟨by kernel_rfl, fun W' hSw => ?_⟩) hHeld ?_
    · obtain ⟨h0, h1, h2⟩ := hSw
      go_simp
    try simp only [Act.put, List.setIfInBounds_toArray, List.set_cons_zero, List.set_cons_succ]
    refine wpAnyH_take (i := 5) (v := .bool true) rfl (by kernel_rfl) (by kernel_rfl) (by kernel_rfl) (fun _ _ _ h => h) (Or.inl ⟨by kernel_rfl, fun W' hSw => ?_⟩) hHeld ?_
    · obtain ⟨h0, h1, h2⟩ := hSw
      go_simp
    try simp only [Act.put, List.setIfInBounds_toArray, List.set_cons_zero, List.set_cons_succ]
    refine wpAnyH_take (i := 6) (v := .slice (some ⟨b, off, none⟩) zs.length c) rfl (by kernel_rfl) (by kernel_rfl) (by kernel_rfl) (fun _ _ _ h => h) (Or.inl ⟨by kernel_rfl, fun W' hSw => ?_⟩) hHeld ?_
    · obtain ⟨h0, h1, h2⟩ := hSw
      go_simp
    try simp only [Act.put, List.setIfInBounds_toArray, List.set_cons_zero, List.set_cons_succ]
    refine wpAnyH_take (i := 7) (v := .int .i64 i) rfl (by kernel_rfl) (by kernel_rfl) (by kernel_rfl) (fun _ _ _ h => h) (Or.inl ⟨by kernel_rfl, fun W' hSw => ?_⟩) hHeld ?_
    · obtain ⟨h0, h1, h2⟩ := hSw
      go_simp
    try simp only [Act.put, List.setIfInBounds_toArray, List.set_cons_zero, List.set_cons_succ]
    refine wpAnyH_take (i := 8) (v := .pointer (some ⟨b, off + i, none⟩)) rfl (by kernel_rfl) (by kernel_rfl) (by kernel_rfl) (fun _ _ _ h => h) (Or.inl ⟨by kernel_rfl, fun W' hSw => ?_⟩) hHeld ?_
    · obtain ⟨h0, h1, h2⟩ := hSw
      go_simp
    try simp only [Act.put, List.setIfInBounds_toArray, List.set_cons_zero, List.set_cons_succ]
    refine wpAnyH_take (i := 9) (v := .string (ln zs i)) rfl (by kernel_rfl) (by kernel_rfl) (by kernel_rfl) (fun _ _ _ h => h) (Or.inl ⟨by kernel_rfl, fun W' hSw => ?_⟩) hHeld ?_
    · obtain ⟨h0, h1, h2⟩ := hSw
      go_simp
    try simp only [Act.put, List.setIfInBounds_toArray, List.set_cons_zero, List.set_cons_succ]
    refine wpAnyH_take (i := 10) (v := .slice (some ⟨b, off, none⟩) zs.length c) rfl (by kernel_rfl) (by kernel_rfl) (by kernel_rfl) (fun _ _ _ h => h) (Or.inl ⟨by kernel_rfl, fun W' hSw => ?_⟩) hHeld ?_
    · obtain ⟨h0, h1, h2⟩ := hSw
      go_simp
    try simp only [Act.put, List.setIfInBounds_toArray, List.set_cons_zero, List.set_cons_succ]
    refine wpAnyH_take (i := 11) (v := .int .i64 i) rfl (by kernel_rfl) (by kernel_rfl) (by kernel_rfl) (fun _ _ _ h => h) (Or.inl ⟨by kernel_rfl, fun W' hSw => ?_⟩) hHeld ?_
    · obtain ⟨h0, h1, h2⟩ := hSw
      go_simp
    try simp only [Act.put, List.setIfInBounds_toArray, List.set_cons_zero, List.set_cons_succ]
    refine wpAnyH_take (i := 12) (v := .int .i64 ((i : Int) + 1)) rfl (by kernel_rfl) (by kernel_rfl) (by kernel_rfl) (fun _ _ _ h => h) (Or.inl ⟨by kernel_rfl, fun W' hSw => ?_⟩) hHeld ?_
    · obtain ⟨h0, h1, h2⟩ := hSw
      go_simp
    try simp only [Act.put, List.setIfInBounds_toArray, List.set_cons_zero, List.set_cons_succ]
    refine wpAnyH_take (i := 13) (v := .pointer (some ⟨b, off + (i + 1), none⟩)) rfl (by kernel_rfl) (by kernel_rfl) (by kernel_rfl) (fun _ _ _ h => h) (Or.inl ⟨by kernel_rfl, fun W' hSw => ?_⟩) hHeld ?_
    · obtain ⟨h0, h1, h2⟩ := hSw
      go_simp
    try simp only [Act.put, List.setIfInBounds_toArray, List.set_cons_zero, List.set_cons_succ]
    refine wpAnyH_take (i := 14) (v := .string (ln zs (i + 1))) rfl (by kernel_rfl) (by kernel_rfl) (by kernel_rfl) (fun _ _ _ h => h) (Or.inl ⟨by kernel_rfl, fun W' hSw => ?_⟩) hHeld ?_
    · obtain ⟨h0, h1, h2⟩ := hSw
      go_simp
    try simp only [Act.put, List.setIfInBounds_toArray, List.set_cons_zero, List.set_cons_succ]
    refine wpAnyH_ready (rs := [15]) (by kernel_rfl) (by simp) (AllReadyH.cons rfl (fun K hK => ?_) AllReadyH.nil)
    go_simp
    ((with_reducible refine (HHd.out _ HBr.out.drew).mono ?_))
    rintro e W9 ⟨rfl, b8⟩
    have b9 : Below W0.heap.size W0 W9 := HBr.out.drew.trans b8
    go_simp
    refine hK.out _ _ (HS9.out _ b9) (fun hHeld => ?_)
    clear hK K
    try simp only [Act.put, List.setIfInBounds_toArray, List.set_cons_zero, List.set_cons_succ]
    refine wpAnyH_ready (rs := [16]) (by kernel_rfl) (by simp) (AllReadyH.cons rfl (fun K hK => ?_) AllReadyH.nil)
    go_simp
    refine hK.out _ _ (hHeld) (fun hHeld => ?_)
    clear hK K
    try simp only [Act.put, List.setIfInBounds_toArray, List.set_cons_zero, List.set_cons_succ]
    refine wpAnyH_done (by kernel_rfl) ?_ _
    clear HHd HS9 s0 s1 hHeld
    have HD9 := Lib.hid (HD.out.next b9)
    have HL9 := Lib.hid (HL0.out.below b9)
    have hz9 := b9.size
    have HQ9 := Lib.hid (HQ.out W9 HL9.out)
    clear HQ
    go_wp2_with fail
    ((with_reducible refine (HQ9.out).mono ?_))
    rintro e w2 ⟨⟨v, rfl, hrep⟩, b2⟩
    have HD2 := Lib.hid (HD9.out.next b2)
    have hw9 := HD9.out.res.lt
    have hw9b : B ≤ W9.heap.size := by omega
    obtain ⟨f0, f1, f2, f3, f4, f5, f6, D9, n9, d9, D10, n10, d10, D11, n11, d11, D12, n12, d12, rfl⟩ := hrep.form
    have HREP := Lib.hid (hrep.low ((Below.refl _ w2).alloc (Nat.le_refl _) (.cells #[.int .i64 f0, .int .i64 f1, .string f2, .string f3, .string f4, .string f5, .string f6, .slice D9 n9 d9, .slice D10 n10 d10, .slice D11 n11 d11, .slice D12 n12 d12] 46)))
    have HD3 := Lib.hid (HD2.out.next ((Below.refl _ w2).alloc (Nat.le_refl _) (.cells #[.int .i64 f0, .int .i64 f1, .string f2, .string f3, .string f4, .string f5, .string f6, .slice D9 n9 d9, .slice D10 n10 d10, .slice D11 n11 d11, .slice D12 n12 d12] 46)))
    have HBv := Lib.hid (Blk.new w2 46 #[.int .i64 f0, .int .i64 f1, .string f2, .string f3, .string f4, .string f5, .string f6, .slice D9 n9 d9, .slice D10 n10 d10, .slice D11 n11 d11, .slice D12 n12 d12])
    clear HQ9 b2 hrep
    go_upto_region 27 with fail
    generalize hW3 : w2.alloc _ = W3 at *
    generalize w2.heap.size = gv at *
    clear hW3
    obtain ⟨k0, k1, k2, k3, k4, k5, k6, k7, k8, k9, k10, y0, y1, y2, y3, y4, y5, y6, y7, y8, y9, y10⟩ := ZB.facts HD3.out.res
    obtain ⟨l0, l1, l2, l3, l4, l5, l6, l7, l8, l9, l10, j0, j1, j2, j3, j4, j5, j6, j7, j8, j9, j10⟩ := mk_facts HBv.out
    clear j0 j1 j2 j3 j4 j5 j6 j7 j8 j9 j10 HBv
    go_wp2_with fail
    exact blockAt_ret (blk11 HD3.out.res _ _ _ _ _ _ _ _ _ _ _) rfl rfl rfl rfl (bk_some (by rw [HPR.out]) (HREP.out.far (grown11 _ _ _ _ _ _ _ _ _ _ _ _ _) hw9 hw9b) (below11 HD3.out.bel (Nat.le_succ _) _ _ _ _ _ _ _ _ _ _ _))
  · have d1 : decide ((i : Int) + 1 < (zs.length : Int)) = false := decide_eq_false (by omega)
    have d2 : decide (i + 1 < zs.length) = false := decide_eq_false hi1
    clear HH2 HHD p1 p2 p3 p4 p5 p6 p7 p8 p9 p10
    go_wp2_with fail
    go_quiet (fail)
    have b9 : Below W0.heap.size W0 (W0.drewN nq) := below_drewN (Below.refl _ _) nq
    generalize W0.drewN nq = W9 at *
    have HD9 := Lib.hid (HD.out.next b9)
    have HL9 := Lib.hid (HL0.out.below b9)
    have hz9 := b9.size
    have HQ9 := Lib.hid (HQ.out W9 HL9.out)
    clear HQ
    go_wp2_with fail
    ((with_reducible refine (HQ9.out).mono ?_))
    rintro e w2 ⟨⟨v, rfl, hrep⟩, b2⟩
    have HD2 := Lib.hid (HD9.out.next b2)
    have hw9 := HD9.out.res.lt
    have hw9b : B ≤ W9.heap.size := by omega
    obtain ⟨f0, f1, f2, f3, f4, f5, f6, D9, n9, d9, D10, n10, d10, D11, n11, d11, D12, n12, d12, rfl⟩ := hrep.form
    have HREP := Lib.hid (hrep.low ((Below.refl _ w2).alloc (Nat.le_refl _) (.cells #[.int .i64 f0, .int .i64 f1, .string f2, .string f3, .string f4, .string f5, .string f6, .slice D9 n9 d9, .slice D10 n10 d10, .slice D11 n11 d11, .slice D12 n12 d12] 46)))
    have HD3 := Lib.hid (HD2.out.next ((Below.refl _ w2).alloc (Nat.le_refl _) (.cells #[.int .i64 f0, .int .i64 f1, .string f2, .string f3, .string f4, .string f5, .string f6, .slice D9 n9 d9, .slice D10 n10 d10, .slice D11 n11 d11, .slice D12 n12 d12] 46)))
    have HBv := Lib.hid (Blk.new w2 46 #[.int .i64 f0, .int .i64 f1, .string f2, .string f3, .string f4, .string f5, .string f6, .slice D9 n9 d9, .slice D10 n10 d10, .slice D11 n11 d11, .slice D12 n12 d12])
    clear HQ9 b2 hrep
    go_upto_region 27 with fail
    generalize hW3 : w2.alloc _ = W3 at *
    generalize w2.heap.size = gv at *
    clear hW3
    obtain ⟨k0, k1, k2, k3, k4, k5, k6, k7, k8, k9, k10, y0, y1, y2, y3, y4, y5, y6, y7, y8, y9, y10⟩ := ZB.facts HD3.out.res
    obtain ⟨l0, l1, l2, l3, l4, l5, l6, l7, l8, l9, l10, j0, j1, j2, j3, j4, j5, j6, j7, j8, j9, j10⟩ := mk_facts HBv.out
    clear j0 j1 j2 j3 j4 j5 j6 j7 j8 j9 j10 HBv
    go_wp2_with fail
    exact blockAt_ret (blk11 HD3.out.res _ _ _ _ _ _ _ _ _ _ _) rfl rfl rfl rfl (bk_some (by rw [HPR.out]) (HREP.out.far (grown11 _ _ _ _ _ _ _ _ _ _ _ _ _) hw9 hw9b) (below11 HD3.out.bel (Nat.le_succ _) _ _ _ _ _ _ _ _ _ _ _))

end Go.Proofs.YtpoafhgbhnblmaaGreatDoor
namespace Go.Proofs.YtpoafhgbhnblmaaGreatDoor
open Go.RowKit Go.Pub
/-- As BksPost; and the capacity of the blocks. -/
def BksPostC (r : Option (List BkT × List (Nat × Nat))) (w : World) (e : Ending) (w' : World) : Prop :=
  Below w.heap.size w w' ∧ match r with
  | none => e = .returned bkErr
  | some p => ∃ v A c, e = .returned (.tuple #[v, .slice A p.2.length c, .int .i64 0]) ∧ KidsV w' (Rg w.heap.size w') v p.1 ∧ ReadsS w' (Rg w.heap.size w') 2 A p.2.length (rngs p.2) ∧ ∃ A' c', v = .slice A' p.1.length c' ∧ p.1.length ≤ c'
theorem KOwn.cap {w : World} {base n c : Nat} {E : Nat → Prop} {A : Option Addr} {bs : List BkT} (h : KOwn w base E (.slice A n c) bs) : bs.length ≤ c := by
  obtain ⟨S, vs, hS, hk, ho⟩ := h
  obtain ⟨A', c', e, h1, h2⟩ : ∃ A' c', Value.slice A n c = .slice A' bs.length c' ∧ bs.length ≤ c' ∧ c' ≤ maxLen := by
    rcases ho.2 with ⟨e, h0⟩ | ⟨g, cap, cur, e, _, _, h1, h2, _⟩
    · rw [e, h0]; exact ⟨_, _, rfl, Nat.le_refl _, Nat.zero_le _⟩
    · rw [e]; exact ⟨_, _, rfl, h1, h2⟩
  injection e with _ _ e
  rw [e]; exact h1
set_option maxRecDepth 100000 in
set_option maxHeartbeats 4000000 in
theorem n_blocksC (n d : Nat) (hnd : n + d = 16) (zs : List ByteArray) (A : Option Addr) (c : Nat) (MM : Int) (w : World) (hL : LinesAt w A zs MM) (HA : n ≠ 0 → AtP n d zs A c MM) :
    Calls Tryz.prog 30 #[.slice A zs.length c, .int .i64 d] w (BksPostC (blocksN n zs) w) := by
  obtain ⟨i0, hi0, hz0, hz1, hz2⟩ := info_parts block_info
  obtain ⟨j0, hj0, hy0, hy1, hy2⟩ := info_parts range_info
  have HL := Lib.hid hL
  have HAt := Lib.hid HA
  have hlen := hL.len
  have hwp := hL.pos
  have HM : Hid (∀ i W, Calls Tryz.prog 38 #[.string (ln zs i)] W fun e w' => ∃ A c D d, e = .returned (.agg ((markM (ln zs i)).cells (.slice A (markM (ln zs i)).att.cl.length c) (.slice D (markM (ln zs i)).att.pr.length d))) ∧ AttR w' (Rg W.heap.size w') (markM (ln zs i)).att A D ∧ Below W.heap.size W w') := Lib.hid fun i W => (m_of (ln zs i) W (Nat.le_trans (ln_size hL.sz i) (by decide))).mono fun e w' h => by
    obtain ⟨⟨_, rfl, C, P, rfl, o⟩, b⟩ := h
    obtain ⟨A1, c1, A2, c2, rfl, rfl, h⟩ := AttR.of_own o
    exact ⟨A1, c1, A2, c2, rfl, h, b⟩
  have HR0 : Hid (blocksN n zs = (restT (atN n zs) zs 0).map fun p => ([] ++ p.1, [] ++ p.2)) := Lib.hid (by
    rw [blocksN_rest]; cases restT (atN n zs) zs 0 <;> rfl)
  have HK := Lib.hid fun i => mark_kinds (ln zs i)
  have hd15 : decide (15 < (d : Int)) = decide (n = 0) := decide_eq_decide.2 (by omega)
  clear hL HA
  go_enter Tryz.func30, Tryz.ntmps30
  go_wp2_with fail
  go_loopw [7, 8, 9] (fun v7 v8 v9 wr => BlRel n zs w v7 v8 v9 wr) (fun _ _ v9 _ => zs.length - (intOf v9).toNat)
  case atStart => exact ⟨0, [], [], rfl, Nat.zero_le _, Lib.hid (KOwn.nil _ _ _), World.ownsRow_nil _ _ _ _, Nat.le_refl _, Nat.le_refl _, Below.refl _ _, HR0⟩
  case round =>
    obtain ⟨i, bs, rs, rfl, hi, HKO, hrng, hbi, hri, hbw, HR⟩ := hrel
    have hzr := hbw.size
    have HLr := Lib.hid (HL.out.below hbw)
    obtain ⟨A7, c7, rfl⟩ := HKO.out.own
    obtain ⟨A8, c8, rfl⟩ := own_slice hrng
    by_cases hlt : i < zs.length
    · obtain ⟨b, off, rfl, hb, hcell⟩ := HLr.out.get (by omega)
      have hc0 := hcell i hlt
      have hKi := HK.out i
      clear hcell
      go_wp2_with fail
      ((with_reducible refine (HM.out _ _).mono ?_))
      rintro e w1 ⟨A1, c1, A2, c2, rfl, hat, b1⟩
      have hz1' := b1.size
      cases hbl : blankB (ln zs i) with
      | true =>
        have hk1 : (markM (ln zs i)).kind = 1 := hKi.1 hbl
        have HRn : Hid (blocksN n zs = (restT (atN n zs) zs (i + 1)).map fun p => (bs ++ p.1, rs ++ p.2)) := Lib.hid (by rw [HR.out, restT_blank _ _ _ hlt hbl])
        have kk : (((markM (ln zs i)).kind : Nat) : Int) = 1 := by omega
        unfold MkL.cells
        rw [kk]
        go_wp2_with fail
        go_roundw
        case rel =>
          have hbb := fun o => b1.alloc b1.size o
          exact ⟨i + 1, bs, rs, by go_num, by omega, Lib.hid (HKO.out.below (hbb _)), own_below hrng (hbb _), by omega, by omega, hbw.trans ((hbb _).mono hzr), HRn⟩
        case measure => simp [intOf]; omega
      | false =>
        have hk := hKi.2 hbl
        have hst := Lib.hid (blocks_step n zs i hlt hbl)
        have hk1 : ((((markM (ln zs i)).kind : Nat) : Int) == 1) = false := by rw [beq_eq_false_iff_ne]; omega
        have HAi : Hid (n ≠ 0 → ∀ (W : World) (A9 : Option Addr) (c9 : Nat) (A10 : Option Addr) (c10 : Nat), wr.heap.size ≤ W.heap.size → LinesAt W (some ⟨b, off, none⟩) zs MM → AttR W (Rg wr.heap.size W) (markM (ln zs i)).att A9 A10 →
          Calls Tryz.prog 39 #[.slice (some ⟨b, off, none⟩) zs.length c, .int .i64 i, .agg ((markM (ln zs i)).cells (.slice A9 (markM (ln zs i)).att.cl.length c9) (.slice A10 (markM (ln zs i)).att.pr.length c10)), .int .i64 d] W (BkPost wr.heap.size (atN n zs i (markM (ln zs i))) W)) := Lib.hid fun h0 W A9 c9 A10 c10 h1 h2 h3 => HAt.out h0 i wr.heap.size W A9 c9 A10 c10 hlt hbl h1 h2 h3
        have hto : Hid (∀ r, atN n zs i (markM (ln zs i)) = some r → i < r.2 ∧ r.2 ≤ zs.length) := Lib.hid fun r e => atN_bd n zs i r hlt e
        have hn0 : Hid (n = 0 → atN n zs i (markM (ln zs i)) = none) := Lib.hid fun e => by subst e; rfl
        generalize atN n zs i (markM (ln zs i)) = R at *
        clear hKi HM hk HK HAt
        generalize markM (ln zs i) = m at *
        unfold MkL.cells at HAi ⊢
        by_cases hn : n = 0
        · have hRn := hn0.out hn
          have HE : Hid (blocksN n zs = none) := Lib.hid (by rw [HR.out, hst.out, hRn]; rfl)
          rw [decide_eq_true hn] at hd15
          clear HAi
          go_wp2_with fail
          go_ret3
          exact ⟨hbw.trans ((b1.alloc b1.size _).mono hzr), by rw [HE.out]; rfl⟩
        · rw [decide_eq_false hn] at hd15
          go_wp2_with fail
          ((with_reducible refine (HAi.out hn _ A1 c1 A2 c2 (by simp; omega) (HLr.out.below (b1.alloc b1.size _)) (hat.below ((Below.refl _ _).alloc (Nat.le_refl _) _))).mono ?_))
          rintro e w2 ⟨b2, hp⟩
          have hz2' := b2.size
          have b12 : Below wr.heap.size wr w2 := (b1.alloc b1.size _).trans (b2.mono (by simp; omega))
          clear b2 b1 hat hn0
          cases R with
          | none =>
            obtain ⟨v, u, ⟨i0, i1, s2, s3, s4, s5, s6, A7, n7, c7, A8, n8, c8, A9, n9, c9, A10, n10, c10, rfl⟩, rfl⟩ := hp
            have HE : Hid (blocksN n zs = none) := Lib.hid (by rw [HR.out, hst.out]; rfl)
            clear HAi HR hst
            go_wp2_with fail
            go_ret3
            exact ⟨hbw.trans ((b12.alloc b12.size _).mono hzr), by rw [HE.out]; rfl⟩
          | some r =>
            obtain ⟨bk, tq⟩ := r
            obtain ⟨v, rfl, hrep⟩ := hp
            have hab := hrep.form
            obtain ⟨f0, f1, f2, f3, f4, f5, f6, A9, n9, c9, A10, n10, c10, A11, n11, c11, A12, n12, c12, rfl⟩ := hrep.form
            have hto' := hto.out _ rfl
            simp only [] at hto'
            obtain ⟨S, vs, hS, hkk, hown⟩ := HKO.out
            have hown2 := own_below hown b12
            have hrng2 := own_below hrng b12
            have hsz12 := b12.size
            have hv7 := hown.lt
            have hv8 := hrng.lt
            have HREP := Lib.hid hrep
            have HKK := Lib.hid hkk
            have HSS := Lib.hid hS
            have hne78 := own_ne hown2 hrng2 (by decide)
            have HNX : Hid (blocksN n zs = (restT (atN n zs) zs tq).map fun p => ((bs ++ [bk]) ++ p.1, (rs ++ [(i, tq)]) ++ p.2)) := Lib.hid (by
              rw [HR.out, hst.out]
              simp only []
              cases restT (atN n zs) zs tq with
              | none => rfl
              | some q => simp)
            clear HAi HR hst hrep hkk hS hown hrng hto HKO
            go_wp2_with (at_builtin; refine wpList_append_lies _ rfl _ _ 25 rfl w.heap.size 46 i0 _ 11 192 Tryz.underlying25 hi0 hz0 hz1 hz2 rfl (by decide) _ _ _ rfl ((hown2.alloc _).alloc _) ⟨w2.heap.size + 1, 0, none⟩ 1 1 _ rfl hab.len ?c1 hab.one (by decide) ?c3 ?c4 ?c5 (w2.heap.size + 2) ?c6 ?_)
            case c3 => unfold maxLen; omega
            case c4 => omega
            case c5 => simp; omega
            case c6 => simp
            intro g7 cap7 w3 hown3 hgrow hlies hlt3
            have hrng3 := ((hrng2.alloc (.cells #[.int .i64 f0, .int .i64 f1, .string f2, .string f3, .string f4, .string f5, .string f6, .slice A9 n9 c9, .slice A10 n10 c10, .slice A11 n11 c11, .slice A12 n12 c12] 46)).alloc (.cells #[.int .i64 f0, .int .i64 f1, .string f2, .string f3, .string f4, .string f5, .string f6, .slice A9 n9 c9, .slice A10 n10 c10, .slice A11 n11 c11, .slice A12 n12 c12] 46)).kept hgrow (own_ne hrng2 hown2 (by decide))
            have HKO3 := Lib.hid (KOwn.push HSS.out HKK.out (b12.alloc b12.size (.cells #[.int .i64 f0, .int .i64 f1, .string f2, .string f3, .string f4, .string f5, .string f6, .slice A9 n9 c9, .slice A10 n10 c10, .slice A11 n11 c11, .slice A12 n12 c12] 46)) (fun k h => (hv7 k h).2) (fun k h => (hv8 k h).2) hzr (by simp; omega) (HREP.out.low ((Below.refl _ _).alloc (Nat.le_refl _) _)) hown3 hgrow hlies (by simp))
            have hbw3 : Below w.heap.size w w3 := (((hbw.trans (b12.mono hzr)).alloc (by omega) (.cells #[.int .i64 f0, .int .i64 f1, .string f2, .string f3, .string f4, .string f5, .string f6, .slice A9 n9 c9, .slice A10 n10 c10, .slice A11 n11 c11, .slice A12 n12 c12] 46)).alloc (by simp; omega) (.cells #[.int .i64 f0, .int .i64 f1, .string f2, .string f3, .string f4, .string f5, .string f6, .slice A9 n9 c9, .slice A10 n10 c10, .slice A11 n11 c11, .slice A12 n12 c12] 46)).grown hgrow (by simp; omega) (fun k hk => (hv7 k hk).1)
            have hz3 := hbw3.size
            have hne3 := own_ne hown3 hrng3 (by decide)
            clear hown2 hrng2 hgrow hlies HSS HKK HREP hv7 hv8 b12 hown3 hab hne78 hz2' hsz12
            go_wp2_with (at_builtin; refine wpList_append_lies _ rfl _ _ 30 rfl w.heap.size 34 j0 _ 2 16 Tryz.underlying30 hj0 hy0 hy1 hy2 rfl (by decide) _ _ _ rfl (hrng3.alloc _) ⟨w3.heap.size, 0, none⟩ 1 1 [.int .i64 i, .int .i64 tq] rfl rfl ?d1 ?d2 (by decide) ?d3 ?d4 ?d5 (w3.heap.size + 1) ?d6 ?_)
            case d1 => exact World.news_of_block (t := 34) (fr := (0, 0)) (cs := #[.int .i64 i, .int .i64 tq]) (heap_alloc_new w3 _)
            case d2 => intro u hu; simp at hu; rcases hu with rfl | rfl <;> rfl
            case d3 => unfold maxLen; omega
            case d4 => omega
            case d5 => simp; omega
            case d6 => simp
            intro g8 cap8 w4 hown4 hgrow4 hlies4 hlt4
            have HKO4 := Lib.hid ((HKO3.out.below ((Below.refl _ _).alloc (Nat.le_refl _) (.cells #[.int .i64 i, .int .i64 tq] 34))).kept hgrow4 hne3 hlies4 (by simp))
            have hbw4 : Below w.heap.size w w4 := (hbw3.alloc hz3 (.cells #[.int .i64 i, .int .i64 tq] 34)).grown hgrow4 (by simp; omega) (fun k hk => (hrng3.lt k hk).1)
            clear hgrow4 hlies4 hrng3 HKO3 hne3
            go_wp2_with fail
            go_roundw
            case rel =>
              refine ⟨tq, bs ++ [bk], rs ++ [(i, tq)], rfl, hto'.2, ?_, ?_, by simp; omega, by simp; omega, hbw4, HNX⟩
              · have h := HKO4.out
                exact Lib.hid h
              · rw [List.length_append, ← rngs_snoc]; exact hown4
            case measure => simp [intOf]; omega
    · have HE : Hid (blocksN n zs = some (bs, rs)) := Lib.hid (by rw [HR.out, restT_end _ _ _ (by omega)]; simp)
      go_wp2_with fail
      go_ret3
      refine ⟨hbw, ?_⟩
      rw [HE.out]
      exact ⟨_, _, _, rfl, HKO.out.kids, ReadsS.of_own hrng, _, _, rfl, HKO.out.cap⟩

end Go.Proofs.YtpoafhgbhnblmaaGreatDoor
