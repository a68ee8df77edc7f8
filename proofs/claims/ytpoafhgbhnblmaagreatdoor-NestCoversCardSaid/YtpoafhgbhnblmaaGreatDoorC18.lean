/-
  Texts of the proof, put together (what this law reaches): NsVC.
-/
import Derived.Test.YtpoafhgbhnblmaaGreatDoorC12
import Derived.Test.YtpoafhgbhnblmaaGreatDoorC13
import Derived.Test.YtpoafhgbhnblmaaGreatDoorC16
set_option linter.unusedVariables false
set_option linter.unusedSimpArgs false
namespace Go.Proofs.YtpoafhgbhnblmaaGreatDoor
open Go.RowKit Go.Pub
set_option maxRecDepth 100000 in
set_option maxHeartbeats 2000000 in
theorem n_at8 (d : Nat) (hd : d ≤ 15) (zs : List ByteArray) (A : Option Addr) (c i B : Nat) (MM : Int) (m : MkL) (A9 : Option Addr) (c9 : Nat) (A10 : Option Addr) (c10 : Nat) (w : World) (hL : LinesAt w A zs MM) (hi : i < zs.length) (hc : zs.length ≤ c) (hcm : c ≤ maxLen) (hB : B ≤ w.heap.size) (ha : AttR w (Rg B w) m.att A9 A10) (hk : m.kind = 8) :
    Calls Tryz.prog 39 #[.slice A zs.length c, .int .i64 i, .agg (m.cells (.slice A9 m.att.cl.length c9) (.slice A10 m.att.pr.length c10)), .int .i64 d] w (BkPost B (some (BkT.mk 4 0 ⟨#[]⟩ (mk (joinN (cutL zs (i + 1) (closeI zs m (i + 1))))) ⟨#[]⟩ ⟨#[]⟩ (closeA zs m (i + 1)) ⟨#[]⟩ [], min (closeI zs m (i + 1) + 1) zs.length)) w) := by
  have hlen := hL.len
  have HLi := Lib.hid hL
  have HA := Lib.hid ha
  have HS := Lib.hid (dw_start w (m.cells (.slice A9 m.att.cl.length c9) (.slice A10 m.att.pr.length c10)))
  obtain ⟨PR, hPR⟩ : ∃ PR, PR = some (BkT.mk 4 0 ⟨#[]⟩ (mk (joinN (cutL zs (i + 1) (closeI zs m (i + 1))))) ⟨#[]⟩ ⟨#[]⟩ (closeA zs m (i + 1)) ⟨#[]⟩ [], min (closeI zs m (i + 1) + 1) zs.length) := ⟨_, rfl⟩
  rw [← hPR]
  have hbd := closeI_bd zs m i hi
  have HC := Lib.hid fun W (h : LinesAt W A zs MM) => n_closing zs A c i MM m A9 m.att.cl.length c9 A10 m.att.pr.length c10 W h hi
  have HBet := Lib.hid fun W (h : LinesAt W A zs MM) => n_between zs A c i (closeI zs m (i + 1)) MM W h hbd.1 hbd.2 hc hcm
  generalize closeA zs m (i + 1) = a at *
  generalize closeI zs m (i + 1) = t at *
  generalize mk (joinN (cutL zs (i + 1) t)) = J at *
  unfold ClsPost MkL.cells at HC
  have HMn : ∀ w : World, (Builtin.min_ #[3, 3] 3 #[.int .i64 ((t : Int) + 1), .int .i64 zs.length]).run Tryz.prog w = .ok (.int .i64 ((min (t + 1) zs.length : Nat) : Int)) w := fun w => by
    rw [run_min_int2]
    congr 2
    split <;> omega
  have HPR := Lib.hid hPR
  have z2 : (((m.kind : Nat) : Int) == 2) = false := by rw [beq_eq_false_iff_ne]; omega
  have z3 : (((m.kind : Nat) : Int) == 3) = false := by rw [beq_eq_false_iff_ne]; omega
  have z11 : (((m.kind : Nat) : Int) == 11) = false := by rw [beq_eq_false_iff_ne]; omega
  have z4 : (((m.kind : Nat) : Int) == 4) = false := by rw [beq_eq_false_iff_ne]; omega
  have z7 : (((m.kind : Nat) : Int) == 7) = false := by rw [beq_eq_false_iff_ne]; omega
  have z8 : (((m.kind : Nat) : Int) == 8) = true := by rw [beq_iff_eq]; omega
  have HK := Lib.hid hk
  clear hL hk ha hPR
  unfold MkL.cells zbC at HS
  go_enter Tryz.func39, Tryz.ntmps39
  unfold MkL.cells
  go_upto_region 1 with fail
  generalize hW : (w.alloc _).alloc _ = W0
  have HD : Hid (DW w #[.int .i64 m.kind, .int .i64 m.n, .string m.ch, .int .i64 m.off, .string m.info, .string m.rest, .string m.dest, .string m.title, .string m.att.id, .slice A9 m.att.cl.length c9, .slice A10 m.att.pr.length c10] W0) := Lib.hid (by rw [← hW]; exact HS.out)
  clear hW HS
  have HL0 := Lib.hid (HLi.out.below HD.out.bel)
  have hw0 := HD.out.bel.size
  have hw1 := HD.out.res.lt
  obtain ⟨p0, p1, p2, p3, p4, p5, p6, p7, p8, p9, p10, x0, x1, x2, x3, x4, x5, x6, x7, x8, x9, x10⟩ := mk_facts HD.out.mrk
  clear x0 x1 x2 x3 x4 x5 x6 x7 x8 x9 x10
  go_wp2_with fail
  ((with_reducible refine (HC.out _ HL0.out).mono ?_))
  rintro e w1 ⟨⟨vC, vP, rfl, ho⟩, b1⟩
  obtain ⟨A1, c1, rfl⟩ := own_slice ho.cls
  obtain ⟨A2, c2, rfl⟩ := own_slice ho.prs
  have HD1 := Lib.hid (HD.out.next b1)
  have hz1 := b1.size
  obtain ⟨_, _, _, _, e1, e2, hat⟩ := AttR.of_own ho
  injection e1 with e1a _ e1b
  injection e2 with e2a _ e2b
  subst e1a e1b e2a e2b
  have HAT := Lib.hid hat
  clear ho b1 HC hat p0 p1 p2 p3 p4 p5 p6 p7 p8 p9 p10
  go_upto_region 14 with fail
  generalize hW2 : w1.alloc _ = W2
  obtain ⟨g12, hg12⟩ : ∃ g, g = w1.heap.size := ⟨_, rfl⟩
  have HBk : Hid (Blk W2 g12 43 #[.string a.id, .slice A1 a.cl.length c1, .slice A2 a.pr.length c2]) := Lib.hid (by rw [← hW2, hg12]; exact Blk.new w1 _ _)
  have HD2 : Hid (DW w #[.int .i64 m.kind, .int .i64 m.n, .string m.ch, .int .i64 m.off, .string m.info, .string m.rest, .string m.dest, .string m.title, .string m.att.id, .slice A9 m.att.cl.length c9, .slice A10 m.att.pr.length c10] W2) := Lib.hid (by rw [← hW2]; exact HD1.out.next ((Below.refl _ _).alloc (Nat.le_refl _) _))
  have HAT2 : Hid (AttR W2 (Rg W0.heap.size W2) a A1 A2) := Lib.hid (by rw [← hW2]; exact HAT.out.below ((Below.refl _ _).alloc (Nat.le_refl _) _))
  have hgw : w.heap.size + 1 < g12 := by omega
  have hz2 : W0.heap.size ≤ W2.heap.size := by rw [← hW2]; simp; omega
  rw [← hg12]
  clear hW2 hg12 HAT HD1 hz1
  have hgl := HBk.out.lt
  have HBr : Hid (Below W2.heap.size W2 W2) := Lib.hid (Below.refl _ _)
  have HS9 : Hid (∀ W, Below W2.heap.size W2 W → (W.cell? ⟨g12, 0, none⟩ = some (.string a.id) ∧ W.cell? ⟨g12, 1, none⟩ = some (.slice A1 a.cl.length c1) ∧ W.cell? ⟨g12, 2, none⟩ = some (.slice A2 a.pr.length c2) ∧ w.heap.size + 1 < W.heap.size)) := Lib.hid fun W h => by
    obtain ⟨q0, q1, q2, _⟩ := at_facts (HBk.out.below h hgl)
    exact ⟨q0, q1, q2, by have := h.size; omega⟩
  have HT11 : Hid (∀ W z0 z1 z2 z3 z4 z5 z6 z7 z8 z9 z10, Below W2.heap.size W2 W → ((((((((((((W.setCell ⟨w.heap.size + 1, 0, none⟩ z0).setCell ⟨w.heap.size + 1, 1, none⟩ z1).setCell ⟨w.heap.size + 1, 2, none⟩ z2).setCell ⟨w.heap.size + 1, 3, none⟩ z3).setCell ⟨w.heap.size + 1, 4, none⟩ z4).setCell ⟨w.heap.size + 1, 5, none⟩ z5).setCell ⟨w.heap.size + 1, 6, none⟩ z6).setCell ⟨w.heap.size + 1, 7, none⟩ z7).setCell ⟨w.heap.size + 1, 8, none⟩ z8).setCell ⟨w.heap.size + 1, 9, none⟩ z9).setCell ⟨w.heap.size + 1, 10, none⟩ z10).cell? ⟨g12, 0, none⟩ = some (.string a.id) ∧ (((((((((((W.setCell ⟨w.heap.size + 1, 0, none⟩ z0).setCell ⟨w.heap.size + 1, 1, none⟩ z1).setCell ⟨w.heap.size + 1, 2, none⟩ z2).setCell ⟨w.heap.size + 1, 3, none⟩ z3).setCell ⟨w.heap.size + 1, 4, none⟩ z4).setCell ⟨w.heap.size + 1, 5, none⟩ z5).setCell ⟨w.heap.size + 1, 6, none⟩ z6).setCell ⟨w.heap.size + 1, 7, none⟩ z7).setCell ⟨w.heap.size + 1, 8, none⟩ z8).setCell ⟨w.heap.size + 1, 9, none⟩ z9).setCell ⟨w.heap.size + 1, 10, none⟩ z10).cell? ⟨g12, 1, none⟩ = some (.slice A1 a.cl.length c1) ∧ (((((((((((W.setCell ⟨w.heap.size + 1, 0, none⟩ z0).setCell ⟨w.heap.size + 1, 1, none⟩ z1).setCell ⟨w.heap.size + 1, 2, none⟩ z2).setCell ⟨w.heap.size + 1, 3, none⟩ z3).setCell ⟨w.heap.size + 1, 4, none⟩ z4).setCell ⟨w.heap.size + 1, 5, none⟩ z5).setCell ⟨w.heap.size + 1, 6, none⟩ z6).setCell ⟨w.heap.size + 1, 7, none⟩ z7).setCell ⟨w.heap.size + 1, 8, none⟩ z8).setCell ⟨w.heap.size + 1, 9, none⟩ z9).setCell ⟨w.heap.size + 1, 10, none⟩ z10).cell? ⟨g12, 2, none⟩ = some (.slice A2 a.pr.length c2) ∧ w.heap.size + 1 < (((((((((((W.setCell ⟨w.heap.size + 1, 0, none⟩ z0).setCell ⟨w.heap.size + 1, 1, none⟩ z1).setCell ⟨w.heap.size + 1, 2, none⟩ z2).setCell ⟨w.heap.size + 1, 3, none⟩ z3).setCell ⟨w.heap.size + 1, 4, none⟩ z4).setCell ⟨w.heap.size + 1, 5, none⟩ z5).setCell ⟨w.heap.size + 1, 6, none⟩ z6).setCell ⟨w.heap.size + 1, 7, none⟩ z7).setCell ⟨w.heap.size + 1, 8, none⟩ z8).setCell ⟨w.heap.size + 1, 9, none⟩ z9).setCell ⟨w.heap.size + 1, 10, none⟩ z10).heap.size)) := Lib.hid fun W z0 z1 z2 z3 z4 z5 z6 z7 z8 z9 z10 h => by
    obtain ⟨q0, q1, q2, _⟩ := at_facts (Blk.grown (HBk.out.below h hgl) (grown11 W (w.heap.size + 1) z0 z1 z2 z3 z4 z5 z6 z7 z8 z9 z10) (by simp; omega))
    exact ⟨q0, q1, q2, Nat.lt_of_lt_of_le (by have := h.size; omega) (grown11 W (w.heap.size + 1) z0 z1 z2 z3 z4 z5 z6 z7 z8 z9 z10).size⟩
  have hw2 : IntKind.i64.wrap ((t : Int) + 1) = (t : Int) + 1 := IntWalk.i64_in _ (by omega)
  have HBt := Lib.hid (HBet.out W2 (HLi.out.below HD2.out.bel))
  have HBt2 : Hid (∀ W, Below W2.heap.size W2 W → Calls Tryz.prog 73 #[.slice A zs.length c, .int .i64 i, .int .i64 t] W fun e w' => e = .returned (.string J) ∧ Below W.heap.size W w') := Lib.hid fun W h => HBet.out W (HLi.out.below (HD2.out.bel.trans (h.mono HD2.out.bel.size)))
  obtain ⟨s0, s1, s2, _⟩ := HS9.out _ HBr.out
  go_wp2_with fail
  refine wp_region_held_drew (S := fun W' => W'.cell? ⟨g12, 0, none⟩ = some (.string a.id) ∧ W'.cell? ⟨g12, 1, none⟩ = some (.slice A1 a.cl.length c1) ∧ W'.cell? ⟨g12, 2, none⟩ = some (.slice A2 a.pr.length c2) ∧ w.heap.size + 1 < W'.heap.size) (by kernel_rfl) (HS9.out _ HBr.out.drew) (fun hHeld => ?_)
  refine wpAnyH_take (i := 0) (v := .slice A zs.length c) rfl (by kernel_rfl) (by kernel_rfl) (by kernel_rfl) (fun _ _ _ h => h) (Or.inl ⟨by kernel_rfl, fun W' hSw => ?_⟩) hHeld ?_
  · obtain ⟨h0, h1, h2, h3⟩ := hSw
    go_simp
  try simp only [Act.put, List.setIfInBounds_toArray, List.set_cons_zero, List.set_cons_succ]
  refine wpAnyH_take (i := 1) (v := .int .i64 i) rfl (by kernel_rfl) (by kernel_rfl) (by kernel_rfl) (fun _ _ _ h => h) (Or.inl ⟨by kernel_rfl, fun W' hSw => ?_⟩) hHeld ?_
  · obtain ⟨h0, h1, h2, h3⟩ := hSw
    go_simp
  try simp only [Act.put, List.setIfInBounds_toArray, List.set_cons_zero, List.set_cons_succ]
  refine wpAnyH_take (i := 2) (v := .int .i64 t) rfl (by kernel_rfl) (by kernel_rfl) (by kernel_rfl) (fun _ _ _ h => h) (Or.inl ⟨by kernel_rfl, fun W' hSw => ?_⟩) hHeld ?_
  · obtain ⟨h0, h1, h2, h3⟩ := hSw
    go_simp
  try simp only [Act.put, List.setIfInBounds_toArray, List.set_cons_zero, List.set_cons_succ]
  refine wpAnyH_take (i := 4) (v := .agg #[.string a.id, .slice A1 a.cl.length c1, .slice A2 a.pr.length c2]) rfl (by kernel_rfl) (by kernel_rfl) (by kernel_rfl) (fun _ _ _ h => h) (Or.inl ⟨by kernel_rfl, fun W' hSw => ?_⟩) hHeld ?_
  · obtain ⟨h0, h1, h2, h3⟩ := hSw
    go_simp
  try simp only [Act.put, List.setIfInBounds_toArray, List.set_cons_zero, List.set_cons_succ]
  refine wpAnyH_take (i := 6) (v := .int .i64 t) rfl (by kernel_rfl) (by kernel_rfl) (by kernel_rfl) (fun _ _ _ h => h) (Or.inl ⟨by kernel_rfl, fun W' hSw => ?_⟩) hHeld ?_
  · obtain ⟨h0, h1, h2, h3⟩ := hSw
    go_simp
  try simp only [Act.put, List.setIfInBounds_toArray, List.set_cons_zero, List.set_cons_succ]
  refine wpAnyH_take (i := 7) (v := .int .i64 ((t : Int) + 1)) rfl (by kernel_rfl) (by kernel_rfl) (by kernel_rfl) (fun _ _ _ h => h) (Or.inl ⟨by kernel_rfl, fun W' hSw => ?_⟩) hHeld ?_
  · obtain ⟨h0, h1, h2, h3⟩ := hSw
    go_simp
  try simp only [Act.put, List.setIfInBounds_toArray, List.set_cons_zero, List.set_cons_succ]
  refine wpAnyH_take (i := 8) (v := .slice A zs.length c) rfl (by kernel_rfl) (by kernel_rfl) (by kernel_rfl) (fun _ _ _ h => h) (Or.inl ⟨by kernel_rfl, fun W' hSw => ?_⟩) hHeld ?_
  · obtain ⟨h0, h1, h2, h3⟩ := hSw
    go_simp
  try simp only [Act.put, List.setIfInBounds_toArray, List.set_cons_zero, List.set_cons_succ]
  refine wpAnyH_take (i := 9) (v := .int .i64 zs.length) rfl (by kernel_rfl) (by kernel_rfl) (by kernel_rfl) (fun _ _ _ h => h) (Or.inl ⟨by kernel_rfl, fun W' hSw => ?_⟩) hHeld ?_
  · obtain ⟨h0, h1, h2, h3⟩ := hSw
    go_simp
  try simp only [Act.put, List.setIfInBounds_toArray, List.set_cons_zero, List.set_cons_succ]
  refine wpAnyH_take (i := 10) (v := .int .i64 ((min (t + 1) zs.length : Nat) : Int)) rfl (by kernel_rfl) (by kernel_rfl) (by kernel_rfl) (fun _ _ _ h => h) (Or.inl ⟨by kernel_rfl, fun W' hSw => ?_⟩) hHeld ?_
  · obtain ⟨h0, h1, h2, h3⟩ := hSw
    go_simp
  try simp only [Act.put, List.setIfInBounds_toArray, List.set_cons_zero, List.set_cons_succ]
  refine wpAnyH_ready (rs := [3]) (by kernel_rfl) (by simp) (AllReadyH.cons rfl (fun K hK => ?_) AllReadyH.nil)
  go_simp
  ((with_reducible refine (HBt2.out _ HBr.out.drew).mono ?_))
  rintro e w9 ⟨rfl, b8⟩
  have b9 : Below W2.heap.size W2 w9 := HBr.out.drew.trans b8
  have HD9 := Lib.hid (HD2.out.next b9)
  have hz9 : w.heap.size + 1 < w9.heap.size := HD9.out.res.lt
  obtain ⟨q0, q1, q2, q3, q4, q5, q6, q7, q8, q9, q10, r0, r1, r2, r3, r4, r5, r6, r7, r8, r9, r10⟩ := ZB.facts HD9.out.res
  go_simp
  refine hK.out _ _ (HS9.out _ b9) (fun hHeld => ?_)
  clear hK K
  try simp only [Act.put, List.setIfInBounds_toArray, List.set_cons_zero, List.set_cons_succ]
  refine wpAnyH_ready (rs := [5]) (by kernel_rfl) (by simp) (AllReadyH.cons rfl (fun K hK => ?_) AllReadyH.nil)
  go_simp
  refine hK.out _ _ (hHeld) (fun hHeld => ?_)
  clear hK K
  try simp only [Act.put, List.setIfInBounds_toArray, List.set_cons_zero, List.set_cons_succ]
  refine wpAnyH_ready (rs := [11]) (by kernel_rfl) (by simp) (AllReadyH.cons rfl (fun K hK => ?_) AllReadyH.nil)
  go_simp
  refine hK.out _ _ (HT11.out _ _ _ _ _ _ _ _ _ _ _ _ b9) (fun hHeld => ?_)
  clear hK K
  try simp only [Act.put, List.setIfInBounds_toArray, List.set_cons_zero, List.set_cons_succ]
  refine wpAnyH_ready (rs := [12]) (by kernel_rfl) (by simp) (AllReadyH.cons rfl (fun K hK => ?_) AllReadyH.nil)
  go_simp
  refine hK.out _ _ (hHeld) (fun hHeld => ?_)
  clear hK K
  try simp only [Act.put, List.setIfInBounds_toArray, List.set_cons_zero, List.set_cons_succ]
  refine wpAnyH_ready (rs := [13]) (by kernel_rfl) (by simp) (AllReadyH.cons rfl (fun K hK => ?_) AllReadyH.nil)
  go_simp
  refine hK.out _ _ (hHeld) (fun hHeld => ?_)
  clear hK K
  try simp only [Act.put, List.setIfInBounds_toArray, List.set_cons_zero, List.set_cons_succ]
  refine wpAnyH_done (by kernel_rfl) ?_ _
  go_wp2_with fail
  rw [HPR.out]
  exact blockAt_ret (blk11 HD9.out.res _ _ _ _ _ _ _ _ _ _ _) rfl rfl rfl rfl (bk_some rfl (repB_mk (att := a) ((HAT2.out.below b9).keep (fun x hx => (grown11 _ (w.heap.size + 1) _ _ _ _ _ _ _ _ _ _ _).block x hx.2 (fun e => by injection e with e; have := hx.1; omega)) (fun x hx => ⟨by have := hx.1; omega, Nat.lt_of_lt_of_le hx.2 (grown11 _ (w.heap.size + 1) _ _ _ _ _ _ _ _ _ _ _).size⟩)) (srcV_none _ _) (KidsV.none_ _ _)) (below11 HD9.out.bel (Nat.le_succ _) _ _ _ _ _ _ _ _ _ _ _))

end Go.Proofs.YtpoafhgbhnblmaaGreatDoor
