/-
  Texts of the proof, put together (what this law reaches): NsVB, NsFC.
-/
import Derived.Test.YtpoafhgbhnblmaaGreatDoorX40
import Derived.Test.YtpoafhgbhnblmaaGreatDoorX15
import Derived.Test.YtpoafhgbhnblmaaGreatDoorX39
import Derived.Test.YtpoafhgbhnblmaaGreatDoorX36
import Derived.Test.YtpoafhgbhnblmaaGreatDoorX33
set_option linter.unusedVariables false
set_option linter.unusedSimpArgs false
namespace Go.Proofs.YtpoafhgbhnblmaaGreatDoor
open Go.RowKit Go.Pub
set_option maxRecDepth 100000 in
set_option maxHeartbeats 2000000 in
theorem n_at2 (d : Nat) (hd : d ≤ 15) (zs : List ByteArray) (A : Option Addr) (c i B : Nat) (MM : Int) (m : MkL) (A9 : Option Addr) (c9 : Nat) (A10 : Option Addr) (c10 : Nat) (w : World) (hL : LinesAt w A zs MM) (hi : i < zs.length) (hc : zs.length ≤ c) (hcm : c ≤ maxLen) (hB : B ≤ w.heap.size) (ha : AttR w (Rg B w) m.att A9 A10) (hk : m.kind = 2) :
    Calls Tryz.prog 39 #[.slice A zs.length c, .int .i64 i, .agg (m.cells (.slice A9 m.att.cl.length c9) (.slice A10 m.att.pr.length c10)), .int .i64 d] w (BkPost B (some (BkT.mk 2 m.n ⟨#[]⟩ ⟨#[]⟩ ⟨#[]⟩ ⟨#[]⟩ m.att m.rest [], i + 1)) w) := by
  have hlen := hL.len
  have HLi := Lib.hid hL
  have HA := Lib.hid ha
  have HS := Lib.hid (dw_start w (m.cells (.slice A9 m.att.cl.length c9) (.slice A10 m.att.pr.length c10)))
  obtain ⟨PR, hPR⟩ : ∃ PR, PR = some (BkT.mk 2 m.n ⟨#[]⟩ ⟨#[]⟩ ⟨#[]⟩ ⟨#[]⟩ m.att m.rest [], i + 1) := ⟨_, rfl⟩
  rw [← hPR]
  have HSr := Lib.hid fun W => n_source m.rest W
  have HPR := Lib.hid hPR
  have z2 : (((m.kind : Nat) : Int) == 2) = true := kT (by omega)
  have HK := Lib.hid hk
  clear hL hk ha hPR
  unfold MkL.cells zbC at HS
  go_enter Tryz.func39, Tryz.ntmps39
  unfold MkL.cells
  go_upto_region 1 with fail
  generalize hW : (w.alloc _).alloc _ = W0
  have HD : Hid (DW w #[.int .i64 m.kind, .int .i64 m.n, .string m.ch, .int .i64 m.off, .string m.info, .string m.rest, .string m.dest, .string m.title, .string m.att.id, .slice A9 m.att.cl.length c9, .slice A10 m.att.pr.length c10] W0) := Lib.hid (by rw [← hW]; exact HS.out)
  clear hW HS
  have HL0 := Lib.hid (HLi.out.below HD.out.bel)
  have hw0 := HD.out.bel.size
  have hw1 := HD.out.res.lt
  obtain ⟨p0, p1, p2, p3, p4, p5, p6, p7, p8, p9, p10, x0, x1, x2, x3, x4, x5, x6, x7, x8, x9, x10⟩ := mk_facts HD.out.mrk
  clear x0 x1 x2 x3 x4 x5 x6 x7 x8 x9 x10
  have HS9 : Hid (∀ W, Below W0.heap.size W0 W → (W.cell? ⟨w.heap.size, 1, none⟩ = some (.int .i64 m.n) ∧ W.cell? ⟨w.heap.size, 5, none⟩ = some (.string m.rest) ∧ W.cell? ⟨w.heap.size, 8, none⟩ = some (.string m.att.id) ∧ W.cell? ⟨w.heap.size, 9, none⟩ = some (.slice A9 m.att.cl.length c9) ∧ W.cell? ⟨w.heap.size, 10, none⟩ = some (.slice A10 m.att.pr.length c10) ∧ w.heap.size + 1 < W.heap.size)) := Lib.hid fun W h => by
    obtain ⟨p0, p1, p2, p3, p4, p5, p6, p7, p8, p9, p10, x0⟩ := mk_facts (HD.out.mrk.below h (by omega))
    exact ⟨p1, p5, p8, p9, p10, Nat.lt_of_lt_of_le hw1 h.size⟩
  have HT11 : Hid (∀ W z0 z1 z2 z3 z4 z5 z6 z7 z8 z9 z10, Below W0.heap.size W0 W → ((((((((((((W.setCell ⟨w.heap.size + 1, 0, none⟩ z0).setCell ⟨w.heap.size + 1, 1, none⟩ z1).setCell ⟨w.heap.size + 1, 2, none⟩ z2).setCell ⟨w.heap.size + 1, 3, none⟩ z3).setCell ⟨w.heap.size + 1, 4, none⟩ z4).setCell ⟨w.heap.size + 1, 5, none⟩ z5).setCell ⟨w.heap.size + 1, 6, none⟩ z6).setCell ⟨w.heap.size + 1, 7, none⟩ z7).setCell ⟨w.heap.size + 1, 8, none⟩ z8).setCell ⟨w.heap.size + 1, 9, none⟩ z9).setCell ⟨w.heap.size + 1, 10, none⟩ z10).cell? ⟨w.heap.size, 1, none⟩ = some (.int .i64 m.n) ∧ (((((((((((W.setCell ⟨w.heap.size + 1, 0, none⟩ z0).setCell ⟨w.heap.size + 1, 1, none⟩ z1).setCell ⟨w.heap.size + 1, 2, none⟩ z2).setCell ⟨w.heap.size + 1, 3, none⟩ z3).setCell ⟨w.heap.size + 1, 4, none⟩ z4).setCell ⟨w.heap.size + 1, 5, none⟩ z5).setCell ⟨w.heap.size + 1, 6, none⟩ z6).setCell ⟨w.heap.size + 1, 7, none⟩ z7).setCell ⟨w.heap.size + 1, 8, none⟩ z8).setCell ⟨w.heap.size + 1, 9, none⟩ z9).setCell ⟨w.heap.size + 1, 10, none⟩ z10).cell? ⟨w.heap.size, 5, none⟩ = some (.string m.rest) ∧ (((((((((((W.setCell ⟨w.heap.size + 1, 0, none⟩ z0).setCell ⟨w.heap.size + 1, 1, none⟩ z1).setCell ⟨w.heap.size + 1, 2, none⟩ z2).setCell ⟨w.heap.size + 1, 3, none⟩ z3).setCell ⟨w.heap.size + 1, 4, none⟩ z4).setCell ⟨w.heap.size + 1, 5, none⟩ z5).setCell ⟨w.heap.size + 1, 6, none⟩ z6).setCell ⟨w.heap.size + 1, 7, none⟩ z7).setCell ⟨w.heap.size + 1, 8, none⟩ z8).setCell ⟨w.heap.size + 1, 9, none⟩ z9).setCell ⟨w.heap.size + 1, 10, none⟩ z10).cell? ⟨w.heap.size, 8, none⟩ = some (.string m.att.id) ∧ (((((((((((W.setCell ⟨w.heap.size + 1, 0, none⟩ z0).setCell ⟨w.heap.size + 1, 1, none⟩ z1).setCell ⟨w.heap.size + 1, 2, none⟩ z2).setCell ⟨w.heap.size + 1, 3, none⟩ z3).setCell ⟨w.heap.size + 1, 4, none⟩ z4).setCell ⟨w.heap.size + 1, 5, none⟩ z5).setCell ⟨w.heap.size + 1, 6, none⟩ z6).setCell ⟨w.heap.size + 1, 7, none⟩ z7).setCell ⟨w.heap.size + 1, 8, none⟩ z8).setCell ⟨w.heap.size + 1, 9, none⟩ z9).setCell ⟨w.heap.size + 1, 10, none⟩ z10).cell? ⟨w.heap.size, 9, none⟩ = some (.slice A9 m.att.cl.length c9) ∧ (((((((((((W.setCell ⟨w.heap.size + 1, 0, none⟩ z0).setCell ⟨w.heap.size + 1, 1, none⟩ z1).setCell ⟨w.heap.size + 1, 2, none⟩ z2).setCell ⟨w.heap.size + 1, 3, none⟩ z3).setCell ⟨w.heap.size + 1, 4, none⟩ z4).setCell ⟨w.heap.size + 1, 5, none⟩ z5).setCell ⟨w.heap.size + 1, 6, none⟩ z6).setCell ⟨w.heap.size + 1, 7, none⟩ z7).setCell ⟨w.heap.size + 1, 8, none⟩ z8).setCell ⟨w.heap.size + 1, 9, none⟩ z9).setCell ⟨w.heap.size + 1, 10, none⟩ z10).cell? ⟨w.heap.size, 10, none⟩ = some (.slice A10 m.att.pr.length c10) ∧ w.heap.size + 1 < (((((((((((W.setCell ⟨w.heap.size + 1, 0, none⟩ z0).setCell ⟨w.heap.size + 1, 1, none⟩ z1).setCell ⟨w.heap.size + 1, 2, none⟩ z2).setCell ⟨w.heap.size + 1, 3, none⟩ z3).setCell ⟨w.heap.size + 1, 4, none⟩ z4).setCell ⟨w.heap.size + 1, 5, none⟩ z5).setCell ⟨w.heap.size + 1, 6, none⟩ z6).setCell ⟨w.heap.size + 1, 7, none⟩ z7).setCell ⟨w.heap.size + 1, 8, none⟩ z8).setCell ⟨w.heap.size + 1, 9, none⟩ z9).setCell ⟨w.heap.size + 1, 10, none⟩ z10).heap.size)) := Lib.hid fun W z0 z1 z2 z3 z4 z5 z6 z7 z8 z9 z10 h => by
    obtain ⟨p0, p1, p2, p3, p4, p5, p6, p7, p8, p9, p10, x0⟩ := mk_facts (Blk.grown (HD.out.mrk.below h (by omega)) (grown11 W (w.heap.size + 1) z0 z1 z2 z3 z4 z5 z6 z7 z8 z9 z10) (by simp))
    exact ⟨p1, p5, p8, p9, p10, Nat.lt_of_lt_of_le (Nat.lt_of_lt_of_le hw1 h.size) (grown11 W (w.heap.size + 1) z0 z1 z2 z3 z4 z5 z6 z7 z8 z9 z10).size⟩
  have HBr : Hid (Below W0.heap.size W0 W0) := Lib.hid (Below.refl _ _)
  have hw2 : IntKind.i64.wrap ((i : Int) + 1) = (i : Int) + 1 := IntWalk.i64_in _ (by omega)
  clear p1 p2 p3 p4 p5 p6 p7 p8 p9 p10
  have s0 := HS9.out _ HBr.out
  obtain ⟨p1, p5, p8, p9, p10, _⟩ := s0
  go_wp2_with fail
  refine wp_region_held_drew (S := fun W' => W'.cell? ⟨w.heap.size, 1, none⟩ = some (.int .i64 m.n) ∧ W'.cell? ⟨w.heap.size, 5, none⟩ = some (.string m.rest) ∧ W'.cell? ⟨w.heap.size, 8, none⟩ = some (.string m.att.id) ∧ W'.cell? ⟨w.heap.size, 9, none⟩ = some (.slice A9 m.att.cl.length c9) ∧ W'.cell? ⟨w.heap.size, 10, none⟩ = some (.slice A10 m.att.pr.length c10) ∧ w.heap.size + 1 < W'.heap.size) (by kernel_rfl) (HS9.out _ HBr.out.drew) (fun hHeld => ?_)
  refine tk 0 (.pointer (some ⟨w.heap.size, 1, none⟩)) rfl hHeld (fun W' hSw => ?_) ?_
  · obtain ⟨h0, h1, h2, h3, h4, h5⟩ := hSw
    go_simp
  refine tk 1 (.int .i64 m.n) rfl hHeld (fun W' hSw => ?_) ?_
  · obtain ⟨h0, h1, h2, h3, h4, h5⟩ := hSw
    go_simp
  refine tk 2 (.pointer (some ⟨w.heap.size, 5, none⟩)) rfl hHeld (fun W' hSw => ?_) ?_
  · obtain ⟨h0, h1, h2, h3, h4, h5⟩ := hSw
    go_simp
  refine tk 3 (.string m.rest) rfl hHeld (fun W' hSw => ?_) ?_
  · obtain ⟨h0, h1, h2, h3, h4, h5⟩ := hSw
    go_simp
  refine tk 5 (.pointer (some ⟨w.heap.size, 8, none⟩)) rfl hHeld (fun W' hSw => ?_) ?_
  · obtain ⟨h0, h1, h2, h3, h4, h5⟩ := hSw
    go_simp
  refine tk 6 (.agg #[.string m.att.id, .slice A9 m.att.cl.length c9, .slice A10 m.att.pr.length c10]) rfl hHeld (fun W' hSw => ?_) ?_
  · obtain ⟨h0, h1, h2, h3, h4, h5⟩ := hSw
    go_simp
  refine tk 8 (.int .i64 i) rfl hHeld (fun W' hSw => ?_) ?_
  · obtain ⟨h0, h1, h2, h3, h4, h5⟩ := hSw
    go_simp
  refine tk 9 (.int .i64 ((i : Int) + 1)) rfl hHeld (fun W' hSw => ?_) ?_
  · obtain ⟨h0, h1, h2, h3, h4, h5⟩ := hSw
    go_simp
  refine rd1 4 rfl (fun K hK => ?_)
  go_simp
  ((with_reducible refine (HSr.out _).mono ?_))
  rintro e w9 ⟨v, rfl, hsrc, b8⟩
  have b9 : Below W0.heap.size W0 w9 := HBr.out.drew.trans b8
  obtain ⟨Av, nv, cv, rfl⟩ := srcV_form hsrc
  have HD9 := Lib.hid (HD.out.next b9)
  have hz9 : w.heap.size + 1 < w9.heap.size := HD9.out.res.lt
  obtain ⟨q0, q1, q2, q3, q4, q5, q6, q7, q8, q9, q10, r0, r1, r2, r3, r4, r5, r6, r7, r8, r9, r10⟩ := ZB.facts HD9.out.res
  go_simp
  refine hK.out _ _ (HS9.out _ b9) (fun hHeld => ?_)
  clear hK K
  refine rd1 7 rfl (fun K hK => ?_)
  go_simp
  refine hK.out _ _ (hHeld) (fun hHeld => ?_)
  clear hK K
  refine rd1 10 rfl (fun K hK => ?_)
  go_simp
  refine hK.out _ _ (HT11.out _ _ _ _ _ _ _ _ _ _ _ _ b9) (fun hHeld => ?_)
  clear hK K
  refine rd1 11 rfl (fun K hK => ?_)
  go_simp
  refine hK.out _ _ (hHeld) (fun hHeld => ?_)
  clear hK K
  refine rd1 12 rfl (fun K hK => ?_)
  go_simp
  refine hK.out _ _ (hHeld) (fun hHeld => ?_)
  clear hK K
  refine wpAnyH_done (by kernel_rfl) ?_ _
  go_wp2_with fail
  rw [HPR.out]
  exact blockAt_ret (blk11 HD9.out.res _ _ _ _ _ _ _ _ _ _ _) rfl rfl rfl rfl (bk_some rfl (repB_mk (att := m.att) (HA.out.far (below11 HD9.out.bel (Nat.le_succ _) _ _ _ _ _ _ _ _ _ _ _) (Nat.le_refl _)) (srcV_far (B := W0.heap.size) hsrc (grown11 _ _ _ _ _ _ _ _ _ _ _ _ _) hw1 (by omega)) (KidsV.none_ _ _)) (below11 HD9.out.bel (Nat.le_succ _) _ _ _ _ _ _ _ _ _ _ _))

end Go.Proofs.YtpoafhgbhnblmaaGreatDoor
namespace Go.Proofs.YtpoafhgbhnblmaaGreatDoor
open Go.RowKit Go.Pub
/-- As BksPost; and the capacity of the blocks. -/
def BksPostC (r : Option (List BkT × List (Nat × Nat))) (w : World) (e : Ending) (w' : World) : Prop :=
  Below w.heap.size w w' ∧ match r with
  | none => e = .returned bkErr
  | some p => ∃ v A c, e = .returned (.tuple #[v, .slice A p.2.length c, .int .i64 0]) ∧ KidsV w' (Rg w.heap.size w') v p.1 ∧ ReadsS w' (Rg w.heap.size w') 2 A p.2.length (rngs p.2) ∧ ∃ A' c', v = .slice A' p.1.length c' ∧ p.1.length ≤ c'
theorem KOwn.cap {w : World} {base n c : Nat} {E : Nat → Prop} {A : Option Addr} {bs : List BkT} (h : KOwn w base E (.slice A n c) bs) : bs.length ≤ c := by
  obtain ⟨S, vs, hS, hk, ho⟩ := h
  obtain ⟨A', c', e, h1, h2⟩ : ∃ A' c', Value.slice A n c = .slice A' bs.length c' ∧ bs.length ≤ c' ∧ c' ≤ maxLen := by
    rcases ho.2 with ⟨e, h0⟩ | ⟨g, cap, cur, e, _, _, h1, h2, _⟩
    · rw [e, h0]; exact ⟨_, _, rfl, Nat.le_refl _, Nat.zero_le _⟩
    · rw [e]; exact ⟨_, _, rfl, h1, h2⟩
  injection e with _ _ e
  rw [e]; exact h1
set_option maxRecDepth 100000 in
set_option maxHeartbeats 4000000 in
theorem n_blocksC (n d : Nat) (hnd : n + d = 16) (zs : List ByteArray) (A : Option Addr) (c : Nat) (MM : Int) (w : World) (hL : LinesAt w A zs MM) (HA : n ≠ 0 → AtP n d zs A c MM) :
    Calls Tryz.prog 30 #[.slice A zs.length c, .int .i64 d] w (BksPostC (blocksN n zs) w) := by
  obtain ⟨i0, hi0, hz0, hz1, hz2⟩ := info_parts block_info
  obtain ⟨j0, hj0, hy0, hy1, hy2⟩ := info_parts range_info
  have HL := Lib.hid hL
  have HAt := Lib.hid HA
  have hlen := hL.len
  have hwp := hL.pos
  have HM : Hid (∀ i W, Calls Tryz.prog 38 #[.string (ln zs i)] W fun e w' => ∃ A c D d, e = .returned (.agg ((markM (ln zs i)).cells (.slice A (markM (ln zs i)).att.cl.length c) (.slice D (markM (ln zs i)).att.pr.length d))) ∧ AttR w' (Rg W.heap.size w') (markM (ln zs i)).att A D ∧ Below W.heap.size W w') := Lib.hid fun i W => (m_of (ln zs i) W (Nat.le_trans (ln_size hL.sz i) (by decide))).mono fun e w' h => by
    obtain ⟨⟨_, rfl, C, P, rfl, o⟩, b⟩ := h
    obtain ⟨A1, c1, A2, c2, rfl, rfl, h⟩ := AttR.of_own o
    exact ⟨A1, c1, A2, c2, rfl, h, b⟩
  have HR0 : Hid (blocksN n zs = (restT (atN n zs) zs 0).map fun p => ([] ++ p.1, [] ++ p.2)) := Lib.hid (by
    rw [blocksN_rest]; cases restT (atN n zs) zs 0 <;> rfl)
  have HK := Lib.hid fun i => mark_kinds (ln zs i)
  have hd15 : decide (15 < (d : Int)) = decide (n = 0) := decide_eq_decide.2 (by omega)
  clear hL HA
  go_enter Tryz.func30, Tryz.ntmps30
  go_wp2_with fail
  go_loopw [7, 8, 9] (fun v7 v8 v9 wr => BlRel n zs w v7 v8 v9 wr) (fun _ _ v9 _ => zs.length - (intOf v9).toNat)
  case atStart => exact ⟨0, [], [], rfl, Nat.zero_le _, Lib.hid (KOwn.nil _ _ _), World.ownsRow_nil _ _ _ _, Nat.le_refl _, Nat.le_refl _, Below.refl _ _, HR0⟩
  case round =>
    obtain ⟨i, bs, rs, rfl, hi, HKO, hrng, hbi, hri, hbw, HR⟩ := hrel
    have hzr := hbw.size
    have HLr := Lib.hid (HL.out.below hbw)
    obtain ⟨A7, c7, rfl⟩ := HKO.out.own
    obtain ⟨A8, c8, rfl⟩ := own_slice hrng
    by_cases hlt : i < zs.length
    · obtain ⟨b, off, rfl, hb, hcell⟩ := HLr.out.get (by omega)
      have hc0 := hcell i hlt
      have hKi := HK.out i
      clear hcell
      go_wp2_with fail
      ((with_reducible refine (HM.out _ _).mono ?_))
      rintro e w1 ⟨A1, c1, A2, c2, rfl, hat, b1⟩
      have hz1' := b1.size
      cases hbl : blankB (ln zs i) with
      | true =>
        have hk1 : (markM (ln zs i)).kind = 1 := hKi.1 hbl
        have HRn : Hid (blocksN n zs = (restT (atN n zs) zs (i + 1)).map fun p => (bs ++ p.1, rs ++ p.2)) := Lib.hid (by rw [HR.out, restT_blank _ _ _ hlt hbl])
        have kk : (((markM (ln zs i)).kind : Nat) : Int) = 1 := by omega
        unfold MkL.cells
        rw [kk]
        go_wp2_with fail
        go_roundw
        case rel =>
          have hbb := fun o => b1.alloc b1.size o
          exact ⟨i + 1, bs, rs, by go_num, by omega, Lib.hid (HKO.out.below (hbb _)), own_below hrng (hbb _), by omega, by omega, hbw.trans ((hbb _).mono hzr), HRn⟩
        case measure => simp [intOf]; omega
      | false =>
        have hk := hKi.2 hbl
        have hst := Lib.hid (blocks_step n zs i hlt hbl)
        have hk1 : ((((markM (ln zs i)).kind : Nat) : Int) == 1) = false := by rw [beq_eq_false_iff_ne]; omega
        have HAi : Hid (n ≠ 0 → ∀ (W : World) (A9 : Option Addr) (c9 : Nat) (A10 : Option Addr) (c10 : Nat), wr.heap.size ≤ W.heap.size → LinesAt W (some ⟨b, off, none⟩) zs MM → AttR W (Rg wr.heap.size W) (markM (ln zs i)).att A9 A10 →
          Calls Tryz.prog 39 #[.slice (some ⟨b, off, none⟩) zs.length c, .int .i64 i, .agg ((markM (ln zs i)).cells (.slice A9 (markM (ln zs i)).att.cl.length c9) (.slice A10 (markM (ln zs i)).att.pr.length c10)), .int .i64 d] W (BkPost wr.heap.size (atN n zs i (markM (ln zs i))) W)) := Lib.hid fun h0 W A9 c9 A10 c10 h1 h2 h3 => HAt.out h0 i wr.heap.size W A9 c9 A10 c10 hlt hbl h1 h2 h3
        have hto : Hid (∀ r, atN n zs i (markM (ln zs i)) = some r → i < r.2 ∧ r.2 ≤ zs.length) := Lib.hid fun r e => atN_bd n zs i r hlt e
        have hn0 : Hid (n = 0 → atN n zs i (markM (ln zs i)) = none) := Lib.hid fun e => by subst e; rfl
        generalize atN n zs i (markM (ln zs i)) = R at *
        clear hKi HM hk HK HAt
        generalize markM (ln zs i) = m at *
        unfold MkL.cells at HAi ⊢
        by_cases hn : n = 0
        · have hRn := hn0.out hn
          have HE : Hid (blocksN n zs = none) := Lib.hid (by rw [HR.out, hst.out, hRn]; rfl)
          rw [decide_eq_true hn] at hd15
          clear HAi
          go_wp2_with fail
          go_ret3
          exact ⟨hbw.trans ((b1.alloc b1.size _).mono hzr), by rw [HE.out]; rfl⟩
        · rw [decide_eq_false hn] at hd15
          go_wp2_with fail
          ((with_reducible refine (HAi.out hn _ A1 c1 A2 c2 (by simp; omega) (HLr.out.below (b1.alloc b1.size _)) (hat.below ((Below.refl _ _).alloc (Nat.le_refl _) _))).mono ?_))
          rintro e w2 ⟨b2, hp⟩
          have hz2' := b2.size
          have b12 : Below wr.heap.size wr w2 := (b1.alloc b1.size _).trans (b2.mono (by simp; omega))
          clear b2 b1 hat hn0
          cases R with
          | none =>
            obtain ⟨v, u, ⟨i0, i1, s2, s3, s4, s5, s6, A7, n7, c7, A8, n8, c8, A9, n9, c9, A10, n10, c10, rfl⟩, rfl⟩ := hp
            have HE : Hid (blocksN n zs = none) := Lib.hid (by rw [HR.out, hst.out]; rfl)
            clear HAi HR hst
            go_wp2_with fail
            go_ret3
            exact ⟨hbw.trans ((b12.alloc b12.size _).mono hzr), by rw [HE.out]; rfl⟩
          | some r =>
            obtain ⟨bk, tq⟩ := r
            obtain ⟨v, rfl, hrep⟩ := hp
            have hab := hrep.form
            obtain ⟨f0, f1, f2, f3, f4, f5, f6, A9, n9, c9, A10, n10, c10, A11, n11, c11, A12, n12, c12, rfl⟩ := hrep.form
            have hto' := hto.out _ rfl
            simp only [] at hto'
            obtain ⟨S, vs, hS, hkk, hown⟩ := HKO.out
            have hown2 := own_below hown b12
            have hrng2 := own_below hrng b12
            have hsz12 := b12.size
            have hv7 := hown.lt
            have hv8 := hrng.lt
            have HREP := Lib.hid hrep
            have HKK := Lib.hid hkk
            have HSS := Lib.hid hS
            have hne78 := own_ne hown2 hrng2 (by decide)
            have HNX : Hid (blocksN n zs = (restT (atN n zs) zs tq).map fun p => ((bs ++ [bk]) ++ p.1, (rs ++ [(i, tq)]) ++ p.2)) := Lib.hid (by
              rw [HR.out, hst.out]
              simp only []
              cases restT (atN n zs) zs tq with
              | none => rfl
              | some q => simp)
            clear HAi HR hst hrep hkk hS hown hrng hto HKO
            go_wp2_with (at_builtin; refine wpList_append_lies _ rfl _ _ 25 rfl w.heap.size 46 i0 _ 11 192 Tryz.underlying25 hi0 hz0 hz1 hz2 rfl (by decide) _ _ _ rfl ((hown2.alloc _).alloc _) ⟨w2.heap.size + 1, 0, none⟩ 1 1 _ rfl hab.len ?c1 hab.one (by decide) ?c3 ?c4 ?c5 (w2.heap.size + 2) ?c6 ?_)
            case c3 => unfold maxLen; omega
            case c4 => omega
            case c5 => simp; omega
            case c6 => simp
            intro g7 cap7 w3 hown3 hgrow hlies hlt3
            have hrng3 := ((hrng2.alloc (.cells #[.int .i64 f0, .int .i64 f1, .string f2, .string f3, .string f4, .string f5, .string f6, .slice A9 n9 c9, .slice A10 n10 c10, .slice A11 n11 c11, .slice A12 n12 c12] 46)).alloc (.cells #[.int .i64 f0, .int .i64 f1, .string f2, .string f3, .string f4, .string f5, .string f6, .slice A9 n9 c9, .slice A10 n10 c10, .slice A11 n11 c11, .slice A12 n12 c12] 46)).kept hgrow (own_ne hrng2 hown2 (by decide))
            have HKO3 := Lib.hid (KOwn.push HSS.out HKK.out (b12.alloc b12.size (.cells #[.int .i64 f0, .int .i64 f1, .string f2, .string f3, .string f4, .string f5, .string f6, .slice A9 n9 c9, .slice A10 n10 c10, .slice A11 n11 c11, .slice A12 n12 c12] 46)) (fun k h => (hv7 k h).2) (fun k h => (hv8 k h).2) hzr (by simp; omega) (HREP.out.low ((Below.refl _ _).alloc (Nat.le_refl _) _)) hown3 hgrow hlies (by simp))
            have hbw3 : Below w.heap.size w w3 := (((hbw.trans (b12.mono hzr)).alloc (by omega) (.cells #[.int .i64 f0, .int .i64 f1, .string f2, .string f3, .string f4, .string f5, .string f6, .slice A9 n9 c9, .slice A10 n10 c10, .slice A11 n11 c11, .slice A12 n12 c12] 46)).alloc (by simp; omega) (.cells #[.int .i64 f0, .int .i64 f1, .string f2, .string f3, .string f4, .string f5, .string f6, .slice A9 n9 c9, .slice A10 n10 c10, .slice A11 n11 c11, .slice A12 n12 c12] 46)).grown hgrow (by simp; omega) (fun k hk => (hv7 k hk).1)
            have hz3 := hbw3.size
            have hne3 := own_ne hown3 hrng3 (by decide)
            clear hown2 hrng2 hgrow hlies HSS HKK HREP hv7 hv8 b12 hown3 hab hne78 hz2' hsz12
            go_wp2_with (at_builtin; refine wpList_append_lies _ rfl _ _ 30 rfl w.heap.size 34 j0 _ 2 16 Tryz.underlying30 hj0 hy0 hy1 hy2 rfl (by decide) _ _ _ rfl (hrng3.alloc _) ⟨w3.heap.size, 0, none⟩ 1 1 [.int .i64 i, .int .i64 tq] rfl rfl ?d1 ?d2 (by decide) ?d3 ?d4 ?d5 (w3.heap.size + 1) ?d6 ?_)
            case d1 => exact World.news_of_block (t := 34) (fr := (0, 0)) (cs := #[.int .i64 i, .int .i64 tq]) (heap_alloc_new w3 _)
            case d2 => intro u hu; simp at hu; rcases hu with rfl | rfl <;> rfl
            case d3 => unfold maxLen; omega
            case d4 => omega
            case d5 => simp; omega
            case d6 => simp
            intro g8 cap8 w4 hown4 hgrow4 hlies4 hlt4
            have HKO4 := Lib.hid ((HKO3.out.below ((Below.refl _ _).alloc (Nat.le_refl _) (.cells #[.int .i64 i, .int .i64 tq] 34))).kept hgrow4 hne3 hlies4 (by simp))
            have hbw4 : Below w.heap.size w w4 := (hbw3.alloc hz3 (.cells #[.int .i64 i, .int .i64 tq] 34)).grown hgrow4 (by simp; omega) (fun k hk => (hrng3.lt k hk).1)
            clear hgrow4 hlies4 hrng3 HKO3 hne3
            go_wp2_with fail
            go_roundw
            case rel =>
              refine ⟨tq, bs ++ [bk], rs ++ [(i, tq)], rfl, hto'.2, ?_, ?_, by simp; omega, by simp; omega, hbw4, HNX⟩
              · have h := HKO4.out
                exact Lib.hid h
              · rw [List.length_append, ← rngs_snoc]; exact hown4
            case measure => simp [intOf]; omega
    · have HE : Hid (blocksN n zs = some (bs, rs)) := Lib.hid (by rw [HR.out, restT_end _ _ _ (by omega)]; simp)
      go_wp2_with fail
      go_ret3
      refine ⟨hbw, ?_⟩
      rw [HE.out]
      exact ⟨_, _, _, rfl, HKO.out.kids, ReadsS.of_own hrng, _, _, rfl, HKO.out.cap⟩

end Go.Proofs.YtpoafhgbhnblmaaGreatDoor
