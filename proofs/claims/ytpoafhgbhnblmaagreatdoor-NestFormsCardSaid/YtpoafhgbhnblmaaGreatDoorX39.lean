/-
  Texts of the proof, put together (what this law reaches): NsJ.
-/
import Derived.Test.YtpoafhgbhnblmaaGreatDoorX33
import Derived.Test.YtpoafhgbhnblmaaGreatDoorX15
import Derived.Laws.MakeOwn
import Derived.Deep.CutBlock
import Derived.Deep.DeepCutAuto
set_option linter.unusedVariables false
set_option linter.unusedSimpArgs false
namespace Go.Proofs.YtpoafhgbhnblmaaGreatDoor
open Go.RowKit Go.Pub
/-- The first lines of a code block. -/
def stripK (zs : List ByteArray) (i t n k : Nat) : List ByteArray := ((cutL zs (i + 1) t).take k).map fun z => stripB z n
theorem stripK_succ (zs : List ByteArray) (i t n k : Nat) (h2 : t ≤ zs.length) (hk : i + 1 + k < t) : strs (stripK zs i t n (k + 1)) = strs (stripK zs i t n k) ++ [.string (stripB (ln zs (i + 1 + k)) n)] := by
  have hl : (cutL zs (i + 1) t).length = t - (i + 1) := cutL_len _ _ _ (by omega) h2
  unfold stripK strs
  rw [List.take_succ_eq_append_getElem (by omega), List.map_append, List.map_append]
  rw [ln_at _ k (by omega), ln_cut zs _ _ _ hk]
  rfl
theorem stripK_all (zs : List ByteArray) (i t n : Nat) (h1 : i + 1 ≤ t) (h2 : t ≤ zs.length) : stripK zs i t n (t - (i + 1)) = (cutL zs (i + 1) t).map fun z => stripB z n := by
  unfold stripK
  rw [List.take_of_length_le (by rw [cutL_len _ _ _ h1 h2]; exact Nat.le_refl _)]
def FeRel (zs : List ByteArray) (i t n : Nat) (MK : Array Value) (w : World) (v11 v32 : Value) (wr : World) : Prop :=
  ∃ k : Nat, v32 = .int .i64 k ∧ i + 1 + k ≤ t ∧ wr.ownsRow (w.heap.size + 2) 9 1 v11 k (strs (stripK zs i t n k)) ∧ DW w MK wr
set_option maxRecDepth 100000 in
set_option maxHeartbeats 4000000 in
theorem n_fence (zs : List ByteArray) (A : Option Addr) (c i B : Nat) (MM : Int) (m : MkL) (A9 : Option Addr) (c9 : Nat) (A10 : Option Addr) (c10 : Nat) (w : World) (hL : LinesAt w A zs MM) (hi : i < zs.length) (hc : zs.length ≤ c) (hcm : c ≤ maxLen) (hB : B ≤ w.heap.size) (ho : m.off ≤ 1000000) :
    Calls Tryz.prog 71 #[.slice A zs.length c, .int .i64 i, .agg (m.cells (.slice A9 m.att.cl.length c9) (.slice A10 m.att.pr.length c10))] w
      (BkPost B (some (.mk 3 0 m.info (mk (joinN ((cutL zs (i + 1) (closeI zs m (i + 1))).map fun z => stripB z m.off))) ⟨#[]⟩ ⟨#[]⟩ emptyA ⟨#[]⟩ [], min (closeI zs m (i + 1) + 1) zs.length)) w) := by
  have hlen := hL.len
  have hbd := closeI_bd zs m i hi
  obtain ⟨i0, hi0, hz0, hz1, hz2⟩ := info_parts strInfo
  obtain ⟨b, off, rfl, hb, hcell⟩ := hL.get (by omega)
  have HCell := Lib.hid hcell
  have HLi := Lib.hid hL
  have HC := Lib.hid fun W (h : LinesAt W (some ⟨b, off, none⟩) zs MM) => n_closing zs (some ⟨b, off, none⟩) c i MM m A9 m.att.cl.length c9 A10 m.att.pr.length c10 W h hi
  have HSt : Hid (∀ j W, Calls Tryz.prog 107 #[.string (ln zs j), .int .i64 (m.off : Nat)] W fun e w' => e = .returned (.string (stripB (ln zs j) m.off)) ∧ W = w') := Lib.hid fun j W => t_strip (ln zs j) m.off W (Nat.le_trans (ln_size hL.sz j) (by decide)) ho
  have HS := Lib.hid (dw_start w (m.cells (.slice A9 m.att.cl.length c9) (.slice A10 m.att.pr.length c10)))
  obtain ⟨t, ht⟩ : ∃ t, t = closeI zs m (i + 1) := ⟨_, rfl⟩
  rw [← ht] at HC hbd ⊢
  rw [← stripK_all zs i t m.off hbd.1 hbd.2]
  have HKs := Lib.hid fun k => stripK_succ zs i t m.off k hbd.2
  have HJ := Lib.hid fun (A' : Option Addr) (c' : Nat) (W : World) (h : Reads W W.heap.size 1 A' (t - (i + 1)) (strs (stripK zs i t m.off (t - (i + 1))))) => l_join (stripK zs i t m.off (t - (i + 1))) A' c' W.heap.size W (by
      have hl : (stripK zs i t m.off (t - (i + 1))).length = t - (i + 1) := by rw [stripK_all zs i t m.off hbd.1 hbd.2, List.length_map, cutL_len _ _ _ hbd.1 hbd.2]
      rw [hl]; exact h) (Nat.le_refl _) (by
      rw [stripK_all zs i t m.off hbd.1 hbd.2, List.length_map, cutL_len _ _ _ hbd.1 hbd.2]; omega) (fun z hz => by
      rw [stripK_all zs i t m.off hbd.1 hbd.2] at hz
      obtain ⟨y, hy, rfl⟩ := List.mem_map.1 hz
      exact Nat.le_trans (strip_size _ _) (hL.sz y (cutL_mem hy)))
  have hsl : (stripK zs i t m.off (t - (i + 1))).length = t - (i + 1) := by rw [stripK_all zs i t m.off hbd.1 hbd.2, List.length_map, cutL_len _ _ _ hbd.1 hbd.2]
  rw [hsl] at HJ
  have HMn : ∀ w : World, (Builtin.min_ #[3, 3] 3 #[.int .i64 ((t : Int) + 1), .int .i64 zs.length]).run Tryz.prog w = .ok (.int .i64 ((min (t + 1) zs.length : Nat) : Int)) w := fun w => by
    rw [run_min_int2]
    congr 2
    split <;> omega
  have hmk : ∀ W : World, (Instr.makeSlice 22 (.int .i64 0) (.int .i64 ((t : Int) - (i : Int) - 1))).run Tryz.prog W = .ok (.slice (some ⟨W.heap.size, 0, none⟩) 0 (t - (i + 1))) (W.alloc (.cells (List.replicate (t - (i + 1)) (Value.string ⟨#[]⟩)).toArray 9)) := fun W => by
    have h := run_make (P := Tryz.prog) W 22 9 i0 (.string ⟨#[]⟩) Tryz.underlying22 hi0 hz0 .i64 .i64 0 (t - (i + 1) : Nat) (by omega) (by omega) (by rw [hz2]; omega) (by omega)
    rw [show (t : Int) - (i : Int) - 1 = ((t - (i + 1) : Nat) : Int) by omega]
    rw [Int.toNat_natCast, hz1, Nat.mul_one] at h
    rw [h]
    have : (Value.string ⟨#[]⟩).cells = #[Value.string ⟨#[]⟩] := rfl
    rw [this, made_rep]
    rfl
  have hsub : (t : Int) - (i : Int) - 1 = ((t - (i + 1) : Nat) : Int) := by omega
  have HF0 : Hid (strs (stripK zs i t m.off 0) = []) := Lib.hid (by unfold stripK strs; simp)
  clear hsub hL hcell ht hsl
  unfold maxLen at hcm
  unfold MkL.cells zbC at HS
  unfold ClsPost MkL.cells at HC
  unfold MkL.cells
  go_enter Tryz.func71, Tryz.ntmps71
  have HB0 := Lib.hid HS.out.bel
  obtain ⟨p0, p1, p2, p3, p4, p5, p6, p7, p8, p9, p10, x0, x1, x2, x3, x4, x5, x6, x7, x8, x9, x10⟩ := mk_facts HS.out.mrk
  go_wp2_with fail
  ((with_reducible refine (HC.out _ (HLi.out.below HB0.out)).mono ?_))
  rintro e w1 ⟨⟨vC, vP, rfl, ho⟩, b1⟩
  obtain ⟨A1, c1, rfl⟩ := own_slice ho.cls
  obtain ⟨A2, c2, rfl⟩ := own_slice ho.prs
  have HS1 := Lib.hid (HS.out.next b1)
  clear ho b1 HC p0 p1 p2 p3 p4 p5 p6 p7 p8 p9 p10 x0 x1 x2 x3 x4 x5 x6 x7 x8 x9 x10 HS HB0
  by_cases hci : c = i + 1
  all_goals
    go_upto_block 0 with fail
    go_cut [11] (fun s11 wx => wx.ownsRow (w.heap.size + 2) 9 1 s11 (t - (i + 1)) (strs (stripK zs i t m.off (t - (i + 1)))) ∧ DW w (m.cells (.slice A9 m.att.cl.length c9) (.slice A10 m.att.pr.length c10)) wx)
    case first =>
      go_wp2_with fail
      go_loopw [11, 32] (fun v11 v32 wr => FeRel zs i t m.off (m.cells (.slice A9 m.att.cl.length c9) (.slice A10 m.att.pr.length c10)) w v11 v32 wr) (fun _ v32 _ => t - (intOf v32).toNat)
      case atStart =>
        refine ⟨0, rfl, by omega, ?_, HS1.out.next (((Below.refl _ _).alloc (Nat.le_refl _) _).alloc (by simp) _)⟩
        rw [HF0.out]
        have h := fun o => World.ownsRow_made (base := w.heap.size + 2) (size := 1) (e := 9) (w1.alloc o) (List.replicate (t - (i + 1)) (Value.string ⟨#[]⟩)).toArray (t - (i + 1)) (by have := HS1.out.res.lt; simp; omega) (by unfold maxLen; omega) (by simp)
        simp only [heap_alloc_size] at h
        simp only [List.toArray_replicate] at h
        exact h _
      case round =>
        obtain ⟨k, rfl, hk, hown, hWr⟩ := hrel
        have HWr := Lib.hid hWr
        have hrz := hWr.bel.size
        have hlz := hWr.res.lt
        by_cases hlt : i + 1 + k < t
        · first
          | (exfalso; omega)
          | skip
          all_goals
            have hc0 : wr.cell? ⟨b, off + (i + 1) + k, none⟩ = some (.string (ln zs (i + 1 + k))) := (hWr.bel.cell (p := ⟨b, off + (i + 1) + k, none⟩) hb).trans (by rw [Nat.add_assoc off]; exact HCell.out (i + 1 + k) (by omega))
            obtain ⟨p0, p1, p2, p3, p4, p5, p6, p7, p8, p9, p10, x0, x1, x2, x3, x4, x5, x6, x7, x8, x9, x10⟩ := mk_facts hWr.mrk
            have HSk := Lib.hid fun W => HSt.out (i + 1 + k) W
            have HE := Lib.hid (HKs.out k hlt)
            clear hWr HSt p0 p1 p2 p4 p5 p6 p7 p8 p9 p10 x0 x1 x2 x3 x4 x5 x6 x7 x8 x9 x10
            generalize stripB (ln zs (i + 1 + k)) m.off = y at *
            generalize ln zs (i + 1 + k) = z at *
            go_wp2_with fail
            ((with_reducible refine (HSk.out _).mono ?_))
            rintro e w2 ⟨rfl, rfl⟩
            go_wp2_with (at_builtin; refine wpList_append_own _ rfl _ _ 22 rfl (w.heap.size + 2) 9 i0 _ 1 16 Tryz.underlying22 hi0 hz0 hz1 hz2 rfl (by decide) _ _ _ rfl (hown.alloc _) ⟨wr.heap.size, 0, none⟩ 1 1 [.string y] rfl rfl ?c1 ?c2 ?c3 ?c4 ?c5 ?_)
            case c1 =>
              intro j u hj
              match j, hj with
              | 0, hj => simp at hj; subst hj; simp [Addr.add]
            case c2 => intro u hu; simp at hu; subst hu; rfl
            case c3 => unfold maxLen; omega
            case c4 => omega
            case c5 => simp; omega
            intro v' w2 hown3 hgrow _
            have HW2 : Hid (DW w (m.cells (.slice A9 m.att.cl.length c9) (.slice A10 m.att.pr.length c10)) w2) := Lib.hid ⟨(Blk.alloc HWr.out.mrk _).grown hgrow (fun e => by have := (hown.lt _ e.symm).1; omega), Blk.grown (Blk.alloc HWr.out.res _) hgrow (fun e => by have := (hown.lt _ e.symm).1; omega), (HWr.out.bel.alloc hrz _).grown hgrow (by simp; omega) (fun k hk => by have := (hown.lt k hk).1; omega)⟩
            clear hown hgrow
            go_wp2_with fail
            go_roundw
            case rel => exact ⟨k + 1, by go_num, by omega, by rw [HE.out]; exact hown3, HW2.out⟩
            case measure => simp [intOf]; omega
        · have hkt : k = t - (i + 1) := by omega
          subst hkt
          have HOW := Lib.hid hown
          clear hown hWr HKs hlt
          go_wp2_with fail
          go_meet
          exact ⟨HOW.out, HWr.out⟩
    case rest =>
      obtain ⟨hown, hW⟩ := hcut
      have HW := Lib.hid hW
      have HOW := Lib.hid hown
      have hrz := hW.bel.size
      have hlz := hW.res.lt
      obtain ⟨A3, c3, rfl⟩ := own_slice hown
      have HJ1 := Lib.hid fun W (h : Below wc.heap.size wc W) => HJ.out A3 c3 W ((Reads.of_own hown).below h |>.more h.size)
      clear hown hW HJ HSt HKs HF0 HS1 hmk
      go_wp2_with fail
      have HB0 := Lib.hid (Below.refl wc.heap.size wc)
      have HS9 : Hid (∀ W', Below wc.heap.size wc W' → (W'.cell? ⟨w.heap.size, 4, none⟩ = some (.string m.info) ∧ Below (w.heap.size + 1) wc W')) := Lib.hid fun W' h => ⟨(HW.out.mrk.below h (by omega)).cell 4, h.mono (by omega)⟩
      have HT11 : Hid (∀ W' z0 z1 z2 z3 z4 z5 z6 z7 z8 z9 z10, Below wc.heap.size wc W' → ((((((((((((W'.setCell ⟨w.heap.size + 1, 0, none⟩ z0).setCell ⟨w.heap.size + 1, 1, none⟩ z1).setCell ⟨w.heap.size + 1, 2, none⟩ z2).setCell ⟨w.heap.size + 1, 3, none⟩ z3).setCell ⟨w.heap.size + 1, 4, none⟩ z4).setCell ⟨w.heap.size + 1, 5, none⟩ z5).setCell ⟨w.heap.size + 1, 6, none⟩ z6).setCell ⟨w.heap.size + 1, 7, none⟩ z7).setCell ⟨w.heap.size + 1, 8, none⟩ z8).setCell ⟨w.heap.size + 1, 9, none⟩ z9).setCell ⟨w.heap.size + 1, 10, none⟩ z10).cell? ⟨w.heap.size, 4, none⟩ = some (.string m.info) ∧ Below (w.heap.size + 1) wc (((((((((((W'.setCell ⟨w.heap.size + 1, 0, none⟩ z0).setCell ⟨w.heap.size + 1, 1, none⟩ z1).setCell ⟨w.heap.size + 1, 2, none⟩ z2).setCell ⟨w.heap.size + 1, 3, none⟩ z3).setCell ⟨w.heap.size + 1, 4, none⟩ z4).setCell ⟨w.heap.size + 1, 5, none⟩ z5).setCell ⟨w.heap.size + 1, 6, none⟩ z6).setCell ⟨w.heap.size + 1, 7, none⟩ z7).setCell ⟨w.heap.size + 1, 8, none⟩ z8).setCell ⟨w.heap.size + 1, 9, none⟩ z9).setCell ⟨w.heap.size + 1, 10, none⟩ z10))) := Lib.hid fun W' z0 z1 z2 z3 z4 z5 z6 z7 z8 z9 z10 h => ⟨((Blk.grown (HW.out.mrk.below h (by omega)) (grown11 W' (w.heap.size + 1) z0 z1 z2 z3 z4 z5 z6 z7 z8 z9 z10) (by simp)).cell 4), below11 (h.mono (by omega)) (Nat.le_refl _) z0 z1 z2 z3 z4 z5 z6 z7 z8 z9 z10⟩
      have hw1 : IntKind.i64.wrap ((t : Int) + 1) = (t : Int) + 1 := IntWalk.i64_in _ (by omega)
      refine wp_region_held_drew (S := fun W' => W'.cell? ⟨w.heap.size, 4, none⟩ = some (.string m.info) ∧ Below (w.heap.size + 1) wc W') (by kernel_rfl) (HS9.out _ HB0.out.drew) (fun hHeld => ?_)
      refine tk 0 (.pointer (some ⟨w.heap.size, 4, none⟩)) rfl hHeld (fun W' hSw => ?_) ?_
      · obtain ⟨h0, h1⟩ := hSw
        go_simp
      refine tk 1 (.string m.info) rfl hHeld (fun W' hSw => ?_) ?_
      · obtain ⟨h0, h1⟩ := hSw
        go_simp
      refine tk 2 (.slice A3 (t - (i + 1)) c3) rfl hHeld (fun W' hSw => ?_) ?_
      · obtain ⟨h0, h1⟩ := hSw
        go_simp
      refine tk 5 (.int .i64 t) rfl hHeld (fun W' hSw => ?_) ?_
      · obtain ⟨h0, h1⟩ := hSw
        go_simp
      refine tk 6 (.int .i64 ((t : Int) + 1)) rfl hHeld (fun W' hSw => ?_) ?_
      · obtain ⟨h0, h1⟩ := hSw
        go_simp
      refine tk 7 (.slice (some ⟨b, off, none⟩) zs.length c) rfl hHeld (fun W' hSw => ?_) ?_
      · obtain ⟨h0, h1⟩ := hSw
        go_simp
      refine tk 8 (.int .i64 zs.length) rfl hHeld (fun W' hSw => ?_) ?_
      · obtain ⟨h0, h1⟩ := hSw
        go_simp
      refine tk 9 (.int .i64 ((min (t + 1) zs.length : Nat) : Int)) rfl hHeld (fun W' hSw => ?_) ?_
      · obtain ⟨h0, h1⟩ := hSw
        go_simp
      refine rd1 3 rfl (fun K hK => ?_)
      go_simp
      ((with_reducible refine (HJ1.out _ HB0.out.drew).mono ?_))
      rintro e W9 ⟨rfl, b8⟩
      have b9 : Below wc.heap.size wc W9 := HB0.out.drew.trans b8
      obtain ⟨q0, q1, q2, q3, q4, q5, q6, q7, q8, q9, q10, r0, r1, r2, r3, r4, r5, r6, r7, r8, r9, r10⟩ := ZB.facts (HW.out.res.below (w := w) b9)
      have hqz : w.heap.size + 1 < W9.heap.size := by have := b9.size; omega
      go_simp
      refine hK.out _ _ (HS9.out _ b9) (fun hHeld => ?_)
      clear hK K
      refine rd1 4 rfl (fun K hK => ?_)
      go_simp
      refine hK.out _ _ hHeld (fun _ => ?_)
      clear hK K
      refine rd1 10 rfl (fun K hK => ?_)
      go_simp
      refine hK.out _ _ (HT11.out _ _ _ _ _ _ _ _ _ _ _ _ b9) (fun hHeld => ?_)
      clear hK K
      refine rd1 11 rfl (fun K hK => ?_)
      go_simp
      refine hK.out _ _ hHeld (fun _ => ?_)
      clear hK K
      refine rd1 12 rfl (fun K hK => ?_)
      go_simp
      refine hK.out _ _ hHeld (fun _ => ?_)
      clear hK K
      refine wpAnyH_done (by kernel_rfl) ?_ _
      go_wp2_with fail
      exact fenceAt_ret (blk11 (HW.out.res.below (w := w) b9) _ _ _ _ _ _ _ _ _ _ _) rfl rfl rfl rfl (bk_some rfl (repB_mk (att := emptyA) (AttR.empty _ _ _ _) (srcV_none _ _) (KidsV.none_ _ _)) (HW.out.bel.trans ((below11 (b9.mono (by omega)) (Nat.le_succ _) _ _ _ _ _ _ _ _ _ _ _))))

end Go.Proofs.YtpoafhgbhnblmaaGreatDoor
