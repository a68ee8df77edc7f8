/-
  Texts of the proof, put together (what this law reaches): NsU, NsJ, NsL, NsM.
-/
import Derived.Test.YtpoafhgbhnblmaaGreatDoorD16
import Derived.Laws.MakeOwn
import Derived.Deep.CutBlock
import Derived.Deep.DeepCutAuto
import Derived.Deep.RegionHeld3
set_option linter.unusedVariables false
set_option linter.unusedSimpArgs false
namespace Go.Proofs.YtpoafhgbhnblmaaGreatDoor
open Go.RowKit Go.Pub
/-- As BkPost, what is read lying in S. -/
def BkPostS (S : World → Nat → Prop) (r : Option (BkT × Nat)) (w : World) (e : Ending) (w' : World) : Prop :=
  Below w.heap.size w w' ∧ match r with
  | none => ∃ (v : Array Value) (u : Int), AnyB v ∧ e = .returned (.tuple #[.agg v, .int .i64 u, .int .i64 11])
  | some p => ∃ v, e = .returned (.tuple #[.agg v, .int .i64 p.2, .int .i64 0]) ∧ RepB w' (S w') v p.1
theorem bks_some {S : World → Nat → Prop} {r : Option (BkT × Nat)} {b : BkT} {t : Nat} {w w' : World} {v : Array Value} (hr : r = some (b, t)) (hv : RepB w' (S w') v b) (hb : Below w.heap.size w w') : BkPostS S r w (.returned (.tuple #[.agg v, .int .i64 t, .int .i64 0])) w' := by
  subst hr; exact ⟨hb, v, rfl, hv⟩
theorem bks_none {S : World → Nat → Prop} {r : Option (BkT × Nat)} {u : Int} {w w' : World} {v : Array Value} (hr : r = none) (hv : AnyB v) (hb : Below w.heap.size w w') : BkPostS S r w (.returned (.tuple #[.agg v, .int .i64 u, .int .i64 11])) w' := by
  subst hr; exact ⟨hb, v, u, hv, rfl⟩
set_option maxRecDepth 100000 in
set_option maxHeartbeats 4000000 in
theorem n_div2 (rec : List ByteArray → Option (List BkT)) (d : Nat) (hd : d ≤ 15) (zs : List ByteArray) (A : Option Addr) (c i : Nat) (MM : Int) (m : MkL) (A9 : Option Addr) (c9 : Nat) (A10 : Option Addr) (c10 : Nat) (w : World) (hR : RecP rec (d + 1) MM) (hL : LinesAt w A zs MM) (hi : i < zs.length) (hc : zs.length ≤ c) (hcm : c ≤ maxLen) (T : Nat → Prop) (hT : ∀ g, T g → g < w.heap.size) (ha : AttR w T m.att A9 A10) :
    Calls Tryz.prog 74 #[.slice A zs.length c, .int .i64 i, .agg (m.cells (.slice A9 m.att.cl.length c9) (.slice A10 m.att.pr.length c10)), .int .i64 d] w
      (BkPostS (fun w' g => T g ∨ Rg w.heap.size w' g) ((rec (cutL zs (i + 1) (closeI zs m (i + 1)))).map fun k => (.mk 13 0 m.info ⟨#[]⟩ ⟨#[]⟩ ⟨#[]⟩ m.att ⟨#[]⟩ k, min (closeI zs m (i + 1) + 1) zs.length)) w) := by
  have hlen := hL.len
  have hbd := closeI_bd zs m i hi
  obtain ⟨b, off, rfl, hb, hcell⟩ := hL.get (by omega)
  have HLi := Lib.hid hL
  have HC := Lib.hid fun W (h : LinesAt W (some ⟨b, off, none⟩) zs MM) => n_closing zs (some ⟨b, off, none⟩) c i MM m A9 m.att.cl.length c9 A10 m.att.pr.length c10 W h hi
  have HR : Hid (∀ (W : World) (A' : Option Addr) (c' : Nat), LinesAt W (some ⟨b, off, none⟩) zs MM → (A' = some ⟨b, off + (i + 1), none⟩ ∨ closeI zs m (i + 1) = i + 1) → closeI zs m (i + 1) - (i + 1) ≤ c' → c' ≤ maxLen →
      Calls Tryz.prog 30 #[.slice A' (closeI zs m (i + 1) - (i + 1)) c', .int .i64 ((d + 1 : Nat) : Int)] W fun e w' =>
        (match rec (cutL zs (i + 1) (closeI zs m (i + 1))) with
         | none => e = .returned bkErr
         | some bs => ∃ A1 c1 A2 n2 c2, e = .returned (.tuple #[.slice A1 bs.length c1, .slice A2 n2 c2, .int .i64 0]) ∧ KidsV w' (Rg W.heap.size w') (.slice A1 bs.length c1) bs) ∧ Below W.heap.size W w') := Lib.hid fun W A' c' h1 h2 h3 h4 => by
    have hl := cutL_len zs (i + 1) (closeI zs m (i + 1)) hbd.1 hbd.2
    have := hR (cutL zs (i + 1) (closeI zs m (i + 1))) A' c' W (h1.cut' (i + 1) _ hbd.1 hbd.2 A' h2) (by omega) h4
    rwa [hl] at this
  have HS := Lib.hid (dw_start w (m.cells (.slice A9 m.att.cl.length c9) (.slice A10 m.att.pr.length c10)))
  have HA := Lib.hid ha
  have HTT := Lib.hid hT
  obtain ⟨R, hRr⟩ : ∃ R, R = rec (cutL zs (i + 1) (closeI zs m (i + 1))) := ⟨_, rfl⟩
  rw [← hRr] at HR ⊢
  obtain ⟨t, ht⟩ : ∃ t, t = closeI zs m (i + 1) := ⟨_, rfl⟩
  rw [← ht] at HC HR hbd ⊢
  have HMn : ∀ w : World, (Builtin.min_ #[3, 3] 3 #[.int .i64 ((t : Int) + 1), .int .i64 zs.length]).run Tryz.prog w = .ok (.int .i64 ((min (t + 1) zs.length : Nat) : Int)) w := fun w => by
    rw [run_min_int2]
    congr 2
    split <;> omega
  have HDD := Lib.hid (show (d : Int) + 1 = ((d + 1 : Nat) : Int) by omega)
  unfold maxLen at hcm
  clear hL hcell hR ha ht hRr hT
  unfold MkL.cells zbC at HS
  unfold ClsPost MkL.cells at HC
  unfold MkL.cells
  go_enter Tryz.func74, Tryz.ntmps74
  have HB0 := Lib.hid HS.out.bel
  obtain ⟨p0, p1, p2, p3, p4, p5, p6, p7, p8, p9, p10, x0, x1, x2, x3, x4, x5, x6, x7, x8, x9, x10⟩ := mk_facts HS.out.mrk
  go_wp2_with fail
  ((with_reducible refine (HC.out _ (HLi.out.below HB0.out)).mono ?_))
  rintro e w1 ⟨⟨vC, vP, rfl, ho⟩, b1⟩
  obtain ⟨A1, c1, rfl⟩ := own_slice ho.cls
  obtain ⟨A2, c2, rfl⟩ := own_slice ho.prs
  have HS1 := Lib.hid (HS.out.next b1)
  clear ho b1 HC p0 p1 p2 p3 p4 p5 p6 p7 p8 p9 p10 x0 x1 x2 x3 x4 x5 x6 x7 x8 x9 x10 HS HB0
  go_wp2_with fail
  all_goals
    rw [HDD.out]
    generalize hW : w1.alloc _ = W2
    have HS2 := Lib.hid (hW ▸ HS1.out.next ((Below.refl _ w1).alloc (Nat.le_refl _) _))
    clear hW
    ((with_reducible refine (HR.out _ _ _ (HLi.out.below HS2.out.bel) (by first | exact .inl rfl | exact .inr (by omega)) (by omega) (by unfold maxLen; omega)).mono ?_))
    rintro e w3 ⟨hp, b3⟩
    have HS3 := Lib.hid (HS2.out.next b3)
    have hz3 := b3.size
    have hm3 := HS2.out.res.lt
    obtain ⟨p0, p1, p2, p3, p4, p5, p6, p7, p8, p9, p10, x0, x1, x2, x3, x4, x5, x6, x7, x8, x9, x10⟩ := mk_facts HS3.out.mrk
    obtain ⟨k0, k1, k2, k3, k4, k5, k6, k7, k8, k9, k10, y0, y1, y2, y3, y4, y5, y6, y7, y8, y9, y10⟩ := ZB.facts HS3.out.res
    have HBe : Hid (∀ z0 z1 z2 z3 z4 z5 z6 z7 z8 z9 z10, Below w.heap.size w (((((((((((w3.setCell ⟨w.heap.size + 1, 0, none⟩ z0).setCell ⟨w.heap.size + 1, 1, none⟩ z1).setCell ⟨w.heap.size + 1, 2, none⟩ z2).setCell ⟨w.heap.size + 1, 3, none⟩ z3).setCell ⟨w.heap.size + 1, 4, none⟩ z4).setCell ⟨w.heap.size + 1, 5, none⟩ z5).setCell ⟨w.heap.size + 1, 6, none⟩ z6).setCell ⟨w.heap.size + 1, 7, none⟩ z7).setCell ⟨w.heap.size + 1, 8, none⟩ z8).setCell ⟨w.heap.size + 1, 9, none⟩ z9).setCell ⟨w.heap.size + 1, 10, none⟩ z10)) := Lib.hid fun z0 z1 z2 z3 z4 z5 z6 z7 z8 z9 z10 => below11 HS3.out.bel (Nat.le_succ _) z0 z1 z2 z3 z4 z5 z6 z7 z8 z9 z10
    cases R with
    | none =>
      subst hp
      unfold bkErr
      clear HR b3
      go_wp2_with fail
      exact divAt_ret (blk11 HS3.out.res _ _ _ _ _ _ _ _ _ _ _) rfl rfl rfl rfl (bks_none rfl ⟨_, _, _, _, _, _, _, _, _, _, _, _, _, _, _, _, _, _, _, rfl⟩ (HBe.out _ _ _ _ _ _ _ _ _ _ _))
    | some bs =>
      obtain ⟨A3, c3, A4, n4, c4, rfl, hk⟩ := hp
      have HK := Lib.hid hk
      clear HR hk b3
      go_wp2_with fail
      exact divAt_ret (blk11 HS3.out.res _ _ _ _ _ _ _ _ _ _ _) rfl rfl rfl rfl (bks_some rfl (repB_mk (att := m.att) (HA.out.keep (fun g hg => (HBe.out _ _ _ _ _ _ _ _ _ _ _).block g (HTT.out g hg)) fun g hg => .inl hg) (srcV_none _ _) ((HK.out.far (B' := w.heap.size) (grown11 _ _ _ _ _ _ _ _ _ _ _ _ _) hm3 (by omega)).keep (fun _ _ => rfl) fun g hg => .inr hg)) (HBe.out _ _ _ _ _ _ _ _ _ _ _))

end Go.Proofs.YtpoafhgbhnblmaaGreatDoor
namespace Go.Proofs.YtpoafhgbhnblmaaGreatDoor
open Go.RowKit Go.Pub
/-- The first lines of a code block. -/
def stripK (zs : List ByteArray) (i t n k : Nat) : List ByteArray := ((cutL zs (i + 1) t).take k).map fun z => stripB z n
theorem stripK_succ (zs : List ByteArray) (i t n k : Nat) (h2 : t ≤ zs.length) (hk : i + 1 + k < t) : strs (stripK zs i t n (k + 1)) = strs (stripK zs i t n k) ++ [.string (stripB (ln zs (i + 1 + k)) n)] := by
  have hl : (cutL zs (i + 1) t).length = t - (i + 1) := cutL_len _ _ _ (by omega) h2
  unfold stripK strs
  rw [List.take_succ_eq_append_getElem (by omega), List.map_append, List.map_append]
  rw [ln_at _ k (by omega), ln_cut zs _ _ _ hk]
  rfl
theorem stripK_all (zs : List ByteArray) (i t n : Nat) (h1 : i + 1 ≤ t) (h2 : t ≤ zs.length) : stripK zs i t n (t - (i + 1)) = (cutL zs (i + 1) t).map fun z => stripB z n := by
  unfold stripK
  rw [List.take_of_length_le (by rw [cutL_len _ _ _ h1 h2]; exact Nat.le_refl _)]
def FeRel (zs : List ByteArray) (i t n : Nat) (MK : Array Value) (w : World) (v11 v32 : Value) (wr : World) : Prop :=
  ∃ k : Nat, v32 = .int .i64 k ∧ i + 1 + k ≤ t ∧ wr.ownsRow (w.heap.size + 2) 9 1 v11 k (strs (stripK zs i t n k)) ∧ DW w MK wr
set_option maxRecDepth 100000 in
set_option maxHeartbeats 4000000 in
theorem n_fence (zs : List ByteArray) (A : Option Addr) (c i B : Nat) (MM : Int) (m : MkL) (A9 : Option Addr) (c9 : Nat) (A10 : Option Addr) (c10 : Nat) (w : World) (hL : LinesAt w A zs MM) (hi : i < zs.length) (hc : zs.length ≤ c) (hcm : c ≤ maxLen) (hB : B ≤ w.heap.size) (ho : m.off ≤ 1000000) :
    Calls Tryz.prog 71 #[.slice A zs.length c, .int .i64 i, .agg (m.cells (.slice A9 m.att.cl.length c9) (.slice A10 m.att.pr.length c10))] w
      (BkPost B (some (.mk 3 0 m.info (mk (joinN ((cutL zs (i + 1) (closeI zs m (i + 1))).map fun z => stripB z m.off))) ⟨#[]⟩ ⟨#[]⟩ emptyA ⟨#[]⟩ [], min (closeI zs m (i + 1) + 1) zs.length)) w) := by
  have hlen := hL.len
  have hbd := closeI_bd zs m i hi
  obtain ⟨i0, hi0, hz0, hz1, hz2⟩ := info_parts strInfo
  obtain ⟨b, off, rfl, hb, hcell⟩ := hL.get (by omega)
  have HCell := Lib.hid hcell
  have HLi := Lib.hid hL
  have HC := Lib.hid fun W (h : LinesAt W (some ⟨b, off, none⟩) zs MM) => n_closing zs (some ⟨b, off, none⟩) c i MM m A9 m.att.cl.length c9 A10 m.att.pr.length c10 W h hi
  have HSt : Hid (∀ j W, Calls Tryz.prog 107 #[.string (ln zs j), .int .i64 (m.off : Nat)] W fun e w' => e = .returned (.string (stripB (ln zs j) m.off)) ∧ W = w') := Lib.hid fun j W => t_strip (ln zs j) m.off W (Nat.le_trans (ln_size hL.sz j) (by decide)) ho
  have HS := Lib.hid (dw_start w (m.cells (.slice A9 m.att.cl.length c9) (.slice A10 m.att.pr.length c10)))
  obtain ⟨t, ht⟩ : ∃ t, t = closeI zs m (i + 1) := ⟨_, rfl⟩
  rw [← ht] at HC hbd ⊢
  rw [← stripK_all zs i t m.off hbd.1 hbd.2]
  have HKs := Lib.hid fun k => stripK_succ zs i t m.off k hbd.2
  have HJ := Lib.hid fun (A' : Option Addr) (c' : Nat) (W : World) (h : Reads W W.heap.size 1 A' (t - (i + 1)) (strs (stripK zs i t m.off (t - (i + 1))))) => l_join (stripK zs i t m.off (t - (i + 1))) A' c' W.heap.size W (by
      have hl : (stripK zs i t m.off (t - (i + 1))).length = t - (i + 1) := by rw [stripK_all zs i t m.off hbd.1 hbd.2, List.length_map, cutL_len _ _ _ hbd.1 hbd.2]
      rw [hl]; exact h) (Nat.le_refl _) (by
      rw [stripK_all zs i t m.off hbd.1 hbd.2, List.length_map, cutL_len _ _ _ hbd.1 hbd.2]; omega) (fun z hz => by
      rw [stripK_all zs i t m.off hbd.1 hbd.2] at hz
      obtain ⟨y, hy, rfl⟩ := List.mem_map.1 hz
      exact Nat.le_trans (strip_size _ _) (hL.sz y (cutL_mem hy)))
  have hsl : (stripK zs i t m.off (t - (i + 1))).length = t - (i + 1) := by rw [stripK_all zs i t m.off hbd.1 hbd.2, List.length_map, cutL_len _ _ _ hbd.1 hbd.2]
  rw [hsl] at HJ
  have HMn : ∀ w : World, (Builtin.min_ #[3, 3] 3 #[.int .i64 ((t : Int) + 1), .int .i64 zs.length]).run Tryz.prog w = .ok (.int .i64 ((min (t + 1) zs.length : Nat) : Int)) w := fun w => by
    rw [run_min_int2]
    congr 2
    split <;> omega
  have hmk : ∀ W : World, (Instr.makeSlice 22 (.int .i64 0) (.int .i64 ((t : Int) - (i : Int) - 1))).run Tryz.prog W = .ok (.slice (some ⟨W.heap.size, 0, none⟩) 0 (t - (i + 1))) (W.alloc (.cells (List.replicate (t - (i + 1)) (Value.string ⟨#[]⟩)).toArray 9)) := fun W => by
    have h := run_make (P := Tryz.prog) W 22 9 i0 (.string ⟨#[]⟩) Tryz.underlying22 hi0 hz0 .i64 .i64 0 (t - (i + 1) : Nat) (by omega) (by omega) (by rw [hz2]; omega) (by omega)
    rw [show (t : Int) - (i : Int) - 1 = ((t - (i + 1) : Nat) : Int) by omega]
    rw [Int.toNat_natCast, hz1, Nat.mul_one] at h
    rw [h]
    have : (Value.string ⟨#[]⟩).cells = #[Value.string ⟨#[]⟩] := rfl
    rw [this, made_rep]
    rfl
  have hsub : (t : Int) - (i : Int) - 1 = ((t - (i + 1) : Nat) : Int) := by omega
  have HF0 : Hid (strs (stripK zs i t m.off 0) = []) := Lib.hid (by unfold stripK strs; simp)
  clear hsub hL hcell ht hsl
  unfold maxLen at hcm
  unfold MkL.cells zbC at HS
  unfold ClsPost MkL.cells at HC
  unfold MkL.cells
  go_enter Tryz.func71, Tryz.ntmps71
  have HB0 := Lib.hid HS.out.bel
  obtain ⟨p0, p1, p2, p3, p4, p5, p6, p7, p8, p9, p10, x0, x1, x2, x3, x4, x5, x6, x7, x8, x9, x10⟩ := mk_facts HS.out.mrk
  go_wp2_with fail
  ((with_reducible refine (HC.out _ (HLi.out.below HB0.out)).mono ?_))
  rintro e w1 ⟨⟨vC, vP, rfl, ho⟩, b1⟩
  obtain ⟨A1, c1, rfl⟩ := own_slice ho.cls
  obtain ⟨A2, c2, rfl⟩ := own_slice ho.prs
  have HS1 := Lib.hid (HS.out.next b1)
  clear ho b1 HC p0 p1 p2 p3 p4 p5 p6 p7 p8 p9 p10 x0 x1 x2 x3 x4 x5 x6 x7 x8 x9 x10 HS HB0
  by_cases hci : c = i + 1
  · go_upto_block 0 with fail
    go_cut [11] (fun s11 wx => wx.ownsRow (w.heap.size + 2) 9 1 s11 (t - (i + 1)) (strs (stripK zs i t m.off (t - (i + 1)))) ∧ DW w (m.cells (.slice A9 m.att.cl.length c9) (.slice A10 m.att.pr.length c10)) wx)
    case first =>
      go_wp2_with fail
      go_loopw [11, 32] (fun v11 v32 wr => FeRel zs i t m.off (m.cells (.slice A9 m.att.cl.length c9) (.slice A10 m.att.pr.length c10)) w v11 v32 wr) (fun _ v32 _ => t - (intOf v32).toNat)
      case atStart =>
        refine ⟨0, rfl, by omega, ?_, HS1.out.next (((Below.refl _ _).alloc (Nat.le_refl _) _).alloc (by simp) _)⟩
        rw [HF0.out]
        have h := fun o => World.ownsRow_made (base := w.heap.size + 2) (size := 1) (e := 9) (w1.alloc o) (List.replicate (t - (i + 1)) (Value.string ⟨#[]⟩)).toArray (t - (i + 1)) (by have := HS1.out.res.lt; simp; omega) (by unfold maxLen; omega) (by simp)
        simp only [heap_alloc_size] at h
        simp only [List.toArray_replicate] at h
        exact h _
      case round =>
        obtain ⟨k, rfl, hk, hown, hWr⟩ := hrel
        have HWr := Lib.hid hWr
        have hrz := hWr.bel.size
        have hlz := hWr.res.lt
        by_cases hlt : i + 1 + k < t
        · exfalso; omega
        · have hkt : k = t - (i + 1) := by omega
          subst hkt
          have HOW := Lib.hid hown
          clear hown hWr HKs hlt
          go_wp2_with fail
          go_meet
          exact ⟨HOW.out, HWr.out⟩
    case rest =>
      obtain ⟨hown, hW⟩ := hcut
      have HW := Lib.hid hW
      have HOW := Lib.hid hown
      have hrz := hW.bel.size
      have hlz := hW.res.lt
      obtain ⟨A3, c3, rfl⟩ := own_slice hown
      have HJ1 := Lib.hid fun W (h : Below wc.heap.size wc W) => HJ.out A3 c3 W ((Reads.of_own hown).below h |>.more h.size)
      clear hown hW HJ HSt HKs HF0 HS1 hmk
      go_wp2_with fail
      have HB0 := Lib.hid (Below.refl wc.heap.size wc)
      have HS9 : Hid (∀ W', Below wc.heap.size wc W' → (W'.cell? ⟨w.heap.size, 4, none⟩ = some (.string m.info) ∧ Below (w.heap.size + 1) wc W')) := Lib.hid fun W' h => ⟨(HW.out.mrk.below h (by omega)).cell 4, h.mono (by omega)⟩
      have HT11 : Hid (∀ W' z0 z1 z2 z3 z4 z5 z6 z7 z8 z9 z10, Below wc.heap.size wc W' → ((((((((((((W'.setCell ⟨w.heap.size + 1, 0, none⟩ z0).setCell ⟨w.heap.size + 1, 1, none⟩ z1).setCell ⟨w.heap.size + 1, 2, none⟩ z2).setCell ⟨w.heap.size + 1, 3, none⟩ z3).setCell ⟨w.heap.size + 1, 4, none⟩ z4).setCell ⟨w.heap.size + 1, 5, none⟩ z5).setCell ⟨w.heap.size + 1, 6, none⟩ z6).setCell ⟨w.heap.size + 1, 7, none⟩ z7).setCell ⟨w.heap.size + 1, 8, none⟩ z8).setCell ⟨w.heap.size + 1, 9, none⟩ z9).setCell ⟨w.heap.size + 1, 10, none⟩ z10).cell? ⟨w.heap.size, 4, none⟩ = some (.string m.info) ∧ Below (w.heap.size + 1) wc (((((((((((W'.setCell ⟨w.heap.size + 1, 0, none⟩ z0).setCell ⟨w.heap.size + 1, 1, none⟩ z1).setCell ⟨w.heap.size + 1, 2, none⟩ z2).setCell ⟨w.heap.size + 1, 3, none⟩ z3).setCell ⟨w.heap.size + 1, 4, none⟩ z4).setCell ⟨w.heap.size + 1, 5, none⟩ z5).setCell ⟨w.heap.size + 1, 6, none⟩ z6).setCell ⟨w.heap.size + 1, 7, none⟩ z7).setCell ⟨w.heap.size + 1, 8, none⟩ z8).setCell ⟨w.heap.size + 1, 9, none⟩ z9).setCell ⟨w.heap.size + 1, 10, none⟩ z10))) := Lib.hid fun W' z0 z1 z2 z3 z4 z5 z6 z7 z8 z9 z10 h => ⟨((Blk.grown (HW.out.mrk.below h (by omega)) (grown11 W' (w.heap.size + 1) z0 z1 z2 z3 z4 z5 z6 z7 z8 z9 z10) (by simp)).cell 4), below11 (h.mono (by omega)) (Nat.le_refl _) z0 z1 z2 z3 z4 z5 z6 z7 z8 z9 z10⟩
      have hw1 : IntKind.i64.wrap ((t : Int) + 1) = (t : Int) + 1 := IntWalk.i64_in _ (by omega)
      refine wp_region_held_drew (S := fun W' => W'.cell? ⟨w.heap.size, 4, none⟩ = some (.string m.info) ∧ Below (w.heap.size + 1) wc W') (by kernel_rfl) (HS9.out _ HB0.out.drew) (fun hHeld => ?_)
      refine wpAnyH_take (i := 0) (v := .pointer (some ⟨w.heap.size, 4, none⟩)) rfl (by kernel_rfl) (by kernel_rfl) (by kernel_rfl) (fun _ _ _ h => h) (Or.inl ⟨by rfl, fun W' hSw => ?_⟩) hHeld ?_
      · obtain ⟨h0, h1⟩ := hSw
        go_simp
      try simp only [Act.put, List.setIfInBounds_toArray, List.set_cons_zero, List.set_cons_succ]
      refine wpAnyH_take (i := 1) (v := .string m.info) rfl (by kernel_rfl) (by kernel_rfl) (by kernel_rfl) (fun _ _ _ h => h) (Or.inl ⟨by rfl, fun W' hSw => ?_⟩) hHeld ?_
      · obtain ⟨h0, h1⟩ := hSw
        go_simp
      try simp only [Act.put, List.setIfInBounds_toArray, List.set_cons_zero, List.set_cons_succ]
      refine wpAnyH_take (i := 2) (v := .slice A3 (t - (i + 1)) c3) rfl (by kernel_rfl) (by kernel_rfl) (by kernel_rfl) (fun _ _ _ h => h) (Or.inl ⟨by rfl, fun W' hSw => ?_⟩) hHeld ?_
      · obtain ⟨h0, h1⟩ := hSw
        go_simp
      try simp only [Act.put, List.setIfInBounds_toArray, List.set_cons_zero, List.set_cons_succ]
      refine wpAnyH_take (i := 5) (v := .int .i64 t) rfl (by kernel_rfl) (by kernel_rfl) (by kernel_rfl) (fun _ _ _ h => h) (Or.inl ⟨by rfl, fun W' hSw => ?_⟩) hHeld ?_
      · obtain ⟨h0, h1⟩ := hSw
        go_simp
      try simp only [Act.put, List.setIfInBounds_toArray, List.set_cons_zero, List.set_cons_succ]
      refine wpAnyH_take (i := 6) (v := .int .i64 ((t : Int) + 1)) rfl (by kernel_rfl) (by kernel_rfl) (by kernel_rfl) (fun _ _ _ h => h) (Or.inl ⟨by rfl, fun W' hSw => ?_⟩) hHeld ?_
      · obtain ⟨h0, h1⟩ := hSw
        go_simp
      try simp only [Act.put, List.setIfInBounds_toArray, List.set_cons_zero, List.set_cons_succ]
      refine wpAnyH_take (i := 7) (v := .slice (some ⟨b, off, none⟩) zs.length c) rfl (by kernel_rfl) (by kernel_rfl) (by kernel_rfl) (fun _ _ _ h => h) (Or.inl ⟨by rfl, fun W' hSw => ?_⟩) hHeld ?_
      · obtain ⟨h0, h1⟩ := hSw
        go_simp
      try simp only [Act.put, List.setIfInBounds_toArray, List.set_cons_zero, List.set_cons_succ]
      refine wpAnyH_take (i := 8) (v := .int .i64 zs.length) rfl (by kernel_rfl) (by kernel_rfl) (by kernel_rfl) (fun _ _ _ h => h) (Or.inl ⟨by rfl, fun W' hSw => ?_⟩) hHeld ?_
      · obtain ⟨h0, h1⟩ := hSw
        go_simp
      try simp only [Act.put, List.setIfInBounds_toArray, List.set_cons_zero, List.set_cons_succ]
      refine wpAnyH_take (i := 9) (v := .int .i64 ((min (t + 1) zs.length : Nat) : Int)) rfl (by kernel_rfl) (by kernel_rfl) (by kernel_rfl) (fun _ _ _ h => h) (Or.inl ⟨by rfl, fun W' hSw => ?_⟩) hHeld ?_
      · obtain ⟨h0, h1⟩ := hSw
        go_simp
      try simp only [Act.put, List.setIfInBounds_toArray, List.set_cons_zero, List.set_cons_succ]
      refine wpAnyH_ready (rs := [3]) (by kernel_rfl) (by simp) (AllReadyH.cons rfl (fun K hK => ?_) AllReadyH.nil)
      go_simp
      ((with_reducible refine (HJ1.out _ HB0.out.drew).mono ?_))
      rintro e W9 ⟨rfl, b8⟩
      have b9 : Below wc.heap.size wc W9 := HB0.out.drew.trans b8
      obtain ⟨q0, q1, q2, q3, q4, q5, q6, q7, q8, q9, q10, r0, r1, r2, r3, r4, r5, r6, r7, r8, r9, r10⟩ := ZB.facts (HW.out.res.below (w := w) b9)
      have hqz : w.heap.size + 1 < W9.heap.size := by have := b9.size; omega
      go_simp
      refine hK.out _ _ (HS9.out _ b9) (fun hHeld => ?_)
      clear hK K
      try simp only [Act.put, List.setIfInBounds_toArray, List.set_cons_zero, List.set_cons_succ]
      refine wpAnyH_ready (rs := [4]) (by kernel_rfl) (by simp) (AllReadyH.cons rfl (fun K hK => ?_) AllReadyH.nil)
      go_simp
      refine hK.out _ _ hHeld (fun _ => ?_)
      clear hK K
      try simp only [Act.put, List.setIfInBounds_toArray, List.set_cons_zero, List.set_cons_succ]
      refine wpAnyH_ready (rs := [10]) (by kernel_rfl) (by simp) (AllReadyH.cons rfl (fun K hK => ?_) AllReadyH.nil)
      go_simp
      refine hK.out _ _ (HT11.out _ _ _ _ _ _ _ _ _ _ _ _ b9) (fun hHeld => ?_)
      clear hK K
      try simp only [Act.put, List.setIfInBounds_toArray, List.set_cons_zero, List.set_cons_succ]
      refine wpAnyH_ready (rs := [11]) (by kernel_rfl) (by simp) (AllReadyH.cons rfl (fun K hK => ?_) AllReadyH.nil)
      go_simp
      refine hK.out _ _ hHeld (fun _ => ?_)
      clear hK K
      try simp only [Act.put, List.setIfInBounds_toArray, List.set_cons_zero, List.set_cons_succ]
      refine wpAnyH_ready (rs := [12]) (by kernel_rfl) (by simp) (AllReadyH.cons rfl (fun K hK => ?_) AllReadyH.nil)
      go_simp
      refine hK.out _ _ hHeld (fun _ => ?_)
      clear hK K
      try simp only [Act.put, List.setIfInBounds_toArray, List.set_cons_zero, List.set_cons_succ]
      refine wpAnyH_done (by kernel_rfl) ?_ _
      go_wp2_with fail
      exact fenceAt_ret (blk11 (HW.out.res.below (w := w) b9) _ _ _ _ _ _ _ _ _ _ _) rfl rfl rfl rfl (bk_some rfl (repB_mk (att := emptyA) (AttR.empty _ _ _ _) (srcV_none _ _) (KidsV.none_ _ _)) (HW.out.bel.trans ((below11 (b9.mono (by omega)) (Nat.le_succ _) _ _ _ _ _ _ _ _ _ _ _))))
  · go_upto_block 0 with fail
    go_cut [11] (fun s11 wx => wx.ownsRow (w.heap.size + 2) 9 1 s11 (t - (i + 1)) (strs (stripK zs i t m.off (t - (i + 1)))) ∧ DW w (m.cells (.slice A9 m.att.cl.length c9) (.slice A10 m.att.pr.length c10)) wx)
    case first =>
      go_wp2_with fail
      go_loopw [11, 32] (fun v11 v32 wr => FeRel zs i t m.off (m.cells (.slice A9 m.att.cl.length c9) (.slice A10 m.att.pr.length c10)) w v11 v32 wr) (fun _ v32 _ => t - (intOf v32).toNat)
      case atStart =>
        refine ⟨0, rfl, by omega, ?_, HS1.out.next (((Below.refl _ _).alloc (Nat.le_refl _) _).alloc (by simp) _)⟩
        rw [HF0.out]
        have h := fun o => World.ownsRow_made (base := w.heap.size + 2) (size := 1) (e := 9) (w1.alloc o) (List.replicate (t - (i + 1)) (Value.string ⟨#[]⟩)).toArray (t - (i + 1)) (by have := HS1.out.res.lt; simp; omega) (by unfold maxLen; omega) (by simp)
        simp only [heap_alloc_size] at h
        simp only [List.toArray_replicate] at h
        exact h _
      case round =>
        obtain ⟨k, rfl, hk, hown, hWr⟩ := hrel
        have HWr := Lib.hid hWr
        have hrz := hWr.bel.size
        have hlz := hWr.res.lt
        by_cases hlt : i + 1 + k < t
        · have hc0 : wr.cell? ⟨b, off + (i + 1) + k, none⟩ = some (.string (ln zs (i + 1 + k))) := (hWr.bel.cell (p := ⟨b, off + (i + 1) + k, none⟩) hb).trans (by rw [Nat.add_assoc off]; exact HCell.out (i + 1 + k) (by omega))
          obtain ⟨p0, p1, p2, p3, p4, p5, p6, p7, p8, p9, p10, x0, x1, x2, x3, x4, x5, x6, x7, x8, x9, x10⟩ := mk_facts hWr.mrk
          have HSk := Lib.hid fun W => HSt.out (i + 1 + k) W
          have HE := Lib.hid (HKs.out k hlt)
          clear hWr HSt p0 p1 p2 p4 p5 p6 p7 p8 p9 p10 x0 x1 x2 x3 x4 x5 x6 x7 x8 x9 x10
          generalize stripB (ln zs (i + 1 + k)) m.off = y at *
          generalize ln zs (i + 1 + k) = z at *
          go_wp2_with fail
          ((with_reducible refine (HSk.out _).mono ?_))
          rintro e w2 ⟨rfl, rfl⟩
          go_wp2_with (at_builtin; refine wpList_append_own _ rfl _ _ 22 rfl (w.heap.size + 2) 9 i0 _ 1 16 Tryz.underlying22 hi0 hz0 hz1 hz2 rfl (by decide) _ _ _ rfl (hown.alloc _) ⟨wr.heap.size, 0, none⟩ 1 1 [.string y] rfl rfl ?c1 ?c2 ?c3 ?c4 ?c5 ?_)
          case c1 =>
            intro j u hj
            match j, hj with
            | 0, hj => simp at hj; subst hj; simp [Addr.add]
          case c2 => intro u hu; simp at hu; subst hu; rfl
          case c3 => unfold maxLen; omega
          case c4 => omega
          case c5 => simp; omega
          intro v' w2 hown3 hgrow _
          have HW2 : Hid (DW w (m.cells (.slice A9 m.att.cl.length c9) (.slice A10 m.att.pr.length c10)) w2) := Lib.hid ⟨(Blk.alloc HWr.out.mrk _).grown hgrow (fun e => by have := (hown.lt _ e.symm).1; omega), Blk.grown (Blk.alloc HWr.out.res _) hgrow (fun e => by have := (hown.lt _ e.symm).1; omega), (HWr.out.bel.alloc hrz _).grown hgrow (by simp; omega) (fun k hk => by have := (hown.lt k hk).1; omega)⟩
          clear hown hgrow
          go_wp2_with fail
          go_roundw
          case rel => exact ⟨k + 1, by go_num, by omega, by rw [HE.out]; exact hown3, HW2.out⟩
          case measure => simp [intOf]; omega
        · have hkt : k = t - (i + 1) := by omega
          subst hkt
          have HOW := Lib.hid hown
          clear hown hWr HKs hlt
          go_wp2_with fail
          go_meet
          exact ⟨HOW.out, HWr.out⟩
    case rest =>
      obtain ⟨hown, hW⟩ := hcut
      have HW := Lib.hid hW
      have HOW := Lib.hid hown
      have hrz := hW.bel.size
      have hlz := hW.res.lt
      obtain ⟨A3, c3, rfl⟩ := own_slice hown
      have HJ1 := Lib.hid fun W (h : Below wc.heap.size wc W) => HJ.out A3 c3 W ((Reads.of_own hown).below h |>.more h.size)
      clear hown hW HJ HSt HKs HF0 HS1 hmk
      go_wp2_with fail
      have HB0 := Lib.hid (Below.refl wc.heap.size wc)
      have HS9 : Hid (∀ W', Below wc.heap.size wc W' → (W'.cell? ⟨w.heap.size, 4, none⟩ = some (.string m.info) ∧ Below (w.heap.size + 1) wc W')) := Lib.hid fun W' h => ⟨(HW.out.mrk.below h (by omega)).cell 4, h.mono (by omega)⟩
      have HT11 : Hid (∀ W' z0 z1 z2 z3 z4 z5 z6 z7 z8 z9 z10, Below wc.heap.size wc W' → ((((((((((((W'.setCell ⟨w.heap.size + 1, 0, none⟩ z0).setCell ⟨w.heap.size + 1, 1, none⟩ z1).setCell ⟨w.heap.size + 1, 2, none⟩ z2).setCell ⟨w.heap.size + 1, 3, none⟩ z3).setCell ⟨w.heap.size + 1, 4, none⟩ z4).setCell ⟨w.heap.size + 1, 5, none⟩ z5).setCell ⟨w.heap.size + 1, 6, none⟩ z6).setCell ⟨w.heap.size + 1, 7, none⟩ z7).setCell ⟨w.heap.size + 1, 8, none⟩ z8).setCell ⟨w.heap.size + 1, 9, none⟩ z9).setCell ⟨w.heap.size + 1, 10, none⟩ z10).cell? ⟨w.heap.size, 4, none⟩ = some (.string m.info) ∧ Below (w.heap.size + 1) wc (((((((((((W'.setCell ⟨w.heap.size + 1, 0, none⟩ z0).setCell ⟨w.heap.size + 1, 1, none⟩ z1).setCell ⟨w.heap.size + 1, 2, none⟩ z2).setCell ⟨w.heap.size + 1, 3, none⟩ z3).setCell ⟨w.heap.size + 1, 4, none⟩ z4).setCell ⟨w.heap.size + 1, 5, none⟩ z5).setCell ⟨w.heap.size + 1, 6, none⟩ z6).setCell ⟨w.heap.size + 1, 7, none⟩ z7).setCell ⟨w.heap.size + 1, 8, none⟩ z8).setCell ⟨w.heap.size + 1, 9, none⟩ z9).setCell ⟨w.heap.size + 1, 10, none⟩ z10))) := Lib.hid fun W' z0 z1 z2 z3 z4 z5 z6 z7 z8 z9 z10 h => ⟨((Blk.grown (HW.out.mrk.below h (by omega)) (grown11 W' (w.heap.size + 1) z0 z1 z2 z3 z4 z5 z6 z7 z8 z9 z10) (by simp)).cell 4), below11 (h.mono (by omega)) (Nat.le_refl _) z0 z1 z2 z3 z4 z5 z6 z7 z8 z9 z10⟩
      have hw1 : IntKind.i64.wrap ((t : Int) + 1) = (t : Int) + 1 := IntWalk.i64_in _ (by omega)
      refine wp_region_held_drew (S := fun W' => W'.cell? ⟨w.heap.size, 4, none⟩ = some (.string m.info) ∧ Below (w.heap.size + 1) wc W') (by kernel_rfl) (HS9.out _ HB0.out.drew) (fun hHeld => ?_)
      refine wpAnyH_take (i := 0) (v := .pointer (some ⟨w.heap.size, 4, none⟩)) rfl (by kernel_rfl) (by kernel_rfl) (by kernel_rfl) (fun _ _ _ h => h) (Or.inl ⟨by rfl, fun W' hSw => ?_⟩) hHeld ?_
      · obtain ⟨h0, h1⟩ := hSw
        go_simp
      try simp only [Act.put, List.setIfInBounds_toArray, List.set_cons_zero, List.set_cons_succ]
      refine wpAnyH_take (i := 1) (v := .string m.info) rfl (by kernel_rfl) (by kernel_rfl) (by kernel_rfl) (fun _ _ _ h => h) (Or.inl ⟨by rfl, fun W' hSw => ?_⟩) hHeld ?_
      · obtain ⟨h0, h1⟩ := hSw
        go_simp
      try simp only [Act.put, List.setIfInBounds_toArray, List.set_cons_zero, List.set_cons_succ]
      refine wpAnyH_take (i := 2) (v := .slice A3 (t - (i + 1)) c3) rfl (by kernel_rfl) (by kernel_rfl) (by kernel_rfl) (fun _ _ _ h => h) (Or.inl ⟨by rfl, fun W' hSw => ?_⟩) hHeld ?_
      · obtain ⟨h0, h1⟩ := hSw
        go_simp
      try simp only [Act.put, List.setIfInBounds_toArray, List.set_cons_zero, List.set_cons_succ]
      refine wpAnyH_take (i := 5) (v := .int .i64 t) rfl (by kernel_rfl) (by kernel_rfl) (by kernel_rfl) (fun _ _ _ h => h) (Or.inl ⟨by rfl, fun W' hSw => ?_⟩) hHeld ?_
      · obtain ⟨h0, h1⟩ := hSw
        go_simp
      try simp only [Act.put, List.setIfInBounds_toArray, List.set_cons_zero, List.set_cons_succ]
      refine wpAnyH_take (i := 6) (v := .int .i64 ((t : Int) + 1)) rfl (by kernel_rfl) (by kernel_rfl) (by kernel_rfl) (fun _ _ _ h => h) (Or.inl ⟨by rfl, fun W' hSw => ?_⟩) hHeld ?_
      · obtain ⟨h0, h1⟩ := hSw
        go_simp
      try simp only [Act.put, List.setIfInBounds_toArray, List.set_cons_zero, List.set_cons_succ]
      refine wpAnyH_take (i := 7) (v := .slice (some ⟨b, off, none⟩) zs.length c) rfl (by kernel_rfl) (by kernel_rfl) (by kernel_rfl) (fun _ _ _ h => h) (Or.inl ⟨by rfl, fun W' hSw => ?_⟩) hHeld ?_
      · obtain ⟨h0, h1⟩ := hSw
        go_simp
      try simp only [Act.put, List.setIfInBounds_toArray, List.set_cons_zero, List.set_cons_succ]
      refine wpAnyH_take (i := 8) (v := .int .i64 zs.length) rfl (by kernel_rfl) (by kernel_rfl) (by kernel_rfl) (fun _ _ _ h => h) (Or.inl ⟨by rfl, fun W' hSw => ?_⟩) hHeld ?_
      · obtain ⟨h0, h1⟩ := hSw
        go_simp
      try simp only [Act.put, List.setIfInBounds_toArray, List.set_cons_zero, List.set_cons_succ]
      refine wpAnyH_take (i := 9) (v := .int .i64 ((min (t + 1) zs.length : Nat) : Int)) rfl (by kernel_rfl) (by kernel_rfl) (by kernel_rfl) (fun _ _ _ h => h) (Or.inl ⟨by rfl, fun W' hSw => ?_⟩) hHeld ?_
      · obtain ⟨h0, h1⟩ := hSw
        go_simp
      try simp only [Act.put, List.setIfInBounds_toArray, List.set_cons_zero, List.set_cons_succ]
      refine wpAnyH_ready (rs := [3]) (by kernel_rfl) (by simp) (AllReadyH.cons rfl (fun K hK => ?_) AllReadyH.nil)
      go_simp
      ((with_reducible refine (HJ1.out _ HB0.out.drew).mono ?_))
      rintro e W9 ⟨rfl, b8⟩
      have b9 : Below wc.heap.size wc W9 := HB0.out.drew.trans b8
      obtain ⟨q0, q1, q2, q3, q4, q5, q6, q7, q8, q9, q10, r0, r1, r2, r3, r4, r5, r6, r7, r8, r9, r10⟩ := ZB.facts (HW.out.res.below (w := w) b9)
      have hqz : w.heap.size + 1 < W9.heap.size := by have := b9.size; omega
      go_simp
      refine hK.out _ _ (HS9.out _ b9) (fun hHeld => ?_)
      clear hK K
      try simp only [Act.put, List.setIfInBounds_toArray, List.set_cons_zero, List.set_cons_succ]
      refine wpAnyH_ready (rs := [4]) (by kernel_rfl) (by simp) (AllReadyH.cons rfl (fun K hK => ?_) AllReadyH.nil)
      go_simp
      refine hK.out _ _ hHeld (fun _ => ?_)
      clear hK K
      try simp only [Act.put, List.setIfInBounds_toArray, List.set_cons_zero, List.set_cons_succ]
      refine wpAnyH_ready (rs := [10]) (by kernel_rfl) (by simp) (AllReadyH.cons rfl (fun K hK => ?_) AllReadyH.nil)
      go_simp
      refine hK.out _ _ (HT11.out _ _ _ _ _ _ _ _ _ _ _ _ b9) (fun hHeld => ?_)
      clear hK K
      try simp only [Act.put, List.setIfInBounds_toArray, List.set_cons_zero, List.set_cons_succ]
      refine wpAnyH_ready (rs := [11]) (by kernel_rfl) (by simp) (AllReadyH.cons rfl (fun K hK => ?_) AllReadyH.nil)
      go_simp
      refine hK.out _ _ hHeld (fun _ => ?_)
      clear hK K
      try simp only [Act.put, List.setIfInBounds_toArray, List.set_cons_zero, List.set_cons_succ]
      refine wpAnyH_ready (rs := [12]) (by kernel_rfl) (by simp) (AllReadyH.cons rfl (fun K hK => ?_) AllReadyH.nil)
      go_simp
      refine hK.out _ _ hHeld (fun _ => ?_)
      clear hK K
      try simp only [Act.put, List.setIfInBounds_toArray, List.set_cons_zero, List.set_cons_succ]
      refine wpAnyH_done (by kernel_rfl) ?_ _
      go_wp2_with fail
      exact fenceAt_ret (blk11 (HW.out.res.below (w := w) b9) _ _ _ _ _ _ _ _ _ _ _) rfl rfl rfl rfl (bk_some rfl (repB_mk (att := emptyA) (AttR.empty _ _ _ _) (srcV_none _ _) (KidsV.none_ _ _)) (HW.out.bel.trans ((below11 (b9.mono (by omega)) (Nat.le_succ _) _ _ _ _ _ _ _ _ _ _ _))))

end Go.Proofs.YtpoafhgbhnblmaaGreatDoor
namespace Go.Proofs.YtpoafhgbhnblmaaGreatDoor
open Go.RowKit Go.Pub
/-- The mark's block, the result's, the list's. -/
structure LW (w : World) (MK LB : Array Value) (W : World) : Prop where
  mrk : Blk W w.heap.size 74 MK
  res : ZB W (w.heap.size + 1)
  lst : Blk W (w.heap.size + 2) 46 LB
  bel : Below w.heap.size w W
theorem LW.next {w W W' : World} {MK LB : Array Value} (h : LW w MK LB W) (hb : Below W.heap.size W W') : LW w MK LB W' :=
  ⟨h.mrk.below hb h.mrk.lt, h.res.below (w := w) hb, h.lst.below hb h.lst.lt, h.bel.trans (hb.mono h.bel.size)⟩
def liC (kind level : Int) (vK : Value) : Array Value := #[.int .i64 kind, .int .i64 level, .string ⟨#[]⟩, .string ⟨#[]⟩, .string ⟨#[]⟩, .string ⟨#[]⟩, .string ⟨#[]⟩, .slice none 0 0, .slice none 0 0, .slice none 0 0, vK]
theorem lw_start (w : World) (MK : Array Value) (k l : Int) : LW w MK (liC k l (.slice none 0 0)) (((w.alloc (.cells MK 74)).alloc (.cells zbC 46)).alloc (.cells (liC k l (.slice none 0 0)) 46)) := by
  have h := dw_start w MK
  refine ⟨h.mrk.alloc _, Blk.alloc h.res _, ?_, h.bel.alloc h.bel.size _⟩
  have h2 := Blk.new ((w.alloc (.cells MK 74)).alloc (.cells zbC 46)) 46 (liC k l (.slice none 0 0))
  simp at h2
  exact h2
theorem KOwn.far {w w' : World} {base g : Nat} {E : Nat → Prop} {v : Value} {bs : List BkT} (h : KOwn w base E v bs) (hg : w.grownBy w' (some g)) (hlt : g < base) : KOwn w' base E v bs := by
  obtain ⟨S, vs, hS, hk, ho⟩ := h
  refine ⟨S, vs, fun x hx => ⟨(hS x hx).1, Nat.lt_of_lt_of_le (hS x hx).2.1 hg.size, (hS x hx).2.2⟩, hk.keep (fun x hx => hg.block x (hS x hx).2.1 fun e => ?_) fun _ h => h, ho.kept hg ?_⟩
  · injection e with e; have := (hS x hx).1; omega
  · rcases ho.2 with ⟨rfl, _⟩ | ⟨g', cap, cur, rfl, hb, _⟩
    · exact .inl rfl
    · right
      intro e
      have : g' = g := by simpa [Value.ownBlock] using e
      omega
theorem KidsV.low {w : World} {B B' : Nat} {v : Value} {bs : List BkT} (h : KidsV w (Rg B w) v bs) (hB : B' ≤ B) : KidsV w (Rg B' w) v bs :=
  h.keep (fun _ _ => rfl) fun g hg => ⟨Nat.le_trans hB hg.1, hg.2⟩
theorem LW.grown {w W W' : World} {MK LB : Array Value} {tmp : Obj} {row : Option Nat} (h : LW w MK LB W) (hg : (W.alloc tmp).grownBy W' row) (hr : ∀ k, row = some k → w.heap.size + 3 ≤ k) : LW w MK LB W' :=
  ⟨(h.mrk.alloc _).grown hg (fun e => by have := hr _ e.symm; omega), Blk.grown (Blk.alloc h.res _) hg (fun e => by have := hr _ e.symm; omega), (h.lst.alloc _).grown hg (fun e => by have := hr _ e.symm; omega),
    (h.bel.alloc h.bel.size _).grown hg (by simp; exact Nat.le_succ_of_le h.bel.size) (fun k e => by have := hr k e; omega)⟩
theorem LW.store {w W : World} {MK : Array Value} {k l : Int} {v v' : Value} (h : LW w MK (liC k l v) W) : LW w MK (liC k l v') (W.setCell ⟨w.heap.size + 2, 10, none⟩ v') :=
  ⟨h.mrk.far (by simp) _, Blk.far h.res (by simp) _, h.lst.set_ 10 v', h.bel.setCell (p := ⟨w.heap.size + 2, 10, none⟩) (by simp) _⟩
theorem LW.mark {w W : World} {LB : Array Value} {z0 z1 z2 z3 z4 z5 z6 z7 z8 z9 z10 : Value} (h : LW w #[z0, z1, z2, z3, z4, z5, z6, z7, z8, z9, z10] LB W) (y0 y1 y2 y3 y4 y5 y6 y7 y8 y9 y10 : Value) : LW w #[y0, y1, y2, y3, y4, y5, y6, y7, y8, y9, y10] LB ((((((((((((W.setCell ⟨w.heap.size, 0, none⟩ y0).setCell ⟨w.heap.size, 1, none⟩ y1).setCell ⟨w.heap.size, 2, none⟩ y2).setCell ⟨w.heap.size, 3, none⟩ y3).setCell ⟨w.heap.size, 4, none⟩ y4).setCell ⟨w.heap.size, 5, none⟩ y5).setCell ⟨w.heap.size, 6, none⟩ y6).setCell ⟨w.heap.size, 7, none⟩ y7).setCell ⟨w.heap.size, 8, none⟩ y8).setCell ⟨w.heap.size, 9, none⟩ y9).setCell ⟨w.heap.size, 10, none⟩ y10).drewN 1) :=
  ⟨Blk.drewN (blk11 h.mrk y0 y1 y2 y3 y4 y5 y6 y7 y8 y9 y10) 1, Blk.drewN (Blk.grown h.res (grown11 W w.heap.size y0 y1 y2 y3 y4 y5 y6 y7 y8 y9 y10) (by simp)) 1, Blk.drewN (h.lst.grown (grown11 W w.heap.size y0 y1 y2 y3 y4 y5 y6 y7 y8 y9 y10) (by simp)) 1, below_drewN (below11 h.bel (Nat.le_refl _) y0 y1 y2 y3 y4 y5 y6 y7 y8 y9 y10) 1⟩
/-- What is asked of an item's mark. -/
structure MkOk (m : MkL) : Prop where
  off : m.off ≤ 1000000
  rest : m.rest.size ≤ 100000
  info : m.kind = 6 → m.info.size ≤ 1000000
theorem mkOk (s : ByteArray) (hs : s.size ≤ 100000) (h : (markM s).kind = 5 ∨ (markM s).kind = 6) : MkOk (markM s) :=
  ⟨Nat.le_trans (mark_small s).2 (by omega), Nat.le_trans (mark_rest s (by omega)).1 hs, fun h6 => Nat.le_trans (mark_info s h6) (by omega)⟩
theorem same_kind {a b : MkL} (h : sameR a b = true) : a.kind = b.kind := by
  unfold sameR at h
  rw [decide_eq_true_eq] at h
  exact h.1
/-- The loop's state. -/
def LiRel (rec : List ByteArray → Option (List BkT)) (zs : List ByteArray) (lk ll : Nat) (full : Option (List BkT × Nat)) (w : World) (v1 : Value) (wr : World) : Prop :=
  ∃ (i : Nat) (m : MkL) (A9 : Option Addr) (n9 c9 : Nat) (A10 : Option Addr) (n10 c10 : Nat) (vK : Value) (its : List BkT), v1 = .int .i64 i ∧ i < zs.length ∧ MkOk m ∧ (m.kind = 5 ∨ m.kind = 6) ∧
    LW w (m.cells (.slice A9 n9 c9) (.slice A10 n10 c10)) (liC lk ll vK) wr ∧ Hid (KOwn wr (w.heap.size + 3) (fun _ => False) vK its) ∧ its.length ≤ i ∧ Hid (full = (itemsT rec zs i m).map fun r => (its ++ r.1, r.2))
theorem li_facts {W : World} {g : Nat} {k l : Int} {vK : Value} (h : Blk W g 46 (liC k l vK)) : W.cell? ⟨g, 0, none⟩ = some (.int .i64 k) ∧ W.cell? ⟨g, 1, none⟩ = some (.int .i64 l) ∧ W.cell? ⟨g, 2, none⟩ = some (.string ⟨#[]⟩) ∧ W.cell? ⟨g, 3, none⟩ = some (.string ⟨#[]⟩) ∧ W.cell? ⟨g, 4, none⟩ = some (.string ⟨#[]⟩) ∧ W.cell? ⟨g, 5, none⟩ = some (.string ⟨#[]⟩) ∧ W.cell? ⟨g, 6, none⟩ = some (.string ⟨#[]⟩) ∧ W.cell? ⟨g, 7, none⟩ = some (.slice none 0 0) ∧ W.cell? ⟨g, 8, none⟩ = some (.slice none 0 0) ∧ W.cell? ⟨g, 9, none⟩ = some (.slice none 0 0) ∧ W.cell? ⟨g, 10, none⟩ = some vK ∧ W.frozen? ⟨g, 0, none⟩ = false ∧ W.frozen? ⟨g, 1, none⟩ = false ∧ W.frozen? ⟨g, 2, none⟩ = false ∧ W.frozen? ⟨g, 3, none⟩ = false ∧ W.frozen? ⟨g, 4, none⟩ = false ∧ W.frozen? ⟨g, 5, none⟩ = false ∧ W.frozen? ⟨g, 6, none⟩ = false ∧ W.frozen? ⟨g, 7, none⟩ = false ∧ W.frozen? ⟨g, 8, none⟩ = false ∧ W.frozen? ⟨g, 9, none⟩ = false ∧ W.frozen? ⟨g, 10, none⟩ = false := mk_facts h
set_option maxRecDepth 100000 in
set_option maxHeartbeats 1000000 in
theorem n_list (rec : List ByteArray → Option (List BkT)) (d : Nat) (hd : d ≤ 15) (zs : List ByteArray) (A : Option Addr) (c i B : Nat) (MM : Int) (m : MkL) (A9 : Option Addr) (n9 c9 : Nat) (A10 : Option Addr) (n10 c10 : Nat) (w : World) (hR : d + 1 ≤ 15 → RecP rec (d + 2) MM) (hL : LinesAt w A zs MM) (hi : i < zs.length) (hc : zs.length ≤ c) (hcm : c ≤ maxLen) (hB : B ≤ w.heap.size) (hok : MkOk m) (h56 : m.kind = 5 ∨ m.kind = 6) :
    Calls Tryz.prog 76 #[.slice A zs.length c, .int .i64 i, .agg (m.cells (.slice A9 n9 c9) (.slice A10 n10 c10)), .int .i64 d] w
      (BkPost B (if decide (d + 1 ≤ 15) = true then (itemsT rec zs i m).map (fun r => (listB m r.1, r.2)) else none) w) := by
  have hlen := hL.len
  obtain ⟨lk, hlk⟩ : ∃ lk : Nat, lk = if m.kind = 6 then 8 else 7 := ⟨_, rfl⟩
  obtain ⟨ll, hll⟩ : ∃ ll : Nat, ll = if m.kind = 6 then m.n else 0 := ⟨_, rfl⟩
  have HLB : Hid (∀ kids, listB m kids = .mk lk ll ⟨#[]⟩ ⟨#[]⟩ ⟨#[]⟩ ⟨#[]⟩ emptyA ⟨#[]⟩ kids) := Lib.hid fun kids => by rw [hlk, hll]; rfl
  obtain ⟨full, hfull⟩ : ∃ full, full = itemsT rec zs i m := ⟨_, rfl⟩
  rw [← hfull]
  obtain ⟨PR, hPR⟩ : ∃ PR, PR = if decide (d + 1 ≤ 15) = true then full.map (fun r => (listB m r.1, r.2)) else none := ⟨_, rfl⟩
  rw [← hPR]
  have HPR := Lib.hid hPR
  have HF0 : Hid (full = (itemsT rec zs i m).map fun r => (([] : List BkT) ++ r.1, r.2)) := Lib.hid (by rw [hfull]; cases itemsT rec zs i m <;> rfl)
  have HOK := Lib.hid hok
  have H56 := Lib.hid h56
  clear hPR hfull hok h56
  have HLi := Lib.hid hL
  have HS := Lib.hid (lw_start w (m.cells (.slice A9 n9 c9) (.slice A10 n10 c10)))
  have HS7 := Lib.hid (HS.out 7 0)
  have HSl : Hid (LW w (m.cells (.slice A9 n9 c9) (.slice A10 n10 c10)) (liC lk ll (.slice none 0 0)) (((w.alloc (.cells (m.cells (.slice A9 n9 c9) (.slice A10 n10 c10)) 74)).alloc (.cells zbC 46)).alloc (.cells (liC lk ll (.slice none 0 0)) 46))) := Lib.hid (HS.out lk ll)
  clear HS
  unfold liC zbC MkL.cells at HS7
  go_enter Tryz.func76, Tryz.ntmps76
  unfold MkL.cells
  go_upto_if 22 with fail
  go_cut [] (fun wx => LW w (m.cells (.slice A9 n9 c9) (.slice A10 n10 c10)) (liC lk ll (.slice none 0 0)) wx)
  case first =>
    rcases H56.out with h5 | h6
    · have e1 : lk = 7 := by rw [hlk, if_neg (by omega)]
      have e2 : ll = 0 := by rw [hll, if_neg (by omega)]
      have z1 : (((m.kind : Nat) : Int) == 6) = false := by rw [beq_eq_false_iff_ne]; omega
      have E1 := Lib.hid e1
      have E2 := Lib.hid e2
      clear hlk hll h5 e1 e2 HSl
      go_wp2_with fail
      go_meet
      rw [E1.out, E2.out]
      exact HS7.out
    · have e1 : lk = 8 := by rw [hlk, if_pos h6]
      have e2 : ll = m.n := by rw [hll, if_pos h6]
      have z1 : (((m.kind : Nat) : Int) == 6) = true := by rw [beq_iff_eq]; omega
      have E1 := Lib.hid e1
      have E2 := Lib.hid e2
      clear hlk hll h6 e1 e2 HS7
      go_wp2_with fail
      go_meet
      have h := HSl.out
      rw [E1.out, E2.out] at h ⊢
      exact h
  case rest =>
  have HW := Lib.hid hcut
  clear HS7 HSl hcut hlk hll
  by_cases hd2 : d + 1 ≤ 15
  case neg =>
    have d1 : decide (15 < (d : Int) + 1) = true := decide_eq_true (by omega)
    obtain ⟨k0, k1, k2, k3, k4, k5, k6, k7, k8, k9, k10, y0, y1, y2, y3, y4, y5, y6, y7, y8, y9, y10⟩ := ZB.facts HW.out.res
    clear hR
    go_wp2_with fail
    exact listAt_ret (blk11 HW.out.res _ _ _ _ _ _ _ _ _ _ _) rfl rfl rfl rfl (bk_none (by rw [HPR.out, if_neg (by rw [decide_eq_true_eq]; exact hd2)]) ⟨_, _, _, _, _, _, _, _, _, _, _, _, _, _, _, _, _, _, _, rfl⟩ (below11 HW.out.bel (Nat.le_succ _) _ _ _ _ _ _ _ _ _ _ _))
  have d1 : decide (15 < (d : Int) + 1) = false := decide_eq_false (by omega)
  have HRec := Lib.hid (hR hd2)
  obtain ⟨i0, hi0, hz0, hz1, hz2⟩ := info_parts block_info
  obtain ⟨b, off, rfl, hb, hcell⟩ := hL.get (by omega)
  have HCell := Lib.hid hcell
  have hdd : (d : Int) + 2 = ((d + 2 : Nat) : Int) := by omega
  have HDD := Lib.hid hdd
  have HM : Hid (∀ j W, Calls Tryz.prog 38 #[.string (ln zs j)] W fun e w' => ∃ A c D d, e = .returned (.agg ((markM (ln zs j)).cells (.slice A (markM (ln zs j)).att.cl.length c) (.slice D (markM (ln zs j)).att.pr.length d))) ∧ Below W.heap.size W w') := Lib.hid fun j W => (m_of (ln zs j) W (Nat.le_trans (ln_size hL.sz j) (by decide))).mono fun e w' => mkpost_val
  have HBl : Hid (∀ j W, Calls Tryz.prog 57 #[.string (ln zs j)] W fun e w' => e = .returned (.bool (blankB (ln zs j))) ∧ W = w') := Lib.hid fun j W => t_blank (ln zs j) W (Nat.le_trans (ln_size hL.sz j) (by decide))
  have HCo := Lib.hid fun (i : Nat) (hi : i < zs.length) (m : MkL) (ho : MkOk m) (A9 : Option Addr) (n9 c9 : Nat) (A10 : Option Addr) (n10 c10 : Nat) (W : World) (h : LinesAt W (some ⟨b, off, none⟩) zs MM) => n_content zs (some ⟨b, off, none⟩) c i MM m A9 n9 c9 A10 n10 c10 W h hi hc hcm ho.off ho.rest
  have HStep := Lib.hid fun i m h => itemsT_step rec zs i m h
  have HOkj : Hid (∀ j, (markM (ln zs j)).kind = 5 ∨ (markM (ln zs j)).kind = 6 → MkOk (markM (ln zs j))) := Lib.hid fun j h => mkOk (ln zs j) (ln_size hL.sz j) h
  have HSame : Hid (∀ (a b : MkL), MkOk a → b.off ≤ 2000000 → (b.kind = 6 → b.info.size ≤ 1000000) → ∀ (A1 A2 A3 A4 : Option Addr) (n1 c1 n2 c2 n3 c3 n4 c4 : Nat) W, Calls Tryz.prog 118 #[.agg (a.cells (.slice A1 n1 c1) (.slice A2 n2 c2)), .agg (b.cells (.slice A3 n3 c3) (.slice A4 n4 c4))] W fun e w' => e = .returned (.bool (sameR a b)) ∧ Below W.heap.size W w') := Lib.hid fun a b ha hb hi A1 A2 A3 A4 n1 c1 n2 c2 n3 c3 n4 c4 W => m_same a b A1 A2 A3 A4 n1 c1 n2 c2 n3 c3 n4 c4 W (Nat.le_trans ha.off (by decide)) hb hi
  have HIn : Hid (∀ j, (markM (ln zs j)).off ≤ 2000000 ∧ ((markM (ln zs j)).kind = 6 → (markM (ln zs j)).info.size ≤ 1000000)) := Lib.hid fun j => ⟨by have h1 := (mark_small (ln zs j)).2; have h2 := ln_size hL.sz j; omega, fun h6 => Nat.le_trans (mark_info _ h6) (Nat.le_trans (ln_size hL.sz j) (by decide))⟩
  have HPR2 : Hid (PR = full.map (fun r => (listB m r.1, r.2))) := Lib.hid (by rw [HPR.out, if_pos (decide_eq_true hd2)])
  clear hL hcell hR hdd HPR
  go_wp2_with fail
  go_loopw [1] (fun v1 wr => LiRel rec zs lk ll full w v1 wr) (fun v1 _ => zs.length - (intOf v1).toNat)
  case atStart => exact ⟨i, m, A9, n9, c9, A10, n10, c10, _, [], rfl, hi, HOK.out, H56.out, HW.out, Lib.hid (KOwn.nil _ _ _), Nat.zero_le _, HF0.out⟩
  case round =>
    clear HW HF0 HOK H56 hi d1
    obtain ⟨i', m', B9, e9, f9, B10, e10, f10, vK, its, rfl, hi', hok', h56', hLW, HKO, hit, HFu⟩ := hrel
    have HLW := Lib.hid hLW
    have hbw := hLW.bel
    have hzr := hbw.size
    have hll := hLW.lst.lt
    have HLr := Lib.hid (HLi.out.below hbw)
    obtain ⟨p0, p1, p2, p3, p4, p5, p6, p7, p8, p9, p10, x0, x1, x2, x3, x4, x5, x6, x7, x8, x9, x10⟩ := mk_facts hLW.mrk
    have HCi := Lib.hid fun W h => HCo.out i' hi' m' hok' B9 e9 f9 B10 e10 f10 W h
    have HSt := Lib.hid (HStep.out i' m' hi')
    have hcb := contL_bd zs i' m' hi'
    have HOk' := Lib.hid hok'
    have H56' := Lib.hid h56'
    unfold ContPost MkL.cells at HCi
    obtain ⟨AK, cK, rfl⟩ := HKO.out.own
    clear HCo HStep hLW h56' hok'
    generalize contL zs i' m' = CL at *
    obtain ⟨inner, tt⟩ := CL
    simp only [] at HCi HSt hcb
    go_wp2_with fail
    ((with_reducible refine (HCi.out _ HLr.out).mono ?_))
    rintro e w1 ⟨⟨A1, c1, rfl, hc1, hc2, hLn⟩, b1⟩
    have HRi := Lib.hid (HRec.out inner A1 c1 w1 hLn hc1 hc2)
    have hz1' := b1.size
    clear HCi hLn p0 p1 p2 p3 p4 p5 p6 p7 p8 p9 p10 x0 x1 x2 x3 x4 x5 x6 x7 x8 x9 x10
    go_wp2_with fail
    rw [HDD.out]
    ((with_reducible refine (HRi.out).mono ?_))
    rintro e w2 ⟨hp, b2⟩
    have b12 := b1.trans (b2.mono hz1')
    have hz2' := b2.size
    have HLW2 := Lib.hid (HLW.out.next b12)
    clear HRi b1 b2
    cases hrc : rec inner with
    | none =>
      rw [hrc] at hp
      have HE : Hid (full = none) := Lib.hid (by rw [HFu.out, HSt.out, hrc]; rfl)
      clear hrc HSt HFu b12
      subst hp
      unfold bkErr
      obtain ⟨k0, k1, k2, k3, k4, k5, k6, k7, k8, k9, k10, y0, y1, y2, y3, y4, y5, y6, y7, y8, y9, y10⟩ := ZB.facts HLW2.out.res
      go_wp2_with fail
      exact listAt_ret (blk11 HLW2.out.res _ _ _ _ _ _ _ _ _ _ _) rfl rfl rfl rfl (bk_none (by rw [HPR2.out, HE.out]; rfl) ⟨_, _, _, _, _, _, _, _, _, _, _, _, _, _, _, _, _, _, _, rfl⟩ (below11 HLW2.out.bel (Nat.le_succ _) _ _ _ _ _ _ _ _ _ _ _))
    | some kids =>
      rw [hrc] at hp
      rw [hrc] at HSt
      clear hrc
      obtain ⟨A5, c5, A6, n6, c6, rfl, hk⟩ := hp
      have HREP := Lib.hid (repB_kid (kind := 9) (hk.low hz1'))
      obtain ⟨S, vs, hS, hkk, hown⟩ := HKO.out
      have hown2 := own_below hown b12
      have hv7 := hown.lt
      have HKK := Lib.hid hkk
      have HSS := Lib.hid hS
      have HB12 := Lib.hid b12
      have hab : AnyB #[.int .i64 9, .int .i64 0, .string ⟨#[]⟩, .string ⟨#[]⟩, .string ⟨#[]⟩, .string ⟨#[]⟩, .string ⟨#[]⟩, .slice none 0 0, .slice none 0 0, .slice none 0 0, .slice A5 kids.length c5] := ⟨_, _, _, _, _, _, _, _, _, _, _, _, _, _, _, _, _, _, _, rfl⟩
      obtain ⟨k0, k1, k2, k3, k4, k5, k6, k7, k8, k9, k10, y0, y1, y2, y3, y4, y5, y6, y7, y8, y9, y10⟩ := li_facts HLW2.out.lst
      have hll2 := HLW2.out.lst.lt
      clear hk hkk hS hown HKO k0 k1 k2 k3 k4 k5 k6 k7 k8 k9 y0 y1 y2 y3 y4 y5 y6 y7 y8 y9 y10 b12
      go_wp2_with (at_builtin; refine wpList_append_lies _ rfl _ _ 25 rfl (w.heap.size + 3) 46 i0 _ 11 192 Tryz.underlying25 hi0 hz0 hz1 hz2 rfl (by decide) _ _ _ rfl (hown2.alloc _) ⟨w2.heap.size, 0, none⟩ 1 1 _ rfl hab.len ?c1 hab.one (by decide) ?c3 ?c4 ?c5 (w2.heap.size + 1) ?c6 ?_)
      case c3 => unfold maxLen; omega
      case c4 => omega
      case c5 => simp; omega
      case c6 => simp
      intro g7 cap7 w3 hown3 hgrow hlies hlt3
      have HKO3 := Lib.hid (KOwn.push (E := fun _ => False) HSS.out HKK.out HB12.out (fun k h => (hv7 k h).2) (fun k h => h.elim) (by omega) HB12.out.size HREP.out hown3 hgrow hlies (Nat.le_succ _))
      have HLW3 := Lib.hid (HLW2.out.grown hgrow (fun k e => (hown2.lt k e).1))
      have HKO4 := Lib.hid (HKO3.out.far (only_store (only_refl w3 (some (w.heap.size + 2))) 10 (.slice (some ⟨g7, 0, none⟩) (its.length + 1) cap7)) (by omega))
      have HLW4 := Lib.hid (HLW3.out.store (v' := .slice (some ⟨g7, 0, none⟩) (its.length + 1) cap7))
      obtain ⟨k0, k1, k2, k3, k4, k5, k6, k7, k8, k9, k10, y0, y1, y2, y3, y4, y5, y6, y7, y8, y9, y10⟩ := li_facts HLW3.out.lst
      have hll3 := HLW3.out.lst.lt
      clear HKO3 HLW2 hgrow hlies hown3 hown2 HSS HKK HB12 HREP hv7 hab k0 k1 k2 k3 k4 k5 k6 k7 k8 k9 y0 y1 y2 y3 y4 y5 y6 y7 y8 y9
      go_upto_region 11 with fail
      generalize hW4 : w3.setCell _ _ = W4
      replace HLW4 : Hid (LW w (m'.cells (.slice B9 e9 f9) (.slice B10 e10 f10)) (liC lk ll (.slice (some ⟨g7, 0, none⟩) (its.length + 1) cap7)) W4) := Lib.hid (by rw [← hW4]; exact HLW4.out)
      replace HKO4 : Hid (KOwn W4 (w.heap.size + 3) (fun _ => False) (.slice (some ⟨g7, 0, none⟩) (its.length + 1) cap7) (its ++ [kidB 9 kids])) := Lib.hid (by rw [← hW4]; exact HKO4.out)
      clear hW4 k10 y10 hll3 HLW3 hll2
      have hbw4 := HLW4.out.bel
      have hz4 := hbw4.size
      have hn := nextNB_bd zs tt hcb.2
      have HNb : Hid (∀ j, tt ≤ j → j ≤ zs.length → (∀ k, tt ≤ k → k < j → blankB (ln zs k) = true) → (j < zs.length → blankB (ln zs j) = false) → nextNB zs tt = j) := Lib.hid fun j h1 h2 h3 h4 => seek_eq _ _ _ _ h1 h2 (fun k a b => by rw [h3 k a b]; rfl) (fun h => by rw [h4 h]; rfl)
      go_upto_block 2 with fail
      go_cut [17] (fun s17 wx => s17 = .int .i64 (nextNB zs tt) ∧ W4 = wx)
      case first =>
        go_wp2_with fail
        go_loop [17] (fun v17 => ∃ j : Nat, v17 = .int .i64 j ∧ tt ≤ j ∧ j ≤ zs.length ∧ Hid (∀ k, tt ≤ k → k < j → blankB (ln zs k) = true)) (fun v => zs.length - (intOf v).toNat)
        case atStart => exact ⟨tt, rfl, Nat.le_refl _, hcb.2, Lib.hid fun k h1 h2 => absurd h2 (by omega)⟩
        case round =>
          obtain ⟨j, rfl, hj1, hj, Hbl⟩ := hrel
          by_cases hlt : j < zs.length
          · have hc0 : W4.cell? ⟨b, off + j, none⟩ = some (.string (ln zs j)) := (hbw4.cell (p := ⟨b, off + j, none⟩) hb).trans (HCell.out j hlt)
            have HB1 := Lib.hid fun W => HBl.out j W
            cases hbz : blankB (ln zs j) with
            | true =>
              rw [hbz] at HB1
              have HX : Hid (∀ k, tt ≤ k → k < j + 1 → blankB (ln zs k) = true) := Lib.hid fun k h1 h2 => by
                by_cases e : k = j
                · rw [e]; exact hbz
                · exact Hbl.out k h1 (by omega)
              clear hbz HBl HNb Hbl
              go_wp2_with fail
              ((with_reducible refine (HB1.out _).mono ?_))
              rintro e w9 ⟨rfl, rfl⟩
              go_wp2_with fail
              go_round
              case rel => exact ⟨j + 1, by go_num, by omega, by omega, HX⟩
              case measure => simp [intOf]; omega
            | false =>
              rw [hbz] at HB1
              have HX := Lib.hid (HNb.out j hj1 hj Hbl.out (fun _ => hbz))
              clear hbz HBl HNb Hbl
              go_wp2_with fail
              ((with_reducible refine (HB1.out _).mono ?_))
              rintro e w9 ⟨rfl, rfl⟩
              go_wp2_with fail
              go_meet
              exact ⟨by rw [HX.out], rfl⟩
          · have HX := Lib.hid (HNb.out j hj1 hj Hbl.out (fun h => absurd h hlt))
            clear HBl HNb Hbl
            go_wp2_with fail
            go_meet
            exact ⟨by rw [HX.out], rfl⟩
      case rest =>
      obtain ⟨rfl, rfl⟩ := hcut
      clear HNb
      generalize nextNB zs tt = nx at *
      have HS2 : Hid (itemsT rec zs i' m' = if nx < zs.length ∧ sameR m' (markM (ln zs nx)) = true then (itemsT rec zs nx (markM (ln zs nx))).map fun r => (kidB 9 kids :: r.1, r.2) else some ([kidB 9 kids], tt)) := Lib.hid HSt.out
      clear HSt
      have hil : its.length + 1 ≤ nx := by omega
      by_cases hlt : nx < zs.length
      · have hc0 : W4.cell? ⟨b, off + nx, none⟩ = some (.string (ln zs nx)) := (hbw4.cell (p := ⟨b, off + nx, none⟩) hb).trans (HCell.out nx hlt)
        have HMx := Lib.hid fun W => HM.out nx W
        have HIx := Lib.hid (HIn.out nx)
        have HOx := Lib.hid (HOkj.out nx)
        clear HM HIn HOkj
        generalize markM (ln zs nx) = mn at *
        unfold MkL.cells at HMx
        go_wp2_with fail
        ((with_reducible refine (HMx.out _).mono ?_))
        rintro e w5 ⟨D1, d1, D2, d2, rfl, b5⟩
        have HLW5 := Lib.hid (HLW4.out.next b5)
        have HKO5 := Lib.hid (HKO4.out.below b5)
        have hLi5 := Lib.hid HLW5.out.lst.lt
        have HBx := Lib.hid (Blk.new w5 74 #[.int .i64 mn.kind, .int .i64 mn.n, .string mn.ch, .int .i64 mn.off, .string mn.info, .string mn.rest, .string mn.dest, .string mn.title, .string mn.att.id, .slice D1 mn.att.cl.length d1, .slice D2 mn.att.pr.length d2])
        have HLW6 := Lib.hid (HLW5.out.next ((Below.refl _ w5).alloc (Nat.le_refl _) (.cells #[.int .i64 mn.kind, .int .i64 mn.n, .string mn.ch, .int .i64 mn.off, .string mn.info, .string mn.rest, .string mn.dest, .string mn.title, .string mn.att.id, .slice D1 mn.att.cl.length d1, .slice D2 mn.att.pr.length d2] 74)))
        have HKO6 := Lib.hid (HKO5.out.below ((Below.refl _ w5).alloc (Nat.le_refl _) (.cells #[.int .i64 mn.kind, .int .i64 mn.n, .string mn.ch, .int .i64 mn.off, .string mn.info, .string mn.rest, .string mn.dest, .string mn.title, .string mn.att.id, .slice D1 mn.att.cl.length d1, .slice D2 mn.att.pr.length d2] 74)))
        have HSm := Lib.hid fun W => HSame.out m' mn HOk'.out HIx.out.1 HIx.out.2 B9 B10 D1 D2 e9 f9 e10 f10 mn.att.cl.length d1 mn.att.pr.length d2 W
        unfold MkL.cells at HSm
        clear HSame HMx b5 HLW5 HKO5 HLW4 HKO4
        go_upto_region 17 with fail
        generalize hW6 : w5.alloc _ = W6
        replace HBx : Hid (Blk W6 w5.heap.size 74 #[.int .i64 mn.kind, .int .i64 mn.n, .string mn.ch, .int .i64 mn.off, .string mn.info, .string mn.rest, .string mn.dest, .string mn.title, .string mn.att.id, .slice D1 mn.att.cl.length d1, .slice D2 mn.att.pr.length d2]) := Lib.hid (by rw [← hW6]; exact HBx.out)
        replace HLW6 : Hid (LW w (m'.cells (.slice B9 e9 f9) (.slice B10 e10 f10)) (liC lk ll (.slice (some ⟨g7, 0, none⟩) (its.length + 1) cap7)) W6) := Lib.hid (by rw [← hW6]; exact HLW6.out)
        replace HKO6 : Hid (KOwn W6 (w.heap.size + 3) (fun _ => False) (.slice (some ⟨g7, 0, none⟩) (its.length + 1) cap7) (its ++ [kidB 9 kids])) := Lib.hid (by rw [← hW6]; exact HKO6.out)
        have hw56 : w.heap.size + 2 < w5.heap.size := by
          have h1 := HLW6.out.lst.lt
          have h2 : W6.heap.size = w5.heap.size + 1 := by rw [← hW6]; simp
          have h3 := HBx.out.lt
          have h4 := hLi5.out
          omega
        clear hW6
        generalize w5.heap.size = g5 at *
        obtain ⟨p0, p1, p2, p3, p4, p5, p6, p7, p8, p9, p10, x0, x1, x2, x3, x4, x5, x6, x7, x8, x9, x10⟩ := mk_facts HLW6.out.mrk
        obtain ⟨q0, q1, q2, q3, q4, q5, q6, q7, q8, q9, q10, r0, r1, r2, r3, r4, r5, r6, r7, r8, r9, r10⟩ := mk_facts HBx.out
        clear x0 x1 x2 x3 x4 x5 x6 x7 x8 x9 x10 r0 r1 r2 r3 r4 r5 r6 r7 r8 r9 r10
        go_wp2_with fail
        ((with_reducible refine (HSm.out _).mono ?_))
        rintro e w7 ⟨rfl, b7⟩
        have HLW7 := Lib.hid (HLW6.out.next b7)
        have HKO7 := Lib.hid (HKO6.out.below b7)
        have HBx7 := Lib.hid (HBx.out.below b7 HBx.out.lt)
        clear HLW6 HKO6 HBx b7 HSm p0 p1 p2 p3 p4 p5 p6 p7 p8 p9 p10 q0 q1 q2 q3 q4 q5 q6 q7 q8 q9 q10
        cases hsm : sameR m' mn with
        | true =>
          have hkk := same_kind hsm
          have HFn : Hid (full = (itemsT rec zs nx mn).map fun r => ((its ++ [kidB 9 kids]) ++ r.1, r.2)) := Lib.hid (by
            rw [HFu.out, HS2.out, if_pos ⟨hlt, hsm⟩]
            cases itemsT rec zs nx mn with
            | none => rfl
            | some q => simp)
          have H56n : Hid (mn.kind = 5 ∨ mn.kind = 6) := Lib.hid (by rw [← hkk]; exact H56'.out)
          have HOn := Lib.hid (HOx.out H56n.out)
          obtain ⟨p0, p1, p2, p3, p4, p5, p6, p7, p8, p9, p10, x0, x1, x2, x3, x4, x5, x6, x7, x8, x9, x10⟩ := mk_facts HLW7.out.mrk
          obtain ⟨q0, q1, q2, q3, q4, q5, q6, q7, q8, q9, q10, r0, r1, r2, r3, r4, r5, r6, r7, r8, r9, r10⟩ := mk_facts HBx7.out
          have hml := HLW7.out.mrk.lt
          have HG := Lib.hid (Blk.lt HLW7.out.res)
          clear hsm hkk HS2 HFu r0 r1 r2 r3 r4 r5 r6 r7 r8 r9 r10
          go_wp2_with fail
          go_region
          all_goals
            go_wp2_with fail
            refine ⟨⟨nx, mn, D1, _, d1, D2, _, d2, _, its ++ [kidB 9 kids], rfl, hlt, HOn.out, H56n.out, HLW7.out.mark _ _ _ _ _ _ _ _ _ _ _, Lib.hid ((KOwn.far HKO7.out (grown11 _ _ _ _ _ _ _ _ _ _ _ _ _) (by omega)).below (below_drewN (Below.refl _ _) 1)), by simp; omega, HFn.out⟩, by simp [intOf]; omega⟩
        | false =>
          have HF1 : Hid (full = some (its ++ [kidB 9 kids], tt)) := Lib.hid (by
            rw [HFu.out, HS2.out, if_neg (fun h => by rw [hsm] at h; exact Bool.false_ne_true h.2)]; rfl)
          obtain ⟨k0, k1, k2, k3, k4, k5, k6, k7, k8, k9, k10, y0, y1, y2, y3, y4, y5, y6, y7, y8, y9, y10⟩ := ZB.facts HLW7.out.res
          obtain ⟨l0, l1, l2, l3, l4, l5, l6, l7, l8, l9, l10, j0, j1, j2, j3, j4, j5, j6, j7, j8, j9, j10⟩ := li_facts HLW7.out.lst
          clear hsm HS2 HFu j0 j1 j2 j3 j4 j5 j6 j7 j8 j9 j10
          go_wp2_with fail
          exact listAt_ret (blk11 HLW7.out.res _ _ _ _ _ _ _ _ _ _ _) rfl rfl rfl rfl (bk_some (by rw [HPR2.out, HF1.out]; show some (listB m _, tt) = _; rw [HLB.out]) (repB_mk (att := emptyA) (AttR.empty _ _ _ _) (srcV_none _ _) ((KOwn.kids (HKO7.out.far (grown11 _ _ _ _ _ _ _ _ _ _ _ _ _) (by omega))).low (by omega))) (below11 HLW7.out.bel (Nat.le_succ _) _ _ _ _ _ _ _ _ _ _ _))
      · have HF1 : Hid (full = some (its ++ [kidB 9 kids], tt)) := Lib.hid (by
          rw [HFu.out, HS2.out, if_neg (fun h => hlt h.1)]; rfl)
        obtain ⟨k0, k1, k2, k3, k4, k5, k6, k7, k8, k9, k10, y0, y1, y2, y3, y4, y5, y6, y7, y8, y9, y10⟩ := ZB.facts HLW4.out.res
        obtain ⟨l0, l1, l2, l3, l4, l5, l6, l7, l8, l9, l10, j0, j1, j2, j3, j4, j5, j6, j7, j8, j9, j10⟩ := li_facts HLW4.out.lst
        clear HS2 HFu j0 j1 j2 j3 j4 j5 j6 j7 j8 j9 j10
        go_wp2_with fail
        exact listAt_ret (blk11 HLW4.out.res _ _ _ _ _ _ _ _ _ _ _) rfl rfl rfl rfl (bk_some (by rw [HPR2.out, HF1.out]; show some (listB m _, tt) = _; rw [HLB.out]) (repB_mk (att := emptyA) (AttR.empty _ _ _ _) (srcV_none _ _) ((KOwn.kids (HKO4.out.far (grown11 _ _ _ _ _ _ _ _ _ _ _ _ _) (by omega))).low (by omega))) (below11 HLW4.out.bel (Nat.le_succ _) _ _ _ _ _ _ _ _ _ _ _))

end Go.Proofs.YtpoafhgbhnblmaaGreatDoor
namespace Go.Proofs.YtpoafhgbhnblmaaGreatDoor
open Go.RowKit Go.Pub
/-- The trimmed lines of a paragraph so far. -/
def paraK (zs : List ByteArray) (i k : Nat) : List ByteArray := (cutL zs i k).map fun z => mk (trimS (bytesL z))
theorem paraK_succ (zs : List ByteArray) (i k : Nat) (h : i ≤ k) (hk : k < zs.length) : strs (paraK zs i (k + 1)) = strs (paraK zs i k) ++ [.string (mk (trimS (bytesL (ln zs k))))] := by
  unfold paraK strs
  rw [cutL_succ zs i k h hk, List.map_append, List.map_append]
  rfl
theorem paraK_len (zs : List ByteArray) (i k : Nat) (h : i ≤ k) (hk : k ≤ zs.length) : (paraK zs i k).length = k - i := by unfold paraK; rw [List.length_map, cutL_len _ _ _ h hk]
theorem own_drewN {w : World} {base size n : Nat} {e : TypeId} {v : Value} {xs : List Value} (h : w.ownsRow base e size v n xs) (k : Nat) : (w.drewN k).ownsRow base e size v n xs := h
theorem srcV_form {w : World} {S : Nat → Prop} {v : Value} {s : ByteArray} (h : SrcV w S v s) : ∃ A n c, v = .slice A n c := by
  unfold SrcV at h
  by_cases hz : s.size = 0
  · rw [if_pos hz] at h; exact ⟨_, _, _, h⟩
  · rw [if_neg hz] at h
    obtain ⟨A, c, e, _⟩ := h
    exact ⟨_, _, _, e⟩
theorem srcV_far {w w' : World} {B B' g : Nat} {v : Value} {s : ByteArray} (h : SrcV w (Rg B w) v s) (hg : w.grownBy w' (some g)) (hlt : g < B) (hB : B' ≤ B) : SrcV w' (Rg B' w') v s :=
  h.keep (fun x hx => hg.block x hx.2 fun e => by injection e with e; have := hx.1; omega) fun x hx => ⟨by have := hx.1; omega, Nat.lt_of_lt_of_le hx.2 hg.size⟩
/-- A block with a line. -/
theorem repB_leaf {w : World} {S : Nat → Prop} {kind : Nat} {line : ByteArray} {vL : Value} (hl : SrcV w S vL line) : RepB w S #[.int .i64 kind, .int .i64 (0 : Nat), .string ⟨#[]⟩, .string ⟨#[]⟩, .string ⟨#[]⟩, .string ⟨#[]⟩, .string ⟨#[]⟩, .slice none 0 0, .slice none 0 0, vL, .slice none 0 0] (leafB kind line) :=
  repB_mk (att := emptyA) (AttR.empty _ _ _ _) hl (KidsV.none_ _ _)
def stopP (zs : List ByteArray) (j : Nat) : Bool := !decide (kindOf zs j = 0) || headAt zs j
theorem paraTo_bd (zs : List ByteArray) (i : Nat) (hi : i < zs.length) : i + 1 ≤ paraTo zs i ∧ paraTo zs i ≤ zs.length := by
  have := seek_spec (stopP zs) zs.length (i + 1) (by omega)
  exact ⟨this.1, this.2.1⟩
theorem paraK_size (zs : List ByteArray) (i k : Nat) (hM : ∀ z ∈ zs, z.size ≤ 100000) : ∀ z ∈ paraK zs i k, z.size ≤ 100000 := by
  intro z hz
  unfold paraK at hz
  obtain ⟨y, hy, rfl⟩ := List.mem_map.1 hz
  rw [mk_size]
  have h1 := trimS_len (bytesL y)
  rw [bytesL_length] at h1
  exact Nat.le_trans h1 (hM y (cutL_mem hy))
def PaRel (zs : List ByteArray) (i : Nat) (w : World) (v6 v7 : Value) (wr : World) : Prop :=
  ∃ k : Nat, v7 = .int .i64 k ∧ i + 1 ≤ k ∧ k ≤ zs.length ∧ wr.ownsRow (w.heap.size + 1) 9 1 v6 (k - i) (strs (paraK zs i k)) ∧ ZB wr w.heap.size ∧ Below w.heap.size w wr ∧ Hid (∀ j, i + 1 ≤ j → j < k → stopP zs j = false)
theorem mark_field (i0 i1 : Int) (s2 : ByteArray) (i3 : Int) (s4 s5 s6 s7 s8 : ByteArray) (v9 v10 : Value) (W : World) : (Instr.field 74 (.agg #[.int .i64 i0, .int .i64 i1, .string s2, .int .i64 i3, .string s4, .string s5, .string s6, .string s7, .string s8, v9, v10]) 0).run Tryz.prog W = .ok (.int .i64 i0) W := by kernel_rfl
set_option maxRecDepth 100000 in
set_option maxHeartbeats 1000000 in
theorem n_para (zs : List ByteArray) (A : Option Addr) (c i B : Nat) (MM : Int) (w : World) (hL : LinesAt w A zs MM) (hi : i < zs.length) (hB : B ≤ w.heap.size) :
    Calls Tryz.prog 79 #[.slice A zs.length c, .int .i64 i] w fun e w' => (∃ v, e = .returned (.tuple #[.agg v, .int .i64 (paraTo zs i)]) ∧ RepB w' (Rg B w') v (paraB zs i)) ∧ Below w.heap.size w w' := by
  obtain ⟨i0, hi0, hz0, hz1, hz2⟩ := info_parts strInfo
  have hlen := hL.len
  obtain ⟨b, off, rfl, hb, hcell⟩ := hL.get (by omega)
  have HCell := Lib.hid hcell
  have HLi := Lib.hid hL
  have HM : Hid (∀ j W, Calls Tryz.prog 38 #[.string (ln zs j)] W fun e w' => ∃ A c D d, e = .returned (.agg ((markM (ln zs j)).cells (.slice A (markM (ln zs j)).att.cl.length c) (.slice D (markM (ln zs j)).att.pr.length d))) ∧ Below W.heap.size W w') := Lib.hid fun j W => (m_of (ln zs j) W (Nat.le_trans (ln_size hL.sz j) (by decide))).mono fun e w' => mkpost_val
  have HTr : Hid (∀ j W, Calls Tryz.prog 105 #[.string (ln zs j)] W fun e w' => e = .returned (.string (mk (trimS (bytesL (ln zs j))))) ∧ W = w') := Lib.hid fun j W => t_trim (ln zs j) W (Nat.le_trans (ln_size hL.sz j) (by decide))
  have HHd : Hid (∀ j W, W.cell? ⟨0, 0, none⟩ = some (.int .i64 MM) → Calls Tryz.prog 77 #[.string (ln zs j), .string (ln zs (j + 1))] W fun e w' => e = .returned (.bool (headB (bytesL (ln zs j)) (bytesL (ln zs (j + 1))))) ∧ Below W.heap.size W w') := Lib.hid fun j W h => t_head (ln zs j) (ln zs (j + 1)) MM W (Nat.le_trans (ln_size hL.sz j) (by decide)) (Nat.le_trans (ln_size hL.sz _) (by decide)) h
  have HZ0 := Lib.hid (Blk.new w 46 zbC)
  unfold zbC at HZ0
  have HB0 : Hid (∀ o, Below w.heap.size w (w.alloc o)) := Lib.hid fun o => (Below.refl _ w).alloc (Nat.le_refl _) _
  have HP1 : Hid (strs (paraK zs i (i + 1)) = [.string (mk (trimS (bytesL (ln zs i))))]) := Lib.hid (by rw [paraK_succ zs i i (Nat.le_refl _) hi, show strs (paraK zs i i) = [] by unfold paraK cutL strs; simp]; rfl)
  have HPs := Lib.hid fun k => paraK_succ zs i k
  have HSt : Hid (∀ k, i + 1 ≤ k → k ≤ zs.length → (∀ j, i + 1 ≤ j → j < k → stopP zs j = false) → (k < zs.length → stopP zs k = true) → paraTo zs i = k) := Lib.hid fun k h1 h2 h3 h4 => seek_eq _ _ _ _ h1 h2 h3 h4
  have hT0 := hcell i hi
  have HT0 := Lib.hid fun W => HTr.out i W
  have HF := Lib.hid mark_field
  have hpb := paraTo_bd zs i hi
  have HSz := Lib.hid (paraK_size zs i (paraTo zs i) hL.sz)
  have HPl := Lib.hid (paraK_len zs i (paraTo zs i) (by omega) hpb.2)
  clear hL hcell
  generalize mk (trimS (bytesL (ln zs i))) = y0 at *
  generalize hzi : ln zs i = zi at hT0 HT0
  clear hzi
  have hc00 : ∀ o, (w.alloc o).cell? ⟨b, off + i, none⟩ = some (.string zi) := fun o => ((HB0.out o).cell (p := ⟨b, off + i, none⟩) hb).trans hT0
  have HC00 := Lib.hid (hc00 (.cells #[.int .i64 0, .int .i64 0, .string ⟨#[]⟩, .string ⟨#[]⟩, .string ⟨#[]⟩, .string ⟨#[]⟩, .string ⟨#[]⟩, .slice none 0 0, .slice none 0 0, .slice none 0 0, .slice none 0 0] 46))
  clear hc00 hT0
  have hc1 := HC00.out
  go_enter Tryz.func79, Tryz.ntmps79
  go_wp2_with fail
  ((with_reducible refine (HT0.out _).mono ?_))
  rintro e w1 ⟨rfl, rfl⟩
  clear hc1 HC00 HT0
  go_upto_block 0 with fail
  go_cut [6, 7] (fun s6 s7 wx => s7 = .int .i64 (paraTo zs i) ∧ wx.ownsRow (w.heap.size + 1) 9 1 s6 (paraTo zs i - i) (strs (paraK zs i (paraTo zs i))) ∧ ZB wx w.heap.size ∧ Below w.heap.size w wx)
  case first =>
    go_wp2_with fail
    go_loopw [6, 7] (fun v6 v7 wr => PaRel zs i w v6 v7 wr) (fun _ v7 _ => zs.length - (intOf v7).toNat)
    case atStart =>
      refine ⟨i + 1, by go_num, Nat.le_refl _, by omega, ?_, Blk.alloc HZ0.out _, (HB0.out _).alloc (by simp) _, Lib.hid fun j h1 h2 => absurd h2 (by omega)⟩
      rw [HP1.out, show i + 1 - i = 1 by omega]
      have h := World.ownsRow_lit (base := w.heap.size + 1) (size := 1) (e := 9) (w.alloc (.cells #[.int .i64 0, .int .i64 0, .string ⟨#[]⟩, .string ⟨#[]⟩, .string ⟨#[]⟩, .string ⟨#[]⟩, .string ⟨#[]⟩, .slice none 0 0, .slice none 0 0, .slice none 0 0, .slice none 0 0] 46)) #[.string y0] 1 (by simp) (by decide) rfl
      simp only [heap_alloc_size] at h
      exact h
    case round =>
      clear HZ0 HB0 HP1
      obtain ⟨k, rfl, hk1, hk, hown, hZ, hbw, Hno⟩ := hrel
      have hzr := hbw.size
      have hzl := Blk.lt hZ
      have HZr := Lib.hid hZ
      have HOr := Lib.hid hown
      have HT : Hid ((k < zs.length → stopP zs k = true) → paraTo zs i = k) := Lib.hid (HSt.out k hk1 hk Hno.out)
      by_cases hlt : k < zs.length
      · have hc0 : wr.cell? ⟨b, off + k, none⟩ = some (.string (ln zs k)) := (hbw.cell (p := ⟨b, off + k, none⟩) hb).trans (HCell.out k hlt)
        have HM1 := Lib.hid fun W => HM.out k W
        have HE := Lib.hid (HPs.out k (by omega) hlt)
        have hkk : Hid (kindOf zs k = (markM (ln zs k)).kind) := Lib.hid rfl
        have hsp : Hid (stopP zs k = (!decide (kindOf zs k = 0) || headAt zs k)) := Lib.hid rfl
        have hhd : Hid (headAt zs k = (decide (k + 1 < zs.length) && headB (bytesL (ln zs k)) (bytesL (ln zs (k + 1))))) := Lib.hid rfl
        have HTk := Lib.hid fun W => HTr.out k W
        have HHk := Lib.hid fun W => HHd.out k W
        clear HM hZ HTr HHd HSt HPs hown
        generalize markM (ln zs k) = m at *
        unfold MkL.cells at HM1
        by_cases h0 : m.kind = 0
        · have z1 : (((m.kind : Nat) : Int) == 0) = true := by rw [beq_iff_eq]; omega
          have z2 : ((m.kind : Nat) == 0) = true := by rw [beq_iff_eq]; exact h0
          have hfd := HF.out
          generalize hyk : mk (trimS (bytesL (ln zs k))) = yk at *
          clear hyk
          by_cases hk2 : k + 1 < zs.length
          · have d1 : decide ((k : Int) + 1 < (zs.length : Int)) = true := decide_eq_true (by omega)
            have d2 : decide (k + 1 < zs.length) = true := decide_eq_true hk2
            have hhd2 : Hid (headAt zs k = headB (bytesL (ln zs k)) (bytesL (ln zs (k + 1)))) := Lib.hid (by rw [hhd.out, d2]; rfl)
            have hsp2 : Hid (stopP zs k = headB (bytesL (ln zs k)) (bytesL (ln zs (k + 1)))) := Lib.hid (by rw [hsp.out, hkk.out, decide_eq_true h0, hhd2.out]; rfl)
            have hc2 : w.cell? ⟨b, off + (k + 1), none⟩ = some (.string (ln zs (k + 1))) := HCell.out (k + 1) hk2
            have HC2 := Lib.hid hc2
            clear hsp hhd hhd2 hkk h0 hc2 HF
            go_wp2_with fail
            ((with_reducible refine (HM1.out _).mono ?_))
            rintro e w2 ⟨A1, c1, A2, c2, rfl, b1⟩
            have hz1' := b1.size
            have HOw := Lib.hid (own_below HOr.out b1)
            have HZw := Lib.hid (HZr.out.below (w := w) b1)
            have HBw := Lib.hid (hbw.trans (b1.mono hzr))
            have HLw := Lib.hid (HLi.out.below HBw.out)
            have HH2 : Hid (∀ W, Below w2.heap.size w2 W → Calls Tryz.prog 77 #[.string (ln zs k), .string (ln zs (k + 1))] W fun e w' => e = .returned (.bool (headB (bytesL (ln zs k)) (bytesL (ln zs (k + 1))))) ∧ Below W.heap.size W w') := Lib.hid fun W h => HHk.out W (HLw.out.below h).cell
            have HB9 := Lib.hid (Below.refl w2.heap.size w2)
            have HS9 : Hid (∀ W, Below w2.heap.size w2 W → (W.cell? ⟨b, off + k, none⟩ = some (.string (ln zs k)) ∧ W.cell? ⟨b, off + (k + 1), none⟩ = some (.string (ln zs (k + 1))) ∧ Below w2.heap.size w2 W)) := Lib.hid fun W h =>
              ⟨((HBw.out.trans (h.mono HBw.out.size)).cell (p := ⟨b, off + k, none⟩) hb).trans (HCell.out k hlt), ((HBw.out.trans (h.mono HBw.out.size)).cell (p := ⟨b, off + (k + 1), none⟩) hb).trans HC2.out, h⟩
            clear b1 HHk HLw HC2 hc0
            have s9 := HS9.out _ HB9.out
            generalize headB (bytesL (ln zs k)) (bytesL (ln zs (k + 1))) = hd at *
            generalize ln zs (k + 1) = zk1 at *
            generalize ln zs k = zk at *
            obtain ⟨s90, s91, s92⟩ := s9
            go_wp2_with fail
            cases hd with
            | true =>
              have HQ := Lib.hid (HT.out fun _ => hsp2.out)
              clear HT hsp2 HE HTk Hno
              have hi1 : (0 : Int) ≤ (k : Int) + 1 := by omega
              have hi2 : (k : Int) + 1 < (zs.length : Int) := by omega
              have hi3 : ((k : Int) + 1).toNat = k + 1 := by omega
              have hw1 : IntKind.i64.wrap ((k : Int) + 1) = (k : Int) + 1 := IntWalk.i64_in _ (by omega)
              refine wp_region_held_drew (S := fun W' => W'.cell? ⟨b, off + k, none⟩ = some (.string zk) ∧ W'.cell? ⟨b, off + (k + 1), none⟩ = some (.string zk1) ∧ Below w2.heap.size w2 W') (by kernel_rfl) (HS9.out _ HB9.out.drew) (fun hHeld => ?_)
              refine wpAnyH_take (i := 0) (v := .int .i64 k) rfl (by kernel_rfl) (by kernel_rfl) (by kernel_rfl) (fun _ _ _ h => h) (Or.inl ⟨by kernel_rfl, fun W' hSw => ?_⟩) hHeld ?_
              · obtain ⟨h0, h1, h2⟩ := hSw
                go_simp
              try simp only [Act.put, List.setIfInBounds_toArray, List.set_cons_zero, List.set_cons_succ]
              refine wpAnyH_take (i := 1) (v := .int .i64 ((k : Int) + 1)) rfl (by kernel_rfl) (by kernel_rfl) (by kernel_rfl) (fun _ _ _ h => h) (Or.inl ⟨by kernel_rfl, fun W' hSw => ?_⟩) hHeld ?_
              · obtain ⟨h0, h1, h2⟩ := hSw
                go_simp
              try simp only [Act.put, List.setIfInBounds_toArray, List.set_cons_zero, List.set_cons_succ]
              refine wpAnyH_take (i := 2) (v := .slice (some ⟨b, off, none⟩) zs.length c) rfl (by kernel_rfl) (by kernel_rfl) (by kernel_rfl) (fun _ _ _ h => h) (Or.inl ⟨by kernel_rfl, fun W' hSw => ?_⟩) hHeld ?_
              · obtain ⟨h0, h1, h2⟩ := hSw
                go_simp
              try simp only [Act.put, List.setIfInBounds_toArray, List.set_cons_zero, List.set_cons_succ]
              refine wpAnyH_take (i := 3) (v := .int .i64 zs.length) rfl (by kernel_rfl) (by kernel_rfl) (by kernel_rfl) (fun _ _ _ h => h) (Or.inl ⟨by kernel_rfl, fun W' hSw => ?_⟩) hHeld ?_
              · obtain ⟨h0, h1, h2⟩ := hSw
                go_simp
              try simp only [Act.put, List.setIfInBounds_toArray, List.set_cons_zero, List.set_cons_succ]
              refine wpAnyH_take (i := 4) (v := .bool true) rfl (by kernel_rfl) (by kernel_rfl) (by kernel_rfl) (fun _ _ _ h => h) (Or.inl ⟨by kernel_rfl, fun W' hSw => ?_⟩) hHeld ?_
              · obtain ⟨h0, h1, h2⟩ := hSw
                go_simp
              try simp only [Act.put, List.setIfInBounds_toArray, List.set_cons_zero, List.set_cons_succ]
              refine wpAnyH_take (i := 5) (v := .bool true) rfl (by kernel_rfl) (by kernel_rfl) (by kernel_rfl) (fun _ _ _ h => h) (Or.inl ⟨by kernel_rfl, fun W' hSw => ?_⟩) hHeld ?_
              · obtain ⟨h0, h1, h2⟩ := hSw
                go_simp
              try simp only [Act.put, List.setIfInBounds_toArray, List.set_cons_zero, List.set_cons_succ]
              refine wpAnyH_take (i := 6) (v := .slice (some ⟨b, off, none⟩) zs.length c) rfl (by kernel_rfl) (by kernel_rfl) (by kernel_rfl) (fun _ _ _ h => h) (Or.inl ⟨by kernel_rfl, fun W' hSw => ?_⟩) hHeld ?_
              · obtain ⟨h0, h1, h2⟩ := hSw
                go_simp
              try simp only [Act.put, List.setIfInBounds_toArray, List.set_cons_zero, List.set_cons_succ]
              refine wpAnyH_take (i := 7) (v := .int .i64 k) rfl (by kernel_rfl) (by kernel_rfl) (by kernel_rfl) (fun _ _ _ h => h) (Or.inl ⟨by kernel_rfl, fun W' hSw => ?_⟩) hHeld ?_
              · obtain ⟨h0, h1, h2⟩ := hSw
                go_simp
              try simp only [Act.put, List.setIfInBounds_toArray, List.set_cons_zero, List.set_cons_succ]
              refine wpAnyH_take (i := 8) (v := .pointer (some ⟨b, off + k, none⟩)) rfl (by kernel_rfl) (by kernel_rfl) (by kernel_rfl) (fun _ _ _ h => h) (Or.inl ⟨by kernel_rfl, fun W' hSw => ?_⟩) hHeld ?_
              · obtain ⟨h0, h1, h2⟩ := hSw
                go_simp
              try simp only [Act.put, List.setIfInBounds_toArray, List.set_cons_zero, List.set_cons_succ]
              refine wpAnyH_take (i := 9) (v := .string zk) rfl (by kernel_rfl) (by kernel_rfl) (by kernel_rfl) (fun _ _ _ h => h) (Or.inl ⟨by kernel_rfl, fun W' hSw => ?_⟩) hHeld ?_
              · obtain ⟨h0, h1, h2⟩ := hSw
                go_simp
              try simp only [Act.put, List.setIfInBounds_toArray, List.set_cons_zero, List.set_cons_succ]
              refine wpAnyH_take (i := 10) (v := .slice (some ⟨b, off, none⟩) zs.length c) rfl (by kernel_rfl) (by kernel_rfl) (by kernel_rfl) (fun _ _ _ h => h) (Or.inl ⟨by kernel_rfl, fun W' hSw => ?_⟩) hHeld ?_
              · obtain ⟨h0, h1, h2⟩ := hSw
                go_simp
              try simp only [Act.put, List.setIfInBounds_toArray, List.set_cons_zero, List.set_cons_succ]
              refine wpAnyH_take (i := 11) (v := .int .i64 k) rfl (by kernel_rfl) (by kernel_rfl) (by kernel_rfl) (fun _ _ _ h => h) (Or.inl ⟨by kernel_rfl, fun W' hSw => ?_⟩) hHeld ?_
              · obtain ⟨h0, h1, h2⟩ := hSw
                go_simp
              try simp only [Act.put, List.setIfInBounds_toArray, List.set_cons_zero, List.set_cons_succ]
              refine wpAnyH_take (i := 12) (v := .int .i64 ((k : Int) + 1)) rfl (by kernel_rfl) (by kernel_rfl) (by kernel_rfl) (fun _ _ _ h => h) (Or.inl ⟨by kernel_rfl, fun W' hSw => ?_⟩) hHeld ?_
              · obtain ⟨h0, h1, h2⟩ := hSw
                go_simp
              try simp only [Act.put, List.setIfInBounds_toArray, List.set_cons_zero, List.set_cons_succ]
              refine wpAnyH_take (i := 13) (v := .pointer (some ⟨b, off + (k + 1), none⟩)) rfl (by kernel_rfl) (by kernel_rfl) (by kernel_rfl) (fun _ _ _ h => h) (Or.inl ⟨by kernel_rfl, fun W' hSw => ?_⟩) hHeld ?_
              · obtain ⟨h0, h1, h2⟩ := hSw
                go_simp
              try simp only [Act.put, List.setIfInBounds_toArray, List.set_cons_zero, List.set_cons_succ]
              refine wpAnyH_take (i := 14) (v := .string zk1) rfl (by kernel_rfl) (by kernel_rfl) (by kernel_rfl) (fun _ _ _ h => h) (Or.inl ⟨by kernel_rfl, fun W' hSw => ?_⟩) hHeld ?_
              · obtain ⟨h0, h1, h2⟩ := hSw
                go_simp
              try simp only [Act.put, List.setIfInBounds_toArray, List.set_cons_zero, List.set_cons_succ]
              refine wpAnyH_ready (rs := [15]) (by kernel_rfl) (by simp) (AllReadyH.cons rfl (fun K hK => ?_) AllReadyH.nil)
              go_simp
              ((with_reducible refine (HH2.out _ HB9.out.drew).mono ?_))
              rintro e W9 ⟨rfl, b8⟩
              have b9 : Below w2.heap.size w2 W9 := HB9.out.drew.trans b8
              go_simp
              refine hK.out _ _ (HS9.out _ b9) (fun hHeld => ?_)
              clear hK K
              try simp only [Act.put, List.setIfInBounds_toArray, List.set_cons_zero, List.set_cons_succ]
              refine wpAnyH_ready (rs := [16]) (by kernel_rfl) (by simp) (AllReadyH.cons rfl (fun K hK => ?_) AllReadyH.nil)
              go_simp
              refine hK.out _ _ (hHeld) (fun _ => ?_)
              clear hK K
              try simp only [Act.put, List.setIfInBounds_toArray, List.set_cons_zero, List.set_cons_succ]
              refine wpAnyH_done (by kernel_rfl) ?_ _
              all_goals
                go_wp2_with fail
                go_meet
                rw [HQ.out]
                exact ⟨rfl, own_below HOw.out b9, HZw.out.below (w := w) b9, HBw.out.trans (b9.mono HBw.out.size)⟩
            | false =>
              have HNx : Hid (∀ j, i + 1 ≤ j → j < k + 1 → stopP zs j = false) := Lib.hid fun j h1 h2 => by
                by_cases e : j = k
                · rw [e]; exact hsp2.out
                · exact Hno.out j h1 (by omega)
              clear HT hsp2 Hno
              have hi1 : (0 : Int) ≤ (k : Int) + 1 := by omega
              have hi2 : (k : Int) + 1 < (zs.length : Int) := by omega
              have hi3 : ((k : Int) + 1).toNat = k + 1 := by omega
              have hw1 : IntKind.i64.wrap ((k : Int) + 1) = (k : Int) + 1 := IntWalk.i64_in _ (by omega)
              refine wp_region_held_drew (S := fun W' => W'.cell? ⟨b, off + k, none⟩ = some (.string zk) ∧ W'.cell? ⟨b, off + (k + 1), none⟩ = some (.string zk1) ∧ Below w2.heap.size w2 W') (by kernel_rfl) (HS9.out _ HB9.out.drew) (fun hHeld => ?_)
              refine wpAnyH_take (i := 0) (v := .int .i64 k) rfl (by kernel_rfl) (by kernel_rfl) (by kernel_rfl) (fun _ _ _ h => h) (Or.inl ⟨by kernel_rfl, fun W' hSw => ?_⟩) hHeld ?_
              · obtain ⟨h0, h1, h2⟩ := hSw
                go_simp
              try simp only [Act.put, List.setIfInBounds_toArray, List.set_cons_zero, List.set_cons_succ]
              refine wpAnyH_take (i := 1) (v := .int .i64 ((k : Int) + 1)) rfl (by kernel_rfl) (by kernel_rfl) (by kernel_rfl) (fun _ _ _ h => h) (Or.inl ⟨by kernel_rfl, fun W' hSw => ?_⟩) hHeld ?_
              · obtain ⟨h0, h1, h2⟩ := hSw
                go_simp
              try simp only [Act.put, List.setIfInBounds_toArray, List.set_cons_zero, List.set_cons_succ]
              refine wpAnyH_take (i := 2) (v := .slice (some ⟨b, off, none⟩) zs.length c) rfl (by kernel_rfl) (by kernel_rfl) (by kernel_rfl) (fun _ _ _ h => h) (Or.inl ⟨by kernel_rfl, fun W' hSw => ?_⟩) hHeld ?_
              · obtain ⟨h0, h1, h2⟩ := hSw
                go_simp
              try simp only [Act.put, List.setIfInBounds_toArray, List.set_cons_zero, List.set_cons_succ]
              refine wpAnyH_take (i := 3) (v := .int .i64 zs.length) rfl (by kernel_rfl) (by kernel_rfl) (by kernel_rfl) (fun _ _ _ h => h) (Or.inl ⟨by kernel_rfl, fun W' hSw => ?_⟩) hHeld ?_
              · obtain ⟨h0, h1, h2⟩ := hSw
                go_simp
              try simp only [Act.put, List.setIfInBounds_toArray, List.set_cons_zero, List.set_cons_succ]
              refine wpAnyH_take (i := 4) (v := .bool true) rfl (by kernel_rfl) (by kernel_rfl) (by kernel_rfl) (fun _ _ _ h => h) (Or.inl ⟨by kernel_rfl, fun W' hSw => ?_⟩) hHeld ?_
              · obtain ⟨h0, h1, h2⟩ := hSw
                go_simp
              try simp only [Act.put, List.setIfInBounds_toArray, List.set_cons_zero, List.set_cons_succ]
              refine wpAnyH_take (i := 5) (v := .bool true) rfl (by kernel_rfl) (by kernel_rfl) (by kernel_rfl) (fun _ _ _ h => h) (Or.inl ⟨by kernel_rfl, fun W' hSw => ?_⟩) hHeld ?_
              · obtain ⟨h0, h1, h2⟩ := hSw
                go_simp
              try simp only [Act.put, List.setIfInBounds_toArray, List.set_cons_zero, List.set_cons_succ]
              refine wpAnyH_take (i := 6) (v := .slice (some ⟨b, off, none⟩) zs.length c) rfl (by kernel_rfl) (by kernel_rfl) (by kernel_rfl) (fun _ _ _ h => h) (Or.inl ⟨by kernel_rfl, fun W' hSw => ?_⟩) hHeld ?_
              · obtain ⟨h0, h1, h2⟩ := hSw
                go_simp
              try simp only [Act.put, List.setIfInBounds_toArray, List.set_cons_zero, List.set_cons_succ]
              refine wpAnyH_take (i := 7) (v := .int .i64 k) rfl (by kernel_rfl) (by kernel_rfl) (by kernel_rfl) (fun _ _ _ h => h) (Or.inl ⟨by kernel_rfl, fun W' hSw => ?_⟩) hHeld ?_
              · obtain ⟨h0, h1, h2⟩ := hSw
                go_simp
              try simp only [Act.put, List.setIfInBounds_toArray, List.set_cons_zero, List.set_cons_succ]
              refine wpAnyH_take (i := 8) (v := .pointer (some ⟨b, off + k, none⟩)) rfl (by kernel_rfl) (by kernel_rfl) (by kernel_rfl) (fun _ _ _ h => h) (Or.inl ⟨by kernel_rfl, fun W' hSw => ?_⟩) hHeld ?_
              · obtain ⟨h0, h1, h2⟩ := hSw
                go_simp
              try simp only [Act.put, List.setIfInBounds_toArray, List.set_cons_zero, List.set_cons_succ]
              refine wpAnyH_take (i := 9) (v := .string zk) rfl (by kernel_rfl) (by kernel_rfl) (by kernel_rfl) (fun _ _ _ h => h) (Or.inl ⟨by kernel_rfl, fun W' hSw => ?_⟩) hHeld ?_
              · obtain ⟨h0, h1, h2⟩ := hSw
                go_simp
              try simp only [Act.put, List.setIfInBounds_toArray, List.set_cons_zero, List.set_cons_succ]
              refine wpAnyH_take (i := 10) (v := .slice (some ⟨b, off, none⟩) zs.length c) rfl (by kernel_rfl) (by kernel_rfl) (by kernel_rfl) (fun _ _ _ h => h) (Or.inl ⟨by kernel_rfl, fun W' hSw => ?_⟩) hHeld ?_
              · obtain ⟨h0, h1, h2⟩ := hSw
                go_simp
              try simp only [Act.put, List.setIfInBounds_toArray, List.set_cons_zero, List.set_cons_succ]
              refine wpAnyH_take (i := 11) (v := .int .i64 k) rfl (by kernel_rfl) (by kernel_rfl) (by kernel_rfl) (fun _ _ _ h => h) (Or.inl ⟨by kernel_rfl, fun W' hSw => ?_⟩) hHeld ?_
              · obtain ⟨h0, h1, h2⟩ := hSw
                go_simp
              try simp only [Act.put, List.setIfInBounds_toArray, List.set_cons_zero, List.set_cons_succ]
              refine wpAnyH_take (i := 12) (v := .int .i64 ((k : Int) + 1)) rfl (by kernel_rfl) (by kernel_rfl) (by kernel_rfl) (fun _ _ _ h => h) (Or.inl ⟨by kernel_rfl, fun W' hSw => ?_⟩) hHeld ?_
              · obtain ⟨h0, h1, h2⟩ := hSw
                go_simp
              try simp only [Act.put, List.setIfInBounds_toArray, List.set_cons_zero, List.set_cons_succ]
              refine wpAnyH_take (i := 13) (v := .pointer (some ⟨b, off + (k + 1), none⟩)) rfl (by kernel_rfl) (by kernel_rfl) (by kernel_rfl) (fun _ _ _ h => h) (Or.inl ⟨by kernel_rfl, fun W' hSw => ?_⟩) hHeld ?_
              · obtain ⟨h0, h1, h2⟩ := hSw
                go_simp
              try simp only [Act.put, List.setIfInBounds_toArray, List.set_cons_zero, List.set_cons_succ]
              refine wpAnyH_take (i := 14) (v := .string zk1) rfl (by kernel_rfl) (by kernel_rfl) (by kernel_rfl) (fun _ _ _ h => h) (Or.inl ⟨by kernel_rfl, fun W' hSw => ?_⟩) hHeld ?_
              · obtain ⟨h0, h1, h2⟩ := hSw
                go_simp
              try simp only [Act.put, List.setIfInBounds_toArray, List.set_cons_zero, List.set_cons_succ]
              refine wpAnyH_ready (rs := [15]) (by kernel_rfl) (by simp) (AllReadyH.cons rfl (fun K hK => ?_) AllReadyH.nil)
              go_simp
              ((with_reducible refine (HH2.out _ HB9.out.drew).mono ?_))
              rintro e W9 ⟨rfl, b8⟩
              have b9 : Below w2.heap.size w2 W9 := HB9.out.drew.trans b8
              go_simp
              refine hK.out _ _ (HS9.out _ b9) (fun hHeld => ?_)
              clear hK K
              try simp only [Act.put, List.setIfInBounds_toArray, List.set_cons_zero, List.set_cons_succ]
              refine wpAnyH_ready (rs := [16]) (by kernel_rfl) (by simp) (AllReadyH.cons rfl (fun K hK => ?_) AllReadyH.nil)
              go_simp
              refine hK.out _ _ (hHeld) (fun _ => ?_)
              clear hK K
              try simp only [Act.put, List.setIfInBounds_toArray, List.set_cons_zero, List.set_cons_succ]
              refine wpAnyH_done (by kernel_rfl) ?_ _
              all_goals
                replace HOw := Lib.hid (own_below HOw.out b9)
                replace HZw := Lib.hid (HZw.out.below (w := w) b9)
                replace HBw := Lib.hid (HBw.out.trans (b9.mono HBw.out.size))
                obtain ⟨t90, t91, t92⟩ := HS9.out _ b9
                clear s90 s91 s92 t91 t92 HS9 HB9 HH2
                go_wp2_with fail
                ((with_reducible refine (HTk.out _).mono ?_))
                rintro e w5 ⟨rfl, rfl⟩
                go_wp2_with (at_builtin; refine wpList_append_own _ rfl _ _ 22 rfl (w.heap.size + 1) 9 i0 _ 1 16 Tryz.underlying22 hi0 hz0 hz1 hz2 rfl (by decide) _ _ _ rfl (HOw.out.alloc _) ⟨W9.heap.size, 0, none⟩ 1 1 [.string yk] rfl rfl ?c1 ?c2 ?c3 ?c4 ?c5 ?_)
                case c1 =>
                  intro j u hj
                  match j, hj with
                  | 0, hj => simp at hj; subst hj; simp [Addr.add]
                case c2 => intro u hu; simp at hu; subst hu; rfl
                case c3 => unfold maxLen; omega
                case c4 => omega
                case c5 => have := HBw.out.size; have := HZw.out.lt; simp; omega
                intro v' w6 hown3 hgrow _
                have HZ6 : Hid (ZB w6 w.heap.size) := Lib.hid (Blk.grown (Blk.alloc HZw.out _) hgrow (fun e => by have := (HOw.out.lt _ e.symm).1; omega))
                have HB6 : Hid (Below w.heap.size w w6) := Lib.hid ((HBw.out.alloc HBw.out.size _).grown hgrow (by simp; exact Nat.le_succ_of_le HBw.out.size) (fun g hg => by have := (HOw.out.lt g hg).1; omega))
                clear hgrow
                go_wp2_with fail
                go_roundw
                case rel => exact ⟨k + 1, by go_num, by omega, by omega, by rw [show k + 1 - i = k - i + 1 by omega, HE.out]; exact hown3, HZ6.out, HB6.out, HNx⟩
                case measure => simp [intOf]; omega
          · have d1 : decide ((k : Int) + 1 < (zs.length : Int)) = false := decide_eq_false (by omega)
            have d2 : decide (k + 1 < zs.length) = false := decide_eq_false hk2
            have HNx : Hid (∀ j, i + 1 ≤ j → j < k + 1 → stopP zs j = false) := Lib.hid fun j h1 h2 => by
              by_cases e : j = k
              · rw [e, hsp.out, hkk.out, decide_eq_true h0, hhd.out, d2]; rfl
              · exact Hno.out j h1 (by omega)
            clear hsp hhd hkk h0 HF HT Hno HHk
            go_wp2_with fail
            ((with_reducible refine (HM1.out _).mono ?_))
            rintro e w2 ⟨A1, c1, A2, c2, rfl, b1⟩
            have hz1' := b1.size
            have HOw := Lib.hid (own_below HOr.out b1)
            have HZw := Lib.hid (HZr.out.below (w := w) b1)
            have HBw := Lib.hid (hbw.trans (b1.mono hzr))
            have hc3 : w2.cell? ⟨b, off + k, none⟩ = some (.string (ln zs k)) := (HBw.out.cell (p := ⟨b, off + k, none⟩) hb).trans (HCell.out k hlt)
            clear b1 hc0
            generalize ln zs k = zk at *
            go_wp2_with fail
            go_quiet (fail)
            replace HOw := Lib.hid (own_drewN HOw.out nq)
            replace HZw : Hid (ZB (w2.drewN nq) w.heap.size) := Lib.hid HZw.out
            replace HBw := Lib.hid (below_drewN HBw.out nq)
            replace hc3 : (w2.drewN nq).cell? ⟨b, off + k, none⟩ = some (.string zk) := hc3
            generalize w2.drewN nq = W5 at *
            go_wp2_with fail
            ((with_reducible refine (HTk.out _).mono ?_))
            rintro e w5 ⟨rfl, rfl⟩
            go_wp2_with (at_builtin; refine wpList_append_own _ rfl _ _ 22 rfl (w.heap.size + 1) 9 i0 _ 1 16 Tryz.underlying22 hi0 hz0 hz1 hz2 rfl (by decide) _ _ _ rfl (HOw.out.alloc _) ⟨W5.heap.size, 0, none⟩ 1 1 [.string yk] rfl rfl ?c1 ?c2 ?c3 ?c4 ?c5 ?_)
            case c1 =>
              intro j u hj
              match j, hj with
              | 0, hj => simp at hj; subst hj; simp [Addr.add]
            case c2 => intro u hu; simp at hu; subst hu; rfl
            case c3 => unfold maxLen; omega
            case c4 => omega
            case c5 => have := HBw.out.size; have := HZw.out.lt; simp; omega
            intro v' w6 hown3 hgrow _
            have HZ6 : Hid (ZB w6 w.heap.size) := Lib.hid (Blk.grown (Blk.alloc HZw.out _) hgrow (fun e => by have := (HOw.out.lt _ e.symm).1; omega))
            have HB6 : Hid (Below w.heap.size w w6) := Lib.hid ((HBw.out.alloc HBw.out.size _).grown hgrow (by simp; exact Nat.le_succ_of_le HBw.out.size) (fun g hg => by have := (HOw.out.lt g hg).1; omega))
            clear hgrow
            go_wp2_with fail
            go_roundw
            case rel => exact ⟨k + 1, by go_num, by omega, by omega, by rw [show k + 1 - i = k - i + 1 by omega, HE.out]; exact hown3, HZ6.out, HB6.out, HNx⟩
            case measure => simp [intOf]; omega
        · have z1 : (((m.kind : Nat) : Int) == 0) = false := by rw [beq_eq_false_iff_ne]; omega
          have z2 : ((m.kind : Nat) == 0) = false := by rw [beq_eq_false_iff_ne]; exact h0
          have HQ := Lib.hid (HT.out fun _ => by rw [hsp.out, hkk.out, decide_eq_false h0]; rfl)
          clear h0 hkk HT hsp hhd HE HTk HHk Hno
          have hfd := HF.out
          go_wp2_with fail
          ((with_reducible refine (HM1.out _).mono ?_))
          rintro e w2 ⟨A1, c1, A2, c2, rfl, b1⟩
          have hz1' := b1.size
          go_wp2_with fail
          go_meet
          rw [HQ.out]
          exact ⟨rfl, own_below HOr.out b1, HZr.out.below (w := w) b1, hbw.trans (b1.mono hzr)⟩
      · have HQ := Lib.hid (HT.out fun h => absurd h hlt)
        clear HM hZ HT Hno hown HTr HHd HSt HPs
        go_wp2_with fail
        go_meet
        rw [HQ.out]
        exact ⟨rfl, HOr.out, HZr.out, hbw⟩
  case rest =>
  obtain ⟨rfl, hown, hZ, hbw⟩ := hcut
  have hzr := hbw.size
  have hzl := Blk.lt hZ
  have HZr := Lib.hid hZ
  obtain ⟨A9, c9, rfl, hc1, hc2⟩ := own_cap hown
  have HJ := Lib.hid (join_any (paraK zs i (paraTo zs i)) A9 c9 wc.heap.size ⟨#[10]⟩ wc (by rw [HPl.out]; exact Reads.of_own hown) (Nat.le_refl _) (by rw [HPl.out]; exact hc1) (by rw [HPl.out]; omega) (Nat.le_trans (sizes_bd 100000 _ HSz.out) (by rw [HPl.out]; exact Nat.le_trans (Nat.mul_le_mul_right _ (by omega : paraTo zs i - i ≤ 10000)) (by decide))) (by decide) (by decide))
  rw [HPl.out] at HJ
  have HPB : Hid (paraB zs i = leafB 1 (mk (joinL ⟨#[10]⟩ (paraK zs i (paraTo zs i))))) := Lib.hid rfl
  have HSr := Lib.hid fun W => n_source (mk (joinL ⟨#[10]⟩ (paraK zs i (paraTo zs i)))) W
  clear hown hZ HZ0 HB0 HP1 HPs HSt HF HM HTr HHd HSz HPl
  generalize mk (joinL ⟨#[10]⟩ (paraK zs i (paraTo zs i))) = X at *
  go_wp2_with fail
  ((with_reducible refine (HJ.out).mono ?_))
  rintro e w2 ⟨rfl, b2⟩
  have HZ2 := Lib.hid (HZr.out.below (w := w) b2)
  have HB2 := Lib.hid (hbw.trans (b2.mono hzr))
  have hz2' := b2.size
  clear b2 HJ
  go_wp2_with fail
  ((with_reducible refine (HSr.out _).mono ?_))
  rintro e w3 ⟨v, rfl, hsrc, b3⟩
  obtain ⟨Av, nv, cv, rfl⟩ := srcV_form hsrc
  have HZ3 := Lib.hid (HZ2.out.below (w := w) b3)
  have HB3 := Lib.hid (HB2.out.trans (b3.mono HB2.out.size))
  have HSV := Lib.hid hsrc
  obtain ⟨k0, k1, k2, k3, k4, k5, k6, k7, k8, k9, k10, x0, x1, x2, x3, x4, x5, x6, x7, x8, x9, x10⟩ := ZB.facts HZ3.out
  clear hsrc b3 HSr
  go_wp2_with fail
  refine paraAt_ret (blk11 HZ3.out _ _ _ _ _ _ _ _ _ _ _) rfl rfl rfl ⟨⟨_, rfl, ?_⟩, below11 HB3.out (Nat.le_refl _) _ _ _ _ _ _ _ _ _ _ _⟩
  rw [HPB.out]
  exact repB_leaf (srcV_far HSV.out (grown11 _ _ _ _ _ _ _ _ _ _ _ _ _) (by omega) (by omega))

end Go.Proofs.YtpoafhgbhnblmaaGreatDoor
