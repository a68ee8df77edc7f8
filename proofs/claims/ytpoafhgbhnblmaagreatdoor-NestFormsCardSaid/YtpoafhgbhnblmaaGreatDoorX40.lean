/-
  Texts of the proof, put together (what this law reaches): NsU.
-/
import Derived.Test.YtpoafhgbhnblmaaGreatDoorX33
set_option linter.unusedVariables false
set_option linter.unusedSimpArgs false
namespace Go.Proofs.YtpoafhgbhnblmaaGreatDoor
open Go.RowKit Go.Pub
/-- As BkPost, what is read lying in S. -/
def BkPostS (S : World → Nat → Prop) (r : Option (BkT × Nat)) (w : World) (e : Ending) (w' : World) : Prop :=
  Below w.heap.size w w' ∧ match r with
  | none => ∃ (v : Array Value) (u : Int), AnyB v ∧ e = .returned (.tuple #[.agg v, .int .i64 u, .int .i64 11])
  | some p => ∃ v, e = .returned (.tuple #[.agg v, .int .i64 p.2, .int .i64 0]) ∧ RepB w' (S w') v p.1
theorem bks_some {S : World → Nat → Prop} {r : Option (BkT × Nat)} {b : BkT} {t : Nat} {w w' : World} {v : Array Value} (hr : r = some (b, t)) (hv : RepB w' (S w') v b) (hb : Below w.heap.size w w') : BkPostS S r w (.returned (.tuple #[.agg v, .int .i64 t, .int .i64 0])) w' := by
  subst hr; exact ⟨hb, v, rfl, hv⟩
theorem bks_none {S : World → Nat → Prop} {r : Option (BkT × Nat)} {u : Int} {w w' : World} {v : Array Value} (hr : r = none) (hv : AnyB v) (hb : Below w.heap.size w w') : BkPostS S r w (.returned (.tuple #[.agg v, .int .i64 u, .int .i64 11])) w' := by
  subst hr; exact ⟨hb, v, u, hv, rfl⟩
set_option maxRecDepth 100000 in
set_option maxHeartbeats 4000000 in
theorem n_div2 (rec : List ByteArray → Option (List BkT)) (d : Nat) (hd : d ≤ 15) (zs : List ByteArray) (A : Option Addr) (c i : Nat) (MM : Int) (m : MkL) (A9 : Option Addr) (c9 : Nat) (A10 : Option Addr) (c10 : Nat) (w : World) (hR : RecP rec (d + 1) MM) (hL : LinesAt w A zs MM) (hi : i < zs.length) (hc : zs.length ≤ c) (hcm : c ≤ maxLen) (T : Nat → Prop) (hT : ∀ g, T g → g < w.heap.size) (ha : AttR w T m.att A9 A10) :
    Calls Tryz.prog 74 #[.slice A zs.length c, .int .i64 i, .agg (m.cells (.slice A9 m.att.cl.length c9) (.slice A10 m.att.pr.length c10)), .int .i64 d] w
      (BkPostS (fun w' g => T g ∨ Rg w.heap.size w' g) ((rec (cutL zs (i + 1) (closeI zs m (i + 1)))).map fun k => (.mk 13 0 m.info ⟨#[]⟩ ⟨#[]⟩ ⟨#[]⟩ m.att ⟨#[]⟩ k, min (closeI zs m (i + 1) + 1) zs.length)) w) := by
  have hlen := hL.len
  have hbd := closeI_bd zs m i hi
  obtain ⟨b, off, rfl, hb, hcell⟩ := hL.get (by omega)
  have HLi := Lib.hid hL
  have HC := Lib.hid fun W (h : LinesAt W (some ⟨b, off, none⟩) zs MM) => n_closing zs (some ⟨b, off, none⟩) c i MM m A9 m.att.cl.length c9 A10 m.att.pr.length c10 W h hi
  have HR : Hid (∀ (W : World) (A' : Option Addr) (c' : Nat), LinesAt W (some ⟨b, off, none⟩) zs MM → (A' = some ⟨b, off + (i + 1), none⟩ ∨ closeI zs m (i + 1) = i + 1) → closeI zs m (i + 1) - (i + 1) ≤ c' → c' ≤ maxLen →
      Calls Tryz.prog 30 #[.slice A' (closeI zs m (i + 1) - (i + 1)) c', .int .i64 ((d + 1 : Nat) : Int)] W fun e w' =>
        (match rec (cutL zs (i + 1) (closeI zs m (i + 1))) with
         | none => e = .returned bkErr
         | some bs => ∃ A1 c1 A2 n2 c2, e = .returned (.tuple #[.slice A1 bs.length c1, .slice A2 n2 c2, .int .i64 0]) ∧ KidsV w' (Rg W.heap.size w') (.slice A1 bs.length c1) bs) ∧ Below W.heap.size W w') := Lib.hid fun W A' c' h1 h2 h3 h4 => by
    have hl := cutL_len zs (i + 1) (closeI zs m (i + 1)) hbd.1 hbd.2
    have := hR (cutL zs (i + 1) (closeI zs m (i + 1))) A' c' W (h1.cut' (i + 1) _ hbd.1 hbd.2 A' h2) (by omega) h4
    rwa [hl] at this
  have HS := Lib.hid (dw_start w (m.cells (.slice A9 m.att.cl.length c9) (.slice A10 m.att.pr.length c10)))
  have HA := Lib.hid ha
  have HTT := Lib.hid hT
  obtain ⟨R, hRr⟩ : ∃ R, R = rec (cutL zs (i + 1) (closeI zs m (i + 1))) := ⟨_, rfl⟩
  rw [← hRr] at HR ⊢
  obtain ⟨t, ht⟩ : ∃ t, t = closeI zs m (i + 1) := ⟨_, rfl⟩
  rw [← ht] at HC HR hbd ⊢
  have HMn : ∀ w : World, (Builtin.min_ #[3, 3] 3 #[.int .i64 ((t : Int) + 1), .int .i64 zs.length]).run Tryz.prog w = .ok (.int .i64 ((min (t + 1) zs.length : Nat) : Int)) w := fun w => by
    rw [run_min_int2]
    congr 2
    split <;> omega
  have HDD := Lib.hid (show (d : Int) + 1 = ((d + 1 : Nat) : Int) by omega)
  unfold maxLen at hcm
  clear hL hcell hR ha ht hRr hT
  unfold MkL.cells zbC at HS
  unfold ClsPost MkL.cells at HC
  unfold MkL.cells
  go_enter Tryz.func74, Tryz.ntmps74
  have HB0 := Lib.hid HS.out.bel
  obtain ⟨p0, p1, p2, p3, p4, p5, p6, p7, p8, p9, p10, x0, x1, x2, x3, x4, x5, x6, x7, x8, x9, x10⟩ := mk_facts HS.out.mrk
  go_wp2_with fail
  ((with_reducible refine (HC.out _ (HLi.out.below HB0.out)).mono ?_))
  rintro e w1 ⟨⟨vC, vP, rfl, ho⟩, b1⟩
  obtain ⟨A1, c1, rfl⟩ := own_slice ho.cls
  obtain ⟨A2, c2, rfl⟩ := own_slice ho.prs
  have HS1 := Lib.hid (HS.out.next b1)
  clear ho b1 HC p0 p1 p2 p3 p4 p5 p6 p7 p8 p9 p10 x0 x1 x2 x3 x4 x5 x6 x7 x8 x9 x10 HS HB0
  go_wp2_with fail
  all_goals
    rw [HDD.out]
    generalize hW : w1.alloc _ = W2
    have HS2 := Lib.hid (hW ▸ HS1.out.next ((Below.refl _ w1).alloc (Nat.le_refl _) _))
    clear hW
    ((with_reducible refine (HR.out _ _ _ (HLi.out.below HS2.out.bel) (by first | exact .inl rfl | exact .inr (by omega)) (by omega) (by unfold maxLen; omega)).mono ?_))
    rintro e w3 ⟨hp, b3⟩
    have HS3 := Lib.hid (HS2.out.next b3)
    have hz3 := b3.size
    have hm3 := HS2.out.res.lt
    obtain ⟨p0, p1, p2, p3, p4, p5, p6, p7, p8, p9, p10, x0, x1, x2, x3, x4, x5, x6, x7, x8, x9, x10⟩ := mk_facts HS3.out.mrk
    obtain ⟨k0, k1, k2, k3, k4, k5, k6, k7, k8, k9, k10, y0, y1, y2, y3, y4, y5, y6, y7, y8, y9, y10⟩ := ZB.facts HS3.out.res
    have HBe : Hid (∀ z0 z1 z2 z3 z4 z5 z6 z7 z8 z9 z10, Below w.heap.size w (((((((((((w3.setCell ⟨w.heap.size + 1, 0, none⟩ z0).setCell ⟨w.heap.size + 1, 1, none⟩ z1).setCell ⟨w.heap.size + 1, 2, none⟩ z2).setCell ⟨w.heap.size + 1, 3, none⟩ z3).setCell ⟨w.heap.size + 1, 4, none⟩ z4).setCell ⟨w.heap.size + 1, 5, none⟩ z5).setCell ⟨w.heap.size + 1, 6, none⟩ z6).setCell ⟨w.heap.size + 1, 7, none⟩ z7).setCell ⟨w.heap.size + 1, 8, none⟩ z8).setCell ⟨w.heap.size + 1, 9, none⟩ z9).setCell ⟨w.heap.size + 1, 10, none⟩ z10)) := Lib.hid fun z0 z1 z2 z3 z4 z5 z6 z7 z8 z9 z10 => below11 HS3.out.bel (Nat.le_succ _) z0 z1 z2 z3 z4 z5 z6 z7 z8 z9 z10
    cases R with
    | none =>
      subst hp
      unfold bkErr
      clear HR b3
      go_wp2_with fail
      exact divAt_ret (blk11 HS3.out.res _ _ _ _ _ _ _ _ _ _ _) rfl rfl rfl rfl (bks_none rfl ⟨_, _, _, _, _, _, _, _, _, _, _, _, _, _, _, _, _, _, _, rfl⟩ (HBe.out _ _ _ _ _ _ _ _ _ _ _))
    | some bs =>
      obtain ⟨A3, c3, A4, n4, c4, rfl, hk⟩ := hp
      have HK := Lib.hid hk
      clear HR hk b3
      go_wp2_with fail
      exact divAt_ret (blk11 HS3.out.res _ _ _ _ _ _ _ _ _ _ _) rfl rfl rfl rfl (bks_some rfl (repB_mk (att := m.att) (HA.out.keep (fun g hg => (HBe.out _ _ _ _ _ _ _ _ _ _ _).block g (HTT.out g hg)) fun g hg => .inl hg) (srcV_none _ _) ((HK.out.far (B' := w.heap.size) (grown11 _ _ _ _ _ _ _ _ _ _ _ _ _) hm3 (by omega)).keep (fun _ _ => rfl) fun g hg => .inr hg)) (HBe.out _ _ _ _ _ _ _ _ _ _ _))

end Go.Proofs.YtpoafhgbhnblmaaGreatDoor
