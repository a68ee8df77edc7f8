/-
  Texts of the proof, put together (what this law reaches): NsVA.
-/
import Derived.Test.YtpoafhgbhnblmaaGreatDoorX40
import Derived.Test.YtpoafhgbhnblmaaGreatDoorX15
import Derived.Test.YtpoafhgbhnblmaaGreatDoorX39
import Derived.Test.YtpoafhgbhnblmaaGreatDoorX36
set_option linter.unusedVariables false
set_option linter.unusedSimpArgs false
namespace Go.Proofs.YtpoafhgbhnblmaaGreatDoor
open Go.RowKit Go.Pub
theorem RepB.far {w w' : World} {B B' g : Nat} {v : Array Value} {b : BkT} (h : RepB w (Rg B w) v b) (hg : w.grownBy w' (some g)) (hlt : g < B) (hB : B' ≤ B) : RepB w' (Rg B' w') v b :=
  h.keep (fun x hx => hg.block x hx.2 fun e => by injection e with e; have := hx.1; omega) fun x hx => ⟨by have := hx.1; omega, Nat.lt_of_lt_of_le hx.2 hg.size⟩
set_option maxRecDepth 100000 in
set_option maxHeartbeats 2000000 in
theorem n_at3 (d : Nat) (hd : d ≤ 15) (zs : List ByteArray) (A : Option Addr) (c i B : Nat) (MM : Int) (m : MkL) (A9 : Option Addr) (c9 : Nat) (A10 : Option Addr) (c10 : Nat) (w : World) (hL : LinesAt w A zs MM) (hi : i < zs.length) (hc : zs.length ≤ c) (hcm : c ≤ maxLen) (hB : B ≤ w.heap.size) (ha : AttR w (Rg B w) m.att A9 A10) (hk : m.kind = 3) :
    Calls Tryz.prog 39 #[.slice A zs.length c, .int .i64 i, .agg (m.cells (.slice A9 m.att.cl.length c9) (.slice A10 m.att.pr.length c10)), .int .i64 d] w (BkPost B (some (kidB 5 [], i + 1)) w) := by
  have hlen := hL.len
  have HLi := Lib.hid hL
  have HA := Lib.hid ha
  have HS := Lib.hid (dw_start w (m.cells (.slice A9 m.att.cl.length c9) (.slice A10 m.att.pr.length c10)))
  obtain ⟨PR, hPR⟩ : ∃ PR, PR = some (kidB 5 [], i + 1) := ⟨_, rfl⟩
  rw [← hPR]
  have HPR := Lib.hid hPR
  have z2 : (((m.kind : Nat) : Int) == 2) = false := kF (by omega)
  have z3 : (((m.kind : Nat) : Int) == 3) = true := kT (by omega)
  have HK := Lib.hid hk
  clear hL hk ha hPR
  unfold MkL.cells zbC at HS
  go_enter Tryz.func39, Tryz.ntmps39
  unfold MkL.cells
  go_upto_region 1 with fail
  generalize hW : (w.alloc _).alloc _ = W0
  have HD : Hid (DW w #[.int .i64 m.kind, .int .i64 m.n, .string m.ch, .int .i64 m.off, .string m.info, .string m.rest, .string m.dest, .string m.title, .string m.att.id, .slice A9 m.att.cl.length c9, .slice A10 m.att.pr.length c10] W0) := Lib.hid (by rw [← hW]; exact HS.out)
  clear hW HS
  have HL0 := Lib.hid (HLi.out.below HD.out.bel)
  have hw0 := HD.out.bel.size
  have hw1 := HD.out.res.lt
  obtain ⟨p0, p1, p2, p3, p4, p5, p6, p7, p8, p9, p10, x0, x1, x2, x3, x4, x5, x6, x7, x8, x9, x10⟩ := mk_facts HD.out.mrk
  clear x0 x1 x2 x3 x4 x5 x6 x7 x8 x9 x10
  obtain ⟨k0, k1, k2, k3, k4, k5, k6, k7, k8, k9, k10, y0, y1, y2, y3, y4, y5, y6, y7, y8, y9, y10⟩ := ZB.facts HD.out.res
  go_wp2_with fail
  rw [HPR.out]
  exact blockAt_ret (blk11 HD.out.res _ _ _ _ _ _ _ _ _ _ _) rfl rfl rfl rfl (bk_some rfl (repB_mk (kind := 5) (level := 0) (att := emptyA) (AttR.empty _ _ _ _) (srcV_none _ _) (KidsV.none_ _ _)) (below11 HD.out.bel (Nat.le_succ _) _ _ _ _ _ _ _ _ _ _ _))

set_option maxRecDepth 100000 in
set_option maxHeartbeats 2000000 in
theorem n_at11 (d : Nat) (hd : d ≤ 15) (zs : List ByteArray) (A : Option Addr) (c i B : Nat) (MM : Int) (m : MkL) (A9 : Option Addr) (c9 : Nat) (A10 : Option Addr) (c10 : Nat) (w : World) (hL : LinesAt w A zs MM) (hi : i < zs.length) (hc : zs.length ≤ c) (hcm : c ≤ maxLen) (hB : B ≤ w.heap.size) (ha : AttR w (Rg B w) m.att A9 A10) (hk : m.kind = 11) :
    Calls Tryz.prog 39 #[.slice A zs.length c, .int .i64 i, .agg (m.cells (.slice A9 m.att.cl.length c9) (.slice A10 m.att.pr.length c10)), .int .i64 d] w (BkPost B (some (BkT.mk 15 0 m.info ⟨#[]⟩ m.dest m.title emptyA ⟨#[]⟩ [], i + 1)) w) := by
  have hlen := hL.len
  have HLi := Lib.hid hL
  have HA := Lib.hid ha
  have HS := Lib.hid (dw_start w (m.cells (.slice A9 m.att.cl.length c9) (.slice A10 m.att.pr.length c10)))
  obtain ⟨PR, hPR⟩ : ∃ PR, PR = some (BkT.mk 15 0 m.info ⟨#[]⟩ m.dest m.title emptyA ⟨#[]⟩ [], i + 1) := ⟨_, rfl⟩
  rw [← hPR]
  have HPR := Lib.hid hPR
  have z2 : (((m.kind : Nat) : Int) == 2) = false := kF (by omega)
  have z3 : (((m.kind : Nat) : Int) == 3) = false := kF (by omega)
  have z11 : (((m.kind : Nat) : Int) == 11) = true := kT (by omega)
  have HK := Lib.hid hk
  clear hL hk ha hPR
  unfold MkL.cells zbC at HS
  go_enter Tryz.func39, Tryz.ntmps39
  unfold MkL.cells
  go_upto_region 1 with fail
  generalize hW : (w.alloc _).alloc _ = W0
  have HD : Hid (DW w #[.int .i64 m.kind, .int .i64 m.n, .string m.ch, .int .i64 m.off, .string m.info, .string m.rest, .string m.dest, .string m.title, .string m.att.id, .slice A9 m.att.cl.length c9, .slice A10 m.att.pr.length c10] W0) := Lib.hid (by rw [← hW]; exact HS.out)
  clear hW HS
  have HL0 := Lib.hid (HLi.out.below HD.out.bel)
  have hw0 := HD.out.bel.size
  have hw1 := HD.out.res.lt
  obtain ⟨p0, p1, p2, p3, p4, p5, p6, p7, p8, p9, p10, x0, x1, x2, x3, x4, x5, x6, x7, x8, x9, x10⟩ := mk_facts HD.out.mrk
  clear x0 x1 x2 x3 x4 x5 x6 x7 x8 x9 x10
  obtain ⟨k0, k1, k2, k3, k4, k5, k6, k7, k8, k9, k10, y0, y1, y2, y3, y4, y5, y6, y7, y8, y9, y10⟩ := ZB.facts HD.out.res
  go_wp2_with fail
  rw [HPR.out]
  exact blockAt_ret (blk11 HD.out.res _ _ _ _ _ _ _ _ _ _ _) rfl rfl rfl rfl (bk_some rfl (repB_mk (kind := 15) (level := 0) (att := emptyA) (AttR.empty _ _ _ _) (srcV_none _ _) (KidsV.none_ _ _)) (below11 HD.out.bel (Nat.le_succ _) _ _ _ _ _ _ _ _ _ _ _))

set_option maxRecDepth 100000 in
set_option maxHeartbeats 2000000 in
theorem n_at4 (rec : List ByteArray → Option (List BkT)) (d : Nat) (hd : d ≤ 15) (zs : List ByteArray) (A : Option Addr) (c i B : Nat) (MM : Int) (m : MkL) (A9 : Option Addr) (c9 : Nat) (A10 : Option Addr) (c10 : Nat) (w : World) (hL : LinesAt w A zs MM) (hi : i < zs.length) (hc : zs.length ≤ c) (hcm : c ≤ maxLen) (hB : B ≤ w.heap.size) (ha : AttR w (Rg B w) m.att A9 A10) (hk : m.kind = 4) (hR : RecP rec (d + 1) MM) :
    Calls Tryz.prog 39 #[.slice A zs.length c, .int .i64 i, .agg (m.cells (.slice A9 m.att.cl.length c9) (.slice A10 m.att.pr.length c10)), .int .i64 d] w (BkPost B ((rec (quoteIn zs i)).map fun k => (kidB 6 k, quoteTo zs i)) w) := by
  have hlen := hL.len
  have HLi := Lib.hid hL
  have HA := Lib.hid ha
  have HS := Lib.hid (dw_start w (m.cells (.slice A9 m.att.cl.length c9) (.slice A10 m.att.pr.length c10)))
  obtain ⟨PR, hPR⟩ : ∃ PR, PR = (rec (quoteIn zs i)).map fun k => (kidB 6 k, quoteTo zs i) := ⟨_, rfl⟩
  rw [← hPR]
  have HQ : Hid (∀ W, LinesAt W A zs MM → DW w #[.int .i64 m.kind, .int .i64 m.n, .string m.ch, .int .i64 m.off, .string m.info, .string m.rest, .string m.dest, .string m.title, .string m.att.id, .slice A9 m.att.cl.length c9, .slice A10 m.att.pr.length c10] W → Calls Tryz.prog 70 #[.slice A zs.length c, .int .i64 i, .int .i64 d] W (BkPost W.heap.size PR W)) := Lib.hid fun W hLW hDW => by
    rw [hPR]; exact n_quote rec d hd zs A c i W.heap.size MM W hR hLW hi (Nat.le_refl _)
  clear hR
  have HPR := Lib.hid hPR
  have z2 : (((m.kind : Nat) : Int) == 2) = false := kF (by omega)
  have z3 : (((m.kind : Nat) : Int) == 3) = false := kF (by omega)
  have z11 : (((m.kind : Nat) : Int) == 11) = false := kF (by omega)
  have z4 : (((m.kind : Nat) : Int) == 4) = true := kT (by omega)
  have HK := Lib.hid hk
  clear hL hk ha hPR
  unfold MkL.cells zbC at HS
  go_enter Tryz.func39, Tryz.ntmps39
  unfold MkL.cells
  go_upto_region 1 with fail
  generalize hW : (w.alloc _).alloc _ = W0
  have HD : Hid (DW w #[.int .i64 m.kind, .int .i64 m.n, .string m.ch, .int .i64 m.off, .string m.info, .string m.rest, .string m.dest, .string m.title, .string m.att.id, .slice A9 m.att.cl.length c9, .slice A10 m.att.pr.length c10] W0) := Lib.hid (by rw [← hW]; exact HS.out)
  clear hW HS
  have HL0 := Lib.hid (HLi.out.below HD.out.bel)
  have hw0 := HD.out.bel.size
  have hw1 := HD.out.res.lt
  obtain ⟨p0, p1, p2, p3, p4, p5, p6, p7, p8, p9, p10, x0, x1, x2, x3, x4, x5, x6, x7, x8, x9, x10⟩ := mk_facts HD.out.mrk
  clear x0 x1 x2 x3 x4 x5 x6 x7 x8 x9 x10
  go_wp2_with fail
  ((with_reducible refine (HQ.out _ HL0.out HD.out).mono ?_))
  rintro e w2 ⟨b2, hp⟩
  have HD2 := Lib.hid (HD.out.next b2)
  have hz2 := b2.size
  obtain ⟨k0, k1, k2, k3, k4, k5, k6, k7, k8, k9, k10, y0, y1, y2, y3, y4, y5, y6, y7, y8, y9, y10⟩ := ZB.facts HD2.out.res
  clear HQ p0 p1 p2 p3 p4 p5 p6 p7 p8 p9 p10
  cases PR with
  | none =>
    obtain ⟨v, u, ⟨i0, i1, s2, s3, s4, s5, s6, A7, n7, c7, A8, n8, c8, D9, n9, d9, D10, n10, d10, rfl⟩, rfl⟩ := hp
    go_wp2_with fail
    exact blockAt_ret (blk11 HD2.out.res _ _ _ _ _ _ _ _ _ _ _) rfl rfl rfl rfl (bk_none rfl ⟨_, _, _, _, _, _, _, _, _, _, _, _, _, _, _, _, _, _, _, rfl⟩ (below11 HD2.out.bel (Nat.le_succ _) _ _ _ _ _ _ _ _ _ _ _))
  | some r =>
    obtain ⟨bk, tq⟩ := r
    obtain ⟨v, rfl, hrep⟩ := hp
    obtain ⟨f0, f1, f2, f3, f4, f5, f6, D9, n9, d9, D10, n10, d10, D11, n11, d11, D12, n12, d12, rfl⟩ := hrep.form
    have HREP := Lib.hid hrep
    clear hrep
    go_wp2_with fail
    have hrep := HREP.out
    exact blockAt_ret (blk11 HD2.out.res _ _ _ _ _ _ _ _ _ _ _) rfl rfl rfl rfl (bk_some rfl (hrep.far (grown11 _ _ _ _ _ _ _ _ _ _ _ _ _) hw1 (by omega)) (below11 HD2.out.bel (Nat.le_succ _) _ _ _ _ _ _ _ _ _ _ _))

set_option maxRecDepth 100000 in
set_option maxHeartbeats 2000000 in
theorem n_at7 (d : Nat) (hd : d ≤ 15) (zs : List ByteArray) (A : Option Addr) (c i B : Nat) (MM : Int) (m : MkL) (A9 : Option Addr) (c9 : Nat) (A10 : Option Addr) (c10 : Nat) (w : World) (hL : LinesAt w A zs MM) (hi : i < zs.length) (hc : zs.length ≤ c) (hcm : c ≤ maxLen) (hB : B ≤ w.heap.size) (ha : AttR w (Rg B w) m.att A9 A10) (hk : m.kind = 7) (ho : m.off ≤ 1000000) :
    Calls Tryz.prog 39 #[.slice A zs.length c, .int .i64 i, .agg (m.cells (.slice A9 m.att.cl.length c9) (.slice A10 m.att.pr.length c10)), .int .i64 d] w (BkPost B (some (BkT.mk 3 0 m.info (mk (joinN ((cutL zs (i + 1) (closeI zs m (i + 1))).map fun z => stripB z m.off))) ⟨#[]⟩ ⟨#[]⟩ emptyA ⟨#[]⟩ [], min (closeI zs m (i + 1) + 1) zs.length)) w) := by
  have hlen := hL.len
  have HLi := Lib.hid hL
  have HA := Lib.hid ha
  have HS := Lib.hid (dw_start w (m.cells (.slice A9 m.att.cl.length c9) (.slice A10 m.att.pr.length c10)))
  obtain ⟨PR, hPR⟩ : ∃ PR, PR = some (BkT.mk 3 0 m.info (mk (joinN ((cutL zs (i + 1) (closeI zs m (i + 1))).map fun z => stripB z m.off))) ⟨#[]⟩ ⟨#[]⟩ emptyA ⟨#[]⟩ [], min (closeI zs m (i + 1) + 1) zs.length) := ⟨_, rfl⟩
  rw [← hPR]
  have HQ : Hid (∀ W, LinesAt W A zs MM → DW w #[.int .i64 m.kind, .int .i64 m.n, .string m.ch, .int .i64 m.off, .string m.info, .string m.rest, .string m.dest, .string m.title, .string m.att.id, .slice A9 m.att.cl.length c9, .slice A10 m.att.pr.length c10] W → Calls Tryz.prog 71 #[.slice A zs.length c, .int .i64 i, .agg #[.int .i64 m.kind, .int .i64 m.n, .string m.ch, .int .i64 m.off, .string m.info, .string m.rest, .string m.dest, .string m.title, .string m.att.id, .slice A9 m.att.cl.length c9, .slice A10 m.att.pr.length c10]] W (BkPost W.heap.size PR W)) := Lib.hid fun W hLW hDW => by
    rw [hPR]; exact n_fence zs A c i W.heap.size MM m A9 c9 A10 c10 W hLW hi hc hcm (Nat.le_refl _) ho
  have HPR := Lib.hid hPR
  have z2 : (((m.kind : Nat) : Int) == 2) = false := kF (by omega)
  have z3 : (((m.kind : Nat) : Int) == 3) = false := kF (by omega)
  have z11 : (((m.kind : Nat) : Int) == 11) = false := kF (by omega)
  have z4 : (((m.kind : Nat) : Int) == 4) = false := kF (by omega)
  have z7 : (((m.kind : Nat) : Int) == 7) = true := kT (by omega)
  have HK := Lib.hid hk
  clear hL hk ha hPR
  unfold MkL.cells zbC at HS
  go_enter Tryz.func39, Tryz.ntmps39
  unfold MkL.cells
  go_upto_region 1 with fail
  generalize hW : (w.alloc _).alloc _ = W0
  have HD : Hid (DW w #[.int .i64 m.kind, .int .i64 m.n, .string m.ch, .int .i64 m.off, .string m.info, .string m.rest, .string m.dest, .string m.title, .string m.att.id, .slice A9 m.att.cl.length c9, .slice A10 m.att.pr.length c10] W0) := Lib.hid (by rw [← hW]; exact HS.out)
  clear hW HS
  have HL0 := Lib.hid (HLi.out.below HD.out.bel)
  have hw0 := HD.out.bel.size
  have hw1 := HD.out.res.lt
  obtain ⟨p0, p1, p2, p3, p4, p5, p6, p7, p8, p9, p10, x0, x1, x2, x3, x4, x5, x6, x7, x8, x9, x10⟩ := mk_facts HD.out.mrk
  clear x0 x1 x2 x3 x4 x5 x6 x7 x8 x9 x10
  go_wp2_with fail
  ((with_reducible refine (HQ.out _ HL0.out HD.out).mono ?_))
  rintro e w2 ⟨b2, hp⟩
  have HD2 := Lib.hid (HD.out.next b2)
  have hz2 := b2.size
  obtain ⟨k0, k1, k2, k3, k4, k5, k6, k7, k8, k9, k10, y0, y1, y2, y3, y4, y5, y6, y7, y8, y9, y10⟩ := ZB.facts HD2.out.res
  clear HQ p0 p1 p2 p3 p4 p5 p6 p7 p8 p9 p10
  cases PR with
  | none =>
    obtain ⟨v, u, ⟨i0, i1, s2, s3, s4, s5, s6, A7, n7, c7, A8, n8, c8, D9, n9, d9, D10, n10, d10, rfl⟩, rfl⟩ := hp
    go_wp2_with fail
    exact blockAt_ret (blk11 HD2.out.res _ _ _ _ _ _ _ _ _ _ _) rfl rfl rfl rfl (bk_none rfl ⟨_, _, _, _, _, _, _, _, _, _, _, _, _, _, _, _, _, _, _, rfl⟩ (below11 HD2.out.bel (Nat.le_succ _) _ _ _ _ _ _ _ _ _ _ _))
  | some r =>
    obtain ⟨bk, tq⟩ := r
    obtain ⟨v, rfl, hrep⟩ := hp
    obtain ⟨f0, f1, f2, f3, f4, f5, f6, D9, n9, d9, D10, n10, d10, D11, n11, d11, D12, n12, d12, rfl⟩ := hrep.form
    have HREP := Lib.hid hrep
    clear hrep
    go_wp2_with fail
    have hrep := HREP.out
    exact blockAt_ret (blk11 HD2.out.res _ _ _ _ _ _ _ _ _ _ _) rfl rfl rfl rfl (bk_some rfl (hrep.far (grown11 _ _ _ _ _ _ _ _ _ _ _ _ _) hw1 (by omega)) (below11 HD2.out.bel (Nat.le_succ _) _ _ _ _ _ _ _ _ _ _ _))

set_option maxRecDepth 100000 in
set_option maxHeartbeats 2000000 in
theorem n_at9 (rec : List ByteArray → Option (List BkT)) (d : Nat) (hd : d ≤ 15) (zs : List ByteArray) (A : Option Addr) (c i B : Nat) (MM : Int) (m : MkL) (A9 : Option Addr) (c9 : Nat) (A10 : Option Addr) (c10 : Nat) (w : World) (hL : LinesAt w A zs MM) (hi : i < zs.length) (hc : zs.length ≤ c) (hcm : c ≤ maxLen) (hB : B ≤ w.heap.size) (ha : AttR w (Rg B w) m.att A9 A10) (hk : m.kind = 9) (hR : RecP rec (d + 1) MM) :
    Calls Tryz.prog 39 #[.slice A zs.length c, .int .i64 i, .agg (m.cells (.slice A9 m.att.cl.length c9) (.slice A10 m.att.pr.length c10)), .int .i64 d] w (BkPost B ((rec (cutL zs (i + 1) (closeI zs m (i + 1)))).map fun k => (BkT.mk 13 0 m.info ⟨#[]⟩ ⟨#[]⟩ ⟨#[]⟩ m.att ⟨#[]⟩ k, min (closeI zs m (i + 1) + 1) zs.length)) w) := by
  have hlen := hL.len
  have HLi := Lib.hid hL
  have HA := Lib.hid ha
  have HS := Lib.hid (dw_start w (m.cells (.slice A9 m.att.cl.length c9) (.slice A10 m.att.pr.length c10)))
  obtain ⟨PR, hPR⟩ : ∃ PR, PR = (rec (cutL zs (i + 1) (closeI zs m (i + 1)))).map fun k => (BkT.mk 13 0 m.info ⟨#[]⟩ ⟨#[]⟩ ⟨#[]⟩ m.att ⟨#[]⟩ k, min (closeI zs m (i + 1) + 1) zs.length) := ⟨_, rfl⟩
  rw [← hPR]
  have HQ : Hid (∀ W, LinesAt W A zs MM → DW w #[.int .i64 m.kind, .int .i64 m.n, .string m.ch, .int .i64 m.off, .string m.info, .string m.rest, .string m.dest, .string m.title, .string m.att.id, .slice A9 m.att.cl.length c9, .slice A10 m.att.pr.length c10] W → Calls Tryz.prog 74 #[.slice A zs.length c, .int .i64 i, .agg #[.int .i64 m.kind, .int .i64 m.n, .string m.ch, .int .i64 m.off, .string m.info, .string m.rest, .string m.dest, .string m.title, .string m.att.id, .slice A9 m.att.cl.length c9, .slice A10 m.att.pr.length c10], .int .i64 d] W (BkPostS (fun w' g => Rg B w g ∨ Rg W.heap.size w' g) PR W)) := Lib.hid fun W hLW hDW => by
    rw [hPR]; exact n_div2 rec d hd zs A c i MM m A9 c9 A10 c10 W hR hLW hi hc hcm (Rg B w) (fun g h => Nat.lt_of_lt_of_le h.2 hDW.bel.size) (ha.keep (fun g h => hDW.bel.block g h.2) fun g h => h)
  clear hR
  have HPR := Lib.hid hPR
  have z2 : (((m.kind : Nat) : Int) == 2) = false := kF (by omega)
  have z3 : (((m.kind : Nat) : Int) == 3) = false := kF (by omega)
  have z11 : (((m.kind : Nat) : Int) == 11) = false := kF (by omega)
  have z4 : (((m.kind : Nat) : Int) == 4) = false := kF (by omega)
  have z7 : (((m.kind : Nat) : Int) == 7) = false := kF (by omega)
  have z8 : (((m.kind : Nat) : Int) == 8) = false := kF (by omega)
  have z9 : (((m.kind : Nat) : Int) == 9) = true := kT (by omega)
  have HK := Lib.hid hk
  clear hL hk ha hPR
  unfold MkL.cells zbC at HS
  go_enter Tryz.func39, Tryz.ntmps39
  unfold MkL.cells
  go_upto_region 1 with fail
  generalize hW : (w.alloc _).alloc _ = W0
  have HD : Hid (DW w #[.int .i64 m.kind, .int .i64 m.n, .string m.ch, .int .i64 m.off, .string m.info, .string m.rest, .string m.dest, .string m.title, .string m.att.id, .slice A9 m.att.cl.length c9, .slice A10 m.att.pr.length c10] W0) := Lib.hid (by rw [← hW]; exact HS.out)
  clear hW HS
  have HL0 := Lib.hid (HLi.out.below HD.out.bel)
  have hw0 := HD.out.bel.size
  have hw1 := HD.out.res.lt
  obtain ⟨p0, p1, p2, p3, p4, p5, p6, p7, p8, p9, p10, x0, x1, x2, x3, x4, x5, x6, x7, x8, x9, x10⟩ := mk_facts HD.out.mrk
  clear x0 x1 x2 x3 x4 x5 x6 x7 x8 x9 x10
  go_wp2_with fail
  ((with_reducible refine (HQ.out _ HL0.out HD.out).mono ?_))
  rintro e w2 ⟨b2, hp⟩
  have HD2 := Lib.hid (HD.out.next b2)
  have hz2 := b2.size
  obtain ⟨k0, k1, k2, k3, k4, k5, k6, k7, k8, k9, k10, y0, y1, y2, y3, y4, y5, y6, y7, y8, y9, y10⟩ := ZB.facts HD2.out.res
  clear HQ p0 p1 p2 p3 p4 p5 p6 p7 p8 p9 p10
  cases PR with
  | none =>
    obtain ⟨v, u, ⟨i0, i1, s2, s3, s4, s5, s6, A7, n7, c7, A8, n8, c8, D9, n9, d9, D10, n10, d10, rfl⟩, rfl⟩ := hp
    go_wp2_with fail
    exact blockAt_ret (blk11 HD2.out.res _ _ _ _ _ _ _ _ _ _ _) rfl rfl rfl rfl (bk_none rfl ⟨_, _, _, _, _, _, _, _, _, _, _, _, _, _, _, _, _, _, _, rfl⟩ (below11 HD2.out.bel (Nat.le_succ _) _ _ _ _ _ _ _ _ _ _ _))
  | some r =>
    obtain ⟨bk, tq⟩ := r
    obtain ⟨v, rfl, hrep⟩ := hp
    obtain ⟨f0, f1, f2, f3, f4, f5, f6, D9, n9, d9, D10, n10, d10, D11, n11, d11, D12, n12, d12, rfl⟩ := hrep.form
    have HREP := Lib.hid hrep
    clear hrep
    go_wp2_with fail
    have hrep := HREP.out
    exact blockAt_ret (blk11 HD2.out.res _ _ _ _ _ _ _ _ _ _ _) rfl rfl rfl rfl (bk_some rfl (hrep.keep (fun x hx => (grown11 _ (w.heap.size + 1) _ _ _ _ _ _ _ _ _ _ _).block x (by rcases hx with hx | hx; exact (by have := hx.2; omega); exact hx.2) (fun e => by injection e with e; rcases hx with hx | hx; (have := hx.2; omega); (have := hx.1; omega))) (fun x hx => ⟨by rcases hx with hx | hx; exact hx.1; (have := hx.1; omega), by have := (grown11 w2 (w.heap.size + 1) (.int .i64 f0) (.int .i64 f1) (.string f2) (.string f3) (.string f4) (.string f5) (.string f6) (.slice D9 n9 d9) (.slice D10 n10 d10) (.slice D11 n11 d11) (.slice D12 n12 d12)).size; rcases hx with hx | hx; (have := hx.2; omega); (have := hx.2; omega)⟩)) (below11 HD2.out.bel (Nat.le_succ _) _ _ _ _ _ _ _ _ _ _ _))

set_option maxRecDepth 100000 in
set_option maxHeartbeats 2000000 in
theorem n_at56 (rec : List ByteArray → Option (List BkT)) (d : Nat) (hd : d ≤ 15) (zs : List ByteArray) (A : Option Addr) (c i B : Nat) (MM : Int) (m : MkL) (A9 : Option Addr) (c9 : Nat) (A10 : Option Addr) (c10 : Nat) (w : World) (hL : LinesAt w A zs MM) (hi : i < zs.length) (hc : zs.length ≤ c) (hcm : c ≤ maxLen) (hB : B ≤ w.heap.size) (ha : AttR w (Rg B w) m.att A9 A10) (hk : m.kind = 5 ∨ m.kind = 6) (hR : d + 1 ≤ 15 → RecP rec (d + 2) MM) (hok : MkOk m) :
    Calls Tryz.prog 39 #[.slice A zs.length c, .int .i64 i, .agg (m.cells (.slice A9 m.att.cl.length c9) (.slice A10 m.att.pr.length c10)), .int .i64 d] w (BkPost B (if decide (d + 1 ≤ 15) = true then (itemsT rec zs i m).map (fun r => (listB m r.1, r.2)) else none) w) := by
  have hlen := hL.len
  have HLi := Lib.hid hL
  have HA := Lib.hid ha
  have HS := Lib.hid (dw_start w (m.cells (.slice A9 m.att.cl.length c9) (.slice A10 m.att.pr.length c10)))
  obtain ⟨PR, hPR⟩ : ∃ PR, PR = if decide (d + 1 ≤ 15) = true then (itemsT rec zs i m).map (fun r => (listB m r.1, r.2)) else none := ⟨_, rfl⟩
  rw [← hPR]
  have HQ : Hid (∀ W, LinesAt W A zs MM → DW w #[.int .i64 m.kind, .int .i64 m.n, .string m.ch, .int .i64 m.off, .string m.info, .string m.rest, .string m.dest, .string m.title, .string m.att.id, .slice A9 m.att.cl.length c9, .slice A10 m.att.pr.length c10] W → Calls Tryz.prog 76 #[.slice A zs.length c, .int .i64 i, .agg #[.int .i64 m.kind, .int .i64 m.n, .string m.ch, .int .i64 m.off, .string m.info, .string m.rest, .string m.dest, .string m.title, .string m.att.id, .slice A9 m.att.cl.length c9, .slice A10 m.att.pr.length c10], .int .i64 d] W (BkPost W.heap.size PR W)) := Lib.hid fun W hLW hDW => by
    rw [hPR]; exact n_list rec d hd zs A c i W.heap.size MM m A9 m.att.cl.length c9 A10 m.att.pr.length c10 W hR hLW hi hc hcm (Nat.le_refl _) hok hk
  clear hR
  have z2 : (((m.kind : Nat) : Int) == 2) = false := kF (by omega)
  have z3 : (((m.kind : Nat) : Int) == 3) = false := kF (by omega)
  have z11 : (((m.kind : Nat) : Int) == 11) = false := kF (by omega)
  have z4 : (((m.kind : Nat) : Int) == 4) = false := kF (by omega)
  have z7 : (((m.kind : Nat) : Int) == 7) = false := kF (by omega)
  have z8 : (((m.kind : Nat) : Int) == 8) = false := kF (by omega)
  have z9 : (((m.kind : Nat) : Int) == 9) = false := kF (by omega)
  have z10 : (((m.kind : Nat) : Int) == 10) = false := kF (by omega)
  have HPR := Lib.hid hPR
  have HK := Lib.hid hk
  clear hL hk ha hPR
  unfold MkL.cells zbC at HS
  go_enter Tryz.func39, Tryz.ntmps39
  unfold MkL.cells
  go_upto_region 1 with fail
  generalize hW : (w.alloc _).alloc _ = W0
  have HD : Hid (DW w #[.int .i64 m.kind, .int .i64 m.n, .string m.ch, .int .i64 m.off, .string m.info, .string m.rest, .string m.dest, .string m.title, .string m.att.id, .slice A9 m.att.cl.length c9, .slice A10 m.att.pr.length c10] W0) := Lib.hid (by rw [← hW]; exact HS.out)
  clear hW HS
  have HL0 := Lib.hid (HLi.out.below HD.out.bel)
  have hw0 := HD.out.bel.size
  have hw1 := HD.out.res.lt
  obtain ⟨p0, p1, p2, p3, p4, p5, p6, p7, p8, p9, p10, x0, x1, x2, x3, x4, x5, x6, x7, x8, x9, x10⟩ := mk_facts HD.out.mrk
  clear x0 x1 x2 x3 x4 x5 x6 x7 x8 x9 x10
  rcases HK.out with h5 | h6
  · have z5 : (((m.kind : Nat) : Int) == 5) = true := kT (by omega)
    clear h5
    go_wp2_with fail
    ((with_reducible refine (HQ.out _ HL0.out HD.out).mono ?_))
    rintro e w2 ⟨b2, hp⟩
    have HD2 := Lib.hid (HD.out.next b2)
    have hz2 := b2.size
    obtain ⟨k0, k1, k2, k3, k4, k5, k6, k7, k8, k9, k10, y0, y1, y2, y3, y4, y5, y6, y7, y8, y9, y10⟩ := ZB.facts HD2.out.res
    clear HQ p0 p1 p2 p3 p4 p5 p6 p7 p8 p9 p10
    cases PR with
    | none =>
      obtain ⟨v, u, ⟨i0, i1, s2, s3, s4, s5, s6, A7, n7, c7, A8, n8, c8, D9, n9, d9, D10, n10, d10, rfl⟩, rfl⟩ := hp
      go_wp2_with fail
      exact blockAt_ret (blk11 HD2.out.res _ _ _ _ _ _ _ _ _ _ _) rfl rfl rfl rfl (bk_none rfl ⟨_, _, _, _, _, _, _, _, _, _, _, _, _, _, _, _, _, _, _, rfl⟩ (below11 HD2.out.bel (Nat.le_succ _) _ _ _ _ _ _ _ _ _ _ _))
    | some r =>
      obtain ⟨bk, tq⟩ := r
      obtain ⟨v, rfl, hrep⟩ := hp
      obtain ⟨f0, f1, f2, f3, f4, f5, f6, D9, n9, d9, D10, n10, d10, D11, n11, d11, D12, n12, d12, rfl⟩ := hrep.form
      have HREP := Lib.hid hrep
      clear hrep
      go_wp2_with fail
      have hrep := HREP.out
      exact blockAt_ret (blk11 HD2.out.res _ _ _ _ _ _ _ _ _ _ _) rfl rfl rfl rfl (bk_some rfl (hrep.far (grown11 _ _ _ _ _ _ _ _ _ _ _ _ _) hw1 (by omega)) (below11 HD2.out.bel (Nat.le_succ _) _ _ _ _ _ _ _ _ _ _ _))
  · have z5 : (((m.kind : Nat) : Int) == 5) = false := kF (by omega)
    have z6 : (((m.kind : Nat) : Int) == 6) = true := kT (by omega)
    clear h6
    go_wp2_with fail
    ((with_reducible refine (HQ.out _ HL0.out HD.out).mono ?_))
    rintro e w2 ⟨b2, hp⟩
    have HD2 := Lib.hid (HD.out.next b2)
    have hz2 := b2.size
    obtain ⟨k0, k1, k2, k3, k4, k5, k6, k7, k8, k9, k10, y0, y1, y2, y3, y4, y5, y6, y7, y8, y9, y10⟩ := ZB.facts HD2.out.res
    clear HQ p0 p1 p2 p3 p4 p5 p6 p7 p8 p9 p10
    cases PR with
    | none =>
      obtain ⟨v, u, ⟨i0, i1, s2, s3, s4, s5, s6, A7, n7, c7, A8, n8, c8, D9, n9, d9, D10, n10, d10, rfl⟩, rfl⟩ := hp
      go_wp2_with fail
      exact blockAt_ret (blk11 HD2.out.res _ _ _ _ _ _ _ _ _ _ _) rfl rfl rfl rfl (bk_none rfl ⟨_, _, _, _, _, _, _, _, _, _, _, _, _, _, _, _, _, _, _, rfl⟩ (below11 HD2.out.bel (Nat.le_succ _) _ _ _ _ _ _ _ _ _ _ _))
    | some r =>
      obtain ⟨bk, tq⟩ := r
      obtain ⟨v, rfl, hrep⟩ := hp
      obtain ⟨f0, f1, f2, f3, f4, f5, f6, D9, n9, d9, D10, n10, d10, D11, n11, d11, D12, n12, d12, rfl⟩ := hrep.form
      have HREP := Lib.hid hrep
      clear hrep
      go_wp2_with fail
      have hrep := HREP.out
      exact blockAt_ret (blk11 HD2.out.res _ _ _ _ _ _ _ _ _ _ _) rfl rfl rfl rfl (bk_some rfl (hrep.far (grown11 _ _ _ _ _ _ _ _ _ _ _ _ _) hw1 (by omega)) (below11 HD2.out.bel (Nat.le_succ _) _ _ _ _ _ _ _ _ _ _ _))

set_option maxRecDepth 100000 in
set_option maxHeartbeats 2000000 in
theorem n_at10 (rec : List ByteArray → Option (List BkT)) (d : Nat) (hd : d ≤ 15) (zs : List ByteArray) (A : Option Addr) (c i B : Nat) (MM : Int) (m : MkL) (A9 : Option Addr) (c9 : Nat) (A10 : Option Addr) (c10 : Nat) (w : World) (hL : LinesAt w A zs MM) (hi : i < zs.length) (hc : zs.length ≤ c) (hcm : c ≤ maxLen) (hB : B ≤ w.heap.size) (ha : AttR w (Rg B w) m.att A9 A10) (hk : m.kind = 10) (hR : RecP rec (d + 1) MM) (hok : MkOk m) :
    Calls Tryz.prog 39 #[.slice A zs.length c, .int .i64 i, .agg (m.cells (.slice A9 m.att.cl.length c9) (.slice A10 m.att.pr.length c10)), .int .i64 d] w (BkPost B ((rec (contL zs i m).1).map fun k => (BkT.mk 14 0 m.info ⟨#[]⟩ ⟨#[]⟩ ⟨#[]⟩ emptyA ⟨#[]⟩ k, (contL zs i m).2)) w) := by
  have hlen := hL.len
  have HLi := Lib.hid hL
  have HA := Lib.hid ha
  have HS := Lib.hid (dw_start w (m.cells (.slice A9 m.att.cl.length c9) (.slice A10 m.att.pr.length c10)))
  obtain ⟨PR, hPR⟩ : ∃ PR, PR = (rec (contL zs i m).1).map fun k => (BkT.mk 14 0 m.info ⟨#[]⟩ ⟨#[]⟩ ⟨#[]⟩ emptyA ⟨#[]⟩ k, (contL zs i m).2) := ⟨_, rfl⟩
  rw [← hPR]
  have HC : Hid (∀ W, LinesAt W A zs MM → Calls Tryz.prog 75 #[.slice A zs.length c, .int .i64 i, .agg #[.int .i64 m.kind, .int .i64 m.n, .string m.ch, .int .i64 m.off, .string m.info, .string m.rest, .string m.dest, .string m.title, .string m.att.id, .slice A9 m.att.cl.length c9, .slice A10 m.att.pr.length c10]] W (ContPost (contL zs i m) MM W)) := Lib.hid fun W hLW => n_content zs A c i MM m A9 m.att.cl.length c9 A10 m.att.pr.length c10 W hLW hi hc hcm hok.off hok.rest
  unfold ContPost at HC
  have HRec := Lib.hid hR
  have HDD := Lib.hid (show (d : Int) + 1 = ((d + 1 : Nat) : Int) by omega)
  clear hR
  have HPR := Lib.hid hPR
  have z2 : (((m.kind : Nat) : Int) == 2) = false := kF (by omega)
  have z3 : (((m.kind : Nat) : Int) == 3) = false := kF (by omega)
  have z11 : (((m.kind : Nat) : Int) == 11) = false := kF (by omega)
  have z4 : (((m.kind : Nat) : Int) == 4) = false := kF (by omega)
  have z7 : (((m.kind : Nat) : Int) == 7) = false := kF (by omega)
  have z8 : (((m.kind : Nat) : Int) == 8) = false := kF (by omega)
  have z9 : (((m.kind : Nat) : Int) == 9) = false := kF (by omega)
  have z10 : (((m.kind : Nat) : Int) == 10) = true := kT (by omega)
  have HK := Lib.hid hk
  clear hL hk ha hPR
  unfold MkL.cells zbC at HS
  go_enter Tryz.func39, Tryz.ntmps39
  unfold MkL.cells
  go_upto_region 1 with fail
  generalize hW : (w.alloc _).alloc _ = W0
  have HD : Hid (DW w #[.int .i64 m.kind, .int .i64 m.n, .string m.ch, .int .i64 m.off, .string m.info, .string m.rest, .string m.dest, .string m.title, .string m.att.id, .slice A9 m.att.cl.length c9, .slice A10 m.att.pr.length c10] W0) := Lib.hid (by rw [← hW]; exact HS.out)
  clear hW HS
  have HL0 := Lib.hid (HLi.out.below HD.out.bel)
  have hw0 := HD.out.bel.size
  have hw1 := HD.out.res.lt
  obtain ⟨p0, p1, p2, p3, p4, p5, p6, p7, p8, p9, p10, x0, x1, x2, x3, x4, x5, x6, x7, x8, x9, x10⟩ := mk_facts HD.out.mrk
  clear x0 x1 x2 x3 x4 x5 x6 x7 x8 x9 x10
  go_wp2_with fail
  ((with_reducible refine (HC.out _ HL0.out).mono ?_))
  rintro e w1 ⟨⟨A1, c1, rfl, hc1, hc2, hLn⟩, b1⟩
  have HRi := Lib.hid (HRec.out _ A1 c1 w1 hLn hc1 hc2)
  have HD1 := Lib.hid (HD.out.next b1)
  have hw2 := HD1.out.res.lt
  clear HC hLn b1 p0 p1 p2 p3 p4 p5 p6 p7 p8 p9 p10 HRec
  go_wp2_with fail
  rw [HDD.out]
  ((with_reducible refine (HRi.out).mono ?_))
  rintro e w2 ⟨hp, b2⟩
  have HD2 := Lib.hid (HD1.out.next b2)
  have hz2 := b2.size
  obtain ⟨p0, p1, p2, p3, p4, p5, p6, p7, p8, p9, p10, x0, x1, x2, x3, x4, x5, x6, x7, x8, x9, x10⟩ := mk_facts HD2.out.mrk
  obtain ⟨k0, k1, k2, k3, k4, k5, k6, k7, k8, k9, k10, y0, y1, y2, y3, y4, y5, y6, y7, y8, y9, y10⟩ := ZB.facts HD2.out.res
  clear x0 x1 x2 x3 x4 x5 x6 x7 x8 x9 x10 b2 HRi
  cases hrc : rec (contL zs i m).1 with
  | none =>
    have HRc := Lib.hid hrc
    rw [hrc] at hp
    subst hp
    unfold bkErr
    clear hrc
    go_wp2_with fail
    exact blockAt_ret (blk11 HD2.out.res _ _ _ _ _ _ _ _ _ _ _) rfl rfl rfl rfl (bk_none (by rw [HPR.out, HRc.out]; rfl) ⟨_, _, _, _, _, _, _, _, _, _, _, _, _, _, _, _, _, _, _, rfl⟩ (below11 HD2.out.bel (Nat.le_succ _) _ _ _ _ _ _ _ _ _ _ _))
  | some bs =>
    have HRc := Lib.hid hrc
    rw [hrc] at hp
    obtain ⟨A5, c5, A6, n6, c6, rfl, hk⟩ := hp
    have HK5 := Lib.hid hk
    clear hrc hk
    go_wp2_with fail
    exact blockAt_ret (blk11 HD2.out.res _ _ _ _ _ _ _ _ _ _ _) rfl rfl rfl rfl (bk_some (by rw [HPR.out, HRc.out]; rfl) (repB_mk (kind := 14) (level := 0) (att := emptyA) (AttR.empty _ _ _ _) (srcV_none _ _) (HK5.out.far (grown11 _ _ _ _ _ _ _ _ _ _ _ _ _) hw2 (by have := HD1.out.bel.size; omega))) (below11 HD2.out.bel (Nat.le_succ _) _ _ _ _ _ _ _ _ _ _ _))

end Go.Proofs.YtpoafhgbhnblmaaGreatDoor
