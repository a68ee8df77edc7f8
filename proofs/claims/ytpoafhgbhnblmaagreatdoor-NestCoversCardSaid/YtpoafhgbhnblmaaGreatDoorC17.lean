/-
  Texts of the proof, put together (what this law reaches): NsVA, NsVB.
-/
import Derived.Test.YtpoafhgbhnblmaaGreatDoorC12
import Derived.Test.YtpoafhgbhnblmaaGreatDoorC13
import Derived.Test.YtpoafhgbhnblmaaGreatDoorC16
set_option linter.unusedVariables false
set_option linter.unusedSimpArgs false
namespace Go.Proofs.YtpoafhgbhnblmaaGreatDoor
open Go.RowKit Go.Pub
theorem RepB.far {w w' : World} {B B' g : Nat} {v : Array Value} {b : BkT} (h : RepB w (Rg B w) v b) (hg : w.grownBy w' (some g)) (hlt : g < B) (hB : B' ≤ B) : RepB w' (Rg B' w') v b :=
  h.keep (fun x hx => hg.block x hx.2 fun e => by injection e with e; have := hx.1; omega) fun x hx => ⟨by have := hx.1; omega, Nat.lt_of_lt_of_le hx.2 hg.size⟩
set_option maxRecDepth 100000 in
set_option maxHeartbeats 2000000 in
theorem n_at3 (d : Nat) (hd : d ≤ 15) (zs : List ByteArray) (A : Option Addr) (c i B : Nat) (MM : Int) (m : MkL) (A9 : Option Addr) (c9 : Nat) (A10 : Option Addr) (c10 : Nat) (w : World) (hL : LinesAt w A zs MM) (hi : i < zs.length) (hc : zs.length ≤ c) (hcm : c ≤ maxLen) (hB : B ≤ w.heap.size) (ha : AttR w (Rg B w) m.att A9 A10) (hk : m.kind = 3) :
    Calls Tryz.prog 39 #[.slice A zs.length c, .int .i64 i, .agg (m.cells (.slice A9 m.att.cl.length c9) (.slice A10 m.att.pr.length c10)), .int .i64 d] w (BkPost B (some (kidB 5 [], i + 1)) w) := by
  have hlen := hL.len
  have HLi := Lib.hid hL
  have HA := Lib.hid ha
  have HS := Lib.hid (dw_start w (m.cells (.slice A9 m.att.cl.length c9) (.slice A10 m.att.pr.length c10)))
  obtain ⟨PR, hPR⟩ : ∃ PR, PR = some (kidB 5 [], i + 1) := ⟨_, rfl⟩
  rw [← hPR]
  have HPR := Lib.hid hPR
  have z2 : (((m.kind : Nat) : Int) == 2) = false := by rw [beq_eq_false_iff_ne]; omega
  have z3 : (((m.kind : Nat) : Int) == 3) = true := by rw [beq_iff_eq]; omega
  have HK := Lib.hid hk
  clear hL hk ha hPR
  unfold MkL.cells zbC at HS
  go_enter Tryz.func39, Tryz.ntmps39
  unfold MkL.cells
  go_upto_region 1 with fail
  generalize hW : (w.alloc _).alloc _ = W0
  have HD : Hid (DW w #[.int .i64 m.kind, .int .i64 m.n, .string m.ch, .int .i64 m.off, .string m.info, .string m.rest, .string m.dest, .string m.title, .string m.att.id, .slice A9 m.att.cl.length c9, .slice A10 m.att.pr.length c10] W0) := Lib.hid (by rw [← hW]; exact HS.out)
  clear hW HS
  have HL0 := Lib.hid (HLi.out.below HD.out.bel)
  have hw0 := HD.out.bel.size
  have hw1 := HD.out.res.lt
  obtain ⟨p0, p1, p2, p3, p4, p5, p6, p7, p8, p9, p10, x0, x1, x2, x3, x4, x5, x6, x7, x8, x9, x10⟩ := mk_facts HD.out.mrk
  clear x0 x1 x2 x3 x4 x5 x6 x7 x8 x9 x10
  obtain ⟨k0, k1, k2, k3, k4, k5, k6, k7, k8, k9, k10, y0, y1, y2, y3, y4, y5, y6, y7, y8, y9, y10⟩ := ZB.facts HD.out.res
  go_wp2_with fail
  rw [HPR.out]
  exact blockAt_ret (blk11 HD.out.res _ _ _ _ _ _ _ _ _ _ _) rfl rfl rfl rfl (bk_some rfl (repB_mk (kind := 5) (level := 0) (att := emptyA) (AttR.empty _ _ _ _) (srcV_none _ _) (KidsV.none_ _ _)) (below11 HD.out.bel (Nat.le_succ _) _ _ _ _ _ _ _ _ _ _ _))

set_option maxRecDepth 100000 in
set_option maxHeartbeats 2000000 in
theorem n_at11 (d : Nat) (hd : d ≤ 15) (zs : List ByteArray) (A : Option Addr) (c i B : Nat) (MM : Int) (m : MkL) (A9 : Option Addr) (c9 : Nat) (A10 : Option Addr) (c10 : Nat) (w : World) (hL : LinesAt w A zs MM) (hi : i < zs.length) (hc : zs.length ≤ c) (hcm : c ≤ maxLen) (hB : B ≤ w.heap.size) (ha : AttR w (Rg B w) m.att A9 A10) (hk : m.kind = 11) :
    Calls Tryz.prog 39 #[.slice A zs.length c, .int .i64 i, .agg (m.cells (.slice A9 m.att.cl.length c9) (.slice A10 m.att.pr.length c10)), .int .i64 d] w (BkPost B (some (BkT.mk 15 0 m.info ⟨#[]⟩ m.dest m.title emptyA ⟨#[]⟩ [], i + 1)) w) := by
  have hlen := hL.len
  have HLi := Lib.hid hL
  have HA := Lib.hid ha
  have HS := Lib.hid (dw_start w (m.cells (.slice A9 m.att.cl.length c9) (.slice A10 m.att.pr.length c10)))
  obtain ⟨PR, hPR⟩ : ∃ PR, PR = some (BkT.mk 15 0 m.info ⟨#[]⟩ m.dest m.title emptyA ⟨#[]⟩ [], i + 1) := ⟨_, rfl⟩
  rw [← hPR]
  have HPR := Lib.hid hPR
  have z2 : (((m.kind : Nat) : Int) == 2) = false := by rw [beq_eq_false_iff_ne]; omega
  have z3 : (((m.kind : Nat) : Int) == 3) = false := by rw [beq_eq_false_iff_ne]; omega
  have z11 : (((m.kind : Nat) : Int) == 11) = true := by rw [beq_iff_eq]; omega
  have HK := Lib.hid hk
  clear hL hk ha hPR
  unfold MkL.cells zbC at HS
  go_enter Tryz.func39, Tryz.ntmps39
  unfold MkL.cells
  go_upto_region 1 with fail
  generalize hW : (w.alloc _).alloc _ = W0
  have HD : Hid (DW w #[.int .i64 m.kind, .int .i64 m.n, .string m.ch, .int .i64 m.off, .string m.info, .string m.rest, .string m.dest, .string m.title, .string m.att.id, .slice A9 m.att.cl.length c9, .slice A10 m.att.pr.length c10] W0) := Lib.hid (by rw [← hW]; exact HS.out)
  clear hW HS
  have HL0 := Lib.hid (HLi.out.below HD.out.bel)
  have hw0 := HD.out.bel.size
  have hw1 := HD.out.res.lt
  obtain ⟨p0, p1, p2, p3, p4, p5, p6, p7, p8, p9, p10, x0, x1, x2, x3, x4, x5, x6, x7, x8, x9, x10⟩ := mk_facts HD.out.mrk
  clear x0 x1 x2 x3 x4 x5 x6 x7 x8 x9 x10
  obtain ⟨k0, k1, k2, k3, k4, k5, k6, k7, k8, k9, k10, y0, y1, y2, y3, y4, y5, y6, y7, y8, y9, y10⟩ := ZB.facts HD.out.res
  go_wp2_with fail
  rw [HPR.out]
  exact blockAt_ret (blk11 HD.out.res _ _ _ _ _ _ _ _ _ _ _) rfl rfl rfl rfl (bk_some rfl (repB_mk (kind := 15) (level := 0) (att := emptyA) (AttR.empty _ _ _ _) (srcV_none _ _) (KidsV.none_ _ _)) (below11 HD.out.bel (Nat.le_succ _) _ _ _ _ _ _ _ _ _ _ _))

set_option maxRecDepth 100000 in
set_option maxHeartbeats 2000000 in
theorem n_at4 (rec : List ByteArray → Option (List BkT)) (d : Nat) (hd : d ≤ 15) (zs : List ByteArray) (A : Option Addr) (c i B : Nat) (MM : Int) (m : MkL) (A9 : Option Addr) (c9 : Nat) (A10 : Option Addr) (c10 : Nat) (w : World) (hL : LinesAt w A zs MM) (hi : i < zs.length) (hc : zs.length ≤ c) (hcm : c ≤ maxLen) (hB : B ≤ w.heap.size) (ha : AttR w (Rg B w) m.att A9 A10) (hk : m.kind = 4) (hR : RecP rec (d + 1) MM) :
    Calls Tryz.prog 39 #[.slice A zs.length c, .int .i64 i, .agg (m.cells (.slice A9 m.att.cl.length c9) (.slice A10 m.att.pr.length c10)), .int .i64 d] w (BkPost B ((rec (quoteIn zs i)).map fun k => (kidB 6 k, quoteTo zs i)) w) := by
  have hlen := hL.len
  have HLi := Lib.hid hL
  have HA := Lib.hid ha
  have HS := Lib.hid (dw_start w (m.cells (.slice A9 m.att.cl.length c9) (.slice A10 m.att.pr.length c10)))
  obtain ⟨PR, hPR⟩ : ∃ PR, PR = (rec (quoteIn zs i)).map fun k => (kidB 6 k, quoteTo zs i) := ⟨_, rfl⟩
  rw [← hPR]
  have HQ : Hid (∀ W, LinesAt W A zs MM → DW w #[.int .i64 m.kind, .int .i64 m.n, .string m.ch, .int .i64 m.off, .string m.info, .string m.rest, .string m.dest, .string m.title, .string m.att.id, .slice A9 m.att.cl.length c9, .slice A10 m.att.pr.length c10] W → Calls Tryz.prog 70 #[.slice A zs.length c, .int .i64 i, .int .i64 d] W (BkPost W.heap.size PR W)) := Lib.hid fun W hLW hDW => by
    rw [hPR]; exact n_quote rec d hd zs A c i W.heap.size MM W hR hLW hi (Nat.le_refl _)
  clear hR
  have HPR := Lib.hid hPR
  have z2 : (((m.kind : Nat) : Int) == 2) = false := by rw [beq_eq_false_iff_ne]; omega
  have z3 : (((m.kind : Nat) : Int) == 3) = false := by rw [beq_eq_false_iff_ne]; omega
  have z11 : (((m.kind : Nat) : Int) == 11) = false := by rw [beq_eq_false_iff_ne]; omega
  have z4 : (((m.kind : Nat) : Int) == 4) = true := by rw [beq_iff_eq]; omega
  have HK := Lib.hid hk
  clear hL hk ha hPR
  unfold MkL.cells zbC at HS
  go_enter Tryz.func39, Tryz.ntmps39
  unfold MkL.cells
  go_upto_region 1 with fail
  generalize hW : (w.alloc _).alloc _ = W0
  have HD : Hid (DW w #[.int .i64 m.kind, .int .i64 m.n, .string m.ch, .int .i64 m.off, .string m.info, .string m.rest, .string m.dest, .string m.title, .string m.att.id, .slice A9 m.att.cl.length c9, .slice A10 m.att.pr.length c10] W0) := Lib.hid (by rw [← hW]; exact HS.out)
  clear hW HS
  have HL0 := Lib.hid (HLi.out.below HD.out.bel)
  have hw0 := HD.out.bel.size
  have hw1 := HD.out.res.lt
  obtain ⟨p0, p1, p2, p3, p4, p5, p6, p7, p8, p9, p10, x0, x1, x2, x3, x4, x5, x6, x7, x8, x9, x10⟩ := mk_facts HD.out.mrk
  clear x0 x1 x2 x3 x4 x5 x6 x7 x8 x9 x10
  go_wp2_with fail
  ((with_reducible refine (HQ.out _ HL0.out HD.out).mono ?_))
  rintro e w2 ⟨b2, hp⟩
  have HD2 := Lib.hid (HD.out.next b2)
  have hz2 := b2.size
  obtain ⟨k0, k1, k2, k3, k4, k5, k6, k7, k8, k9, k10, y0, y1, y2, y3, y4, y5, y6, y7, y8, y9, y10⟩ := ZB.facts HD2.out.res
  clear HQ p0 p1 p2 p3 p4 p5 p6 p7 p8 p9 p10
  cases PR with
  | none =>
    obtain ⟨v, u, ⟨i0, i1, s2, s3, s4, s5, s6, A7, n7, c7, A8, n8, c8, D9, n9, d9, D10, n10, d10, rfl⟩, rfl⟩ := hp
    go_wp2_with fail
    exact blockAt_ret (blk11 HD2.out.res _ _ _ _ _ _ _ _ _ _ _) rfl rfl rfl rfl (bk_none rfl ⟨_, _, _, _, _, _, _, _, _, _, _, _, _, _, _, _, _, _, _, rfl⟩ (below11 HD2.out.bel (Nat.le_succ _) _ _ _ _ _ _ _ _ _ _ _))
  | some r =>
    obtain ⟨bk, tq⟩ := r
    obtain ⟨v, rfl, hrep⟩ := hp
    obtain ⟨f0, f1, f2, f3, f4, f5, f6, D9, n9, d9, D10, n10, d10, D11, n11, d11, D12, n12, d12, rfl⟩ := hrep.form
    have HREP := Lib.hid hrep
    clear hrep
    go_wp2_with fail
    have hrep := HREP.out
    exact blockAt_ret (blk11 HD2.out.res _ _ _ _ _ _ _ _ _ _ _) rfl rfl rfl rfl (bk_some rfl (hrep.far (grown11 _ _ _ _ _ _ _ _ _ _ _ _ _) hw1 (by omega)) (below11 HD2.out.bel (Nat.le_succ _) _ _ _ _ _ _ _ _ _ _ _))

set_option maxRecDepth 100000 in
set_option maxHeartbeats 2000000 in
theorem n_at7 (d : Nat) (hd : d ≤ 15) (zs : List ByteArray) (A : Option Addr) (c i B : Nat) (MM : Int) (m : MkL) (A9 : Option Addr) (c9 : Nat) (A10 : Option Addr) (c10 : Nat) (w : World) (hL : LinesAt w A zs MM) (hi : i < zs.length) (hc : zs.length ≤ c) (hcm : c ≤ maxLen) (hB : B ≤ w.heap.size) (ha : AttR w (Rg B w) m.att A9 A10) (hk : m.kind = 7) (ho : m.off ≤ 1000000) :
    Calls Tryz.prog 39 #[.slice A zs.length c, .int .i64 i, .agg (m.cells (.slice A9 m.att.cl.length c9) (.slice A10 m.att.pr.length c10)), .int .i64 d] w (BkPost B (some (BkT.mk 3 0 m.info (mk (joinN ((cutL zs (i + 1) (closeI zs m (i + 1))).map fun z => stripB z m.off))) ⟨#[]⟩ ⟨#[]⟩ emptyA ⟨#[]⟩ [], min (closeI zs m (i + 1) + 1) zs.length)) w) := by
  have hlen := hL.len
  have HLi := Lib.hid hL
  have HA := Lib.hid ha
  have HS := Lib.hid (dw_start w (m.cells (.slice A9 m.att.cl.length c9) (.slice A10 m.att.pr.length c10)))
  obtain ⟨PR, hPR⟩ : ∃ PR, PR = some (BkT.mk 3 0 m.info (mk (joinN ((cutL zs (i + 1) (closeI zs m (i + 1))).map fun z => stripB z m.off))) ⟨#[]⟩ ⟨#[]⟩ emptyA ⟨#[]⟩ [], min (closeI zs m (i + 1) + 1) zs.length) := ⟨_, rfl⟩
  rw [← hPR]
  have HQ : Hid (∀ W, LinesAt W A zs MM → DW w #[.int .i64 m.kind, .int .i64 m.n, .string m.ch, .int .i64 m.off, .string m.info, .string m.rest, .string m.dest, .string m.title, .string m.att.id, .slice A9 m.att.cl.length c9, .slice A10 m.att.pr.length c10] W → Calls Tryz.prog 71 #[.slice A zs.length c, .int .i64 i, .agg #[.int .i64 m.kind, .int .i64 m.n, .string m.ch, .int .i64 m.off, .string m.info, .string m.rest, .string m.dest, .string m.title, .string m.att.id, .slice A9 m.att.cl.length c9, .slice A10 m.att.pr.length c10]] W (BkPost W.heap.size PR W)) := Lib.hid fun W hLW hDW => by
    rw [hPR]; exact n_fence zs A c i W.heap.size MM m A9 c9 A10 c10 W hLW hi hc hcm (Nat.le_refl _) ho
  have HPR := Lib.hid hPR
  have z2 : (((m.kind : Nat) : Int) == 2) = false := by rw [beq_eq_false_iff_ne]; omega
  have z3 : (((m.kind : Nat) : Int) == 3) = false := by rw [beq_eq_false_iff_ne]; omega
  have z11 : (((m.kind : Nat) : Int) == 11) = false := by rw [beq_eq_false_iff_ne]; omega
  have z4 : (((m.kind : Nat) : Int) == 4) = false := by rw [beq_eq_false_iff_ne]; omega
  have z7 : (((m.kind : Nat) : Int) == 7) = true := by rw [beq_iff_eq]; omega
  have HK := Lib.hid hk
  clear hL hk ha hPR
  unfold MkL.cells zbC at HS
  go_enter Tryz.func39, Tryz.ntmps39
  unfold MkL.cells
  go_upto_region 1 with fail
  generalize hW : (w.alloc _).alloc _ = W0
  have HD : Hid (DW w #[.int .i64 m.kind, .int .i64 m.n, .string m.ch, .int .i64 m.off, .string m.info, .string m.rest, .string m.dest, .string m.title, .string m.att.id, .slice A9 m.att.cl.length c9, .slice A10 m.att.pr.length c10] W0) := Lib.hid (by rw [← hW]; exact HS.out)
  clear hW HS
  have HL0 := Lib.hid (HLi.out.below HD.out.bel)
  have hw0 := HD.out.bel.size
  have hw1 := HD.out.res.lt
  obtain ⟨p0, p1, p2, p3, p4, p5, p6, p7, p8, p9, p10, x0, x1, x2, x3, x4, x5, x6, x7, x8, x9, x10⟩ := mk_facts HD.out.mrk
  clear x0 x1 x2 x3 x4 x5 x6 x7 x8 x9 x10
  go_wp2_with fail
  ((with_reducible refine (HQ.out _ HL0.out HD.out).mono ?_))
  rintro e w2 ⟨b2, hp⟩
  have HD2 := Lib.hid (HD.out.next b2)
  have hz2 := b2.size
  obtain ⟨k0, k1, k2, k3, k4, k5, k6, k7, k8, k9, k10, y0, y1, y2, y3, y4, y5, y6, y7, y8, y9, y10⟩ := ZB.facts HD2.out.res
  clear HQ p0 p1 p2 p3 p4 p5 p6 p7 p8 p9 p10
  cases PR with
  | none =>
    obtain ⟨v, u, ⟨i0, i1, s2, s3, s4, s5, s6, A7, n7, c7, A8, n8, c8, D9, n9, d9, D10, n10, d10, rfl⟩, rfl⟩ := hp
    go_wp2_with fail
    exact blockAt_ret (blk11 HD2.out.res _ _ _ _ _ _ _ _ _ _ _) rfl rfl rfl rfl (bk_none rfl ⟨_, _, _, _, _, _, _, _, _, _, _, _, _, _, _, _, _, _, _, rfl⟩ (below11 HD2.out.bel (Nat.le_succ _) _ _ _ _ _ _ _ _ _ _ _))
  | some r =>
    obtain ⟨bk, tq⟩ := r
    obtain ⟨v, rfl, hrep⟩ := hp
    obtain ⟨f0, f1, f2, f3, f4, f5, f6, D9, n9, d9, D10, n10, d10, D11, n11, d11, D12, n12, d12, rfl⟩ := hrep.form
    have HREP := Lib.hid hrep
    clear hrep
    go_wp2_with fail
    have hrep := HREP.out
    exact blockAt_ret (blk11 HD2.out.res _ _ _ _ _ _ _ _ _ _ _) rfl rfl rfl rfl (bk_some rfl (hrep.far (grown11 _ _ _ _ _ _ _ _ _ _ _ _ _) hw1 (by omega)) (below11 HD2.out.bel (Nat.le_succ _) _ _ _ _ _ _ _ _ _ _ _))

set_option maxRecDepth 100000 in
set_option maxHeartbeats 2000000 in
theorem n_at9 (rec : List ByteArray → Option (List BkT)) (d : Nat) (hd : d ≤ 15) (zs : List ByteArray) (A : Option Addr) (c i B : Nat) (MM : Int) (m : MkL) (A9 : Option Addr) (c9 : Nat) (A10 : Option Addr) (c10 : Nat) (w : World) (hL : LinesAt w A zs MM) (hi : i < zs.length) (hc : zs.length ≤ c) (hcm : c ≤ maxLen) (hB : B ≤ w.heap.size) (ha : AttR w (Rg B w) m.att A9 A10) (hk : m.kind = 9) (hR : RecP rec (d + 1) MM) :
    Calls Tryz.prog 39 #[.slice A zs.length c, .int .i64 i, .agg (m.cells (.slice A9 m.att.cl.length c9) (.slice A10 m.att.pr.length c10)), .int .i64 d] w (BkPost B ((rec (cutL zs (i + 1) (closeI zs m (i + 1)))).map fun k => (BkT.mk 13 0 m.info ⟨#[]⟩ ⟨#[]⟩ ⟨#[]⟩ m.att ⟨#[]⟩ k, min (closeI zs m (i + 1) + 1) zs.length)) w) := by
  have hlen := hL.len
  have HLi := Lib.hid hL
  have HA := Lib.hid ha
  have HS := Lib.hid (dw_start w (m.cells (.slice A9 m.att.cl.length c9) (.slice A10 m.att.pr.length c10)))
  obtain ⟨PR, hPR⟩ : ∃ PR, PR = (rec (cutL zs (i + 1) (closeI zs m (i + 1)))).map fun k => (BkT.mk 13 0 m.info ⟨#[]⟩ ⟨#[]⟩ ⟨#[]⟩ m.att ⟨#[]⟩ k, min (closeI zs m (i + 1) + 1) zs.length) := ⟨_, rfl⟩
  rw [← hPR]
  have HQ : Hid (∀ W, LinesAt W A zs MM → DW w #[.int .i64 m.kind, .int .i64 m.n, .string m.ch, .int .i64 m.off, .string m.info, .string m.rest, .string m.dest, .string m.title, .string m.att.id, .slice A9 m.att.cl.length c9, .slice A10 m.att.pr.length c10] W → Calls Tryz.prog 74 #[.slice A zs.length c, .int .i64 i, .agg #[.int .i64 m.kind, .int .i64 m.n, .string m.ch, .int .i64 m.off, .string m.info, .string m.rest, .string m.dest, .string m.title, .string m.att.id, .slice A9 m.att.cl.length c9, .slice A10 m.att.pr.length c10], .int .i64 d] W (BkPostS (fun w' g => Rg B w g ∨ Rg W.heap.size w' g) PR W)) := Lib.hid fun W hLW hDW => by
    rw [hPR]; exact n_div2 rec d hd zs A c i MM m A9 c9 A10 c10 W hR hLW hi hc hcm (Rg B w) (fun g h => Nat.lt_of_lt_of_le h.2 hDW.bel.size) (ha.keep (fun g h => hDW.bel.block g h.2) fun g h => h)
  clear hR
  have HPR := Lib.hid hPR
  have z2 : (((m.kind : Nat) : Int) == 2) = false := by rw [beq_eq_false_iff_ne]; omega
  have z3 : (((m.kind : Nat) : Int) == 3) = false := by rw [beq_eq_false_iff_ne]; omega
  have z11 : (((m.kind : Nat) : Int) == 11) = false := by rw [beq_eq_false_iff_ne]; omega
  have z4 : (((m.kind : Nat) : Int) == 4) = false := by rw [beq_eq_false_iff_ne]; omega
  have z7 : (((m.kind : Nat) : Int) == 7) = false := by rw [beq_eq_false_iff_ne]; omega
  have z8 : (((m.kind : Nat) : Int) == 8) = false := by rw [beq_eq_false_iff_ne]; omega
  have z9 : (((m.kind : Nat) : Int) == 9) = true := by rw [beq_iff_eq]; omega
  have HK := Lib.hid hk
  clear hL hk ha hPR
  unfold MkL.cells zbC at HS
  go_enter Tryz.func39, Tryz.ntmps39
  unfold MkL.cells
  go_upto_region 1 with fail
  generalize hW : (w.alloc _).alloc _ = W0
  have HD : Hid (DW w #[.int .i64 m.kind, .int .i64 m.n, .string m.ch, .int .i64 m.off, .string m.info, .string m.rest, .string m.dest, .string m.title, .string m.att.id, .slice A9 m.att.cl.length c9, .slice A10 m.att.pr.length c10] W0) := Lib.hid (by rw [← hW]; exact HS.out)
  clear hW HS
  have HL0 := Lib.hid (HLi.out.below HD.out.bel)
  have hw0 := HD.out.bel.size
  have hw1 := HD.out.res.lt
  obtain ⟨p0, p1, p2, p3, p4, p5, p6, p7, p8, p9, p10, x0, x1, x2, x3, x4, x5, x6, x7, x8, x9, x10⟩ := mk_facts HD.out.mrk
  clear x0 x1 x2 x3 x4 x5 x6 x7 x8 x9 x10
  go_wp2_with fail
  ((with_reducible refine (HQ.out _ HL0.out HD.out).mono ?_))
  rintro e w2 ⟨b2, hp⟩
  have HD2 := Lib.hid (HD.out.next b2)
  have hz2 := b2.size
  obtain ⟨k0, k1, k2, k3, k4, k5, k6, k7, k8, k9, k10, y0, y1, y2, y3, y4, y5, y6, y7, y8, y9, y10⟩ := ZB.facts HD2.out.res
  clear HQ p0 p1 p2 p3 p4 p5 p6 p7 p8 p9 p10
  cases PR with
  | none =>
    obtain ⟨v, u, ⟨i0, i1, s2, s3, s4, s5, s6, A7, n7, c7, A8, n8, c8, D9, n9, d9, D10, n10, d10, rfl⟩, rfl⟩ := hp
    go_wp2_with fail
    exact blockAt_ret (blk11 HD2.out.res _ _ _ _ _ _ _ _ _ _ _) rfl rfl rfl rfl (bk_none rfl ⟨_, _, _, _, _, _, _, _, _, _, _, _, _, _, _, _, _, _, _, rfl⟩ (below11 HD2.out.bel (Nat.le_succ _) _ _ _ _ _ _ _ _ _ _ _))
  | some r =>
    obtain ⟨bk, tq⟩ := r
    obtain ⟨v, rfl, hrep⟩ := hp
    obtain ⟨f0, f1, f2, f3, f4, f5, f6, D9, n9, d9, D10, n10, d10, D11, n11, d11, D12, n12, d12, rfl⟩ := hrep.form
    have HREP := Lib.hid hrep
    clear hrep
    go_wp2_with fail
    have hrep := HREP.out
    exact blockAt_ret (blk11 HD2.out.res _ _ _ _ _ _ _ _ _ _ _) rfl rfl rfl rfl (bk_some rfl (hrep.keep (fun x hx => (grown11 _ (w.heap.size + 1) _ _ _ _ _ _ _ _ _ _ _).block x (by rcases hx with hx | hx; exact (by have := hx.2; omega); exact hx.2) (fun e => by injection e with e; rcases hx with hx | hx; (have := hx.2; omega); (have := hx.1; omega))) (fun x hx => ⟨by rcases hx with hx | hx; exact hx.1; (have := hx.1; omega), by have := (grown11 w2 (w.heap.size + 1) (.int .i64 f0) (.int .i64 f1) (.string f2) (.string f3) (.string f4) (.string f5) (.string f6) (.slice D9 n9 d9) (.slice D10 n10 d10) (.slice D11 n11 d11) (.slice D12 n12 d12)).size; rcases hx with hx | hx; (have := hx.2; omega); (have := hx.2; omega)⟩)) (below11 HD2.out.bel (Nat.le_succ _) _ _ _ _ _ _ _ _ _ _ _))

set_option maxRecDepth 100000 in
set_option maxHeartbeats 2000000 in
theorem n_at56 (rec : List ByteArray → Option (List BkT)) (d : Nat) (hd : d ≤ 15) (zs : List ByteArray) (A : Option Addr) (c i B : Nat) (MM : Int) (m : MkL) (A9 : Option Addr) (c9 : Nat) (A10 : Option Addr) (c10 : Nat) (w : World) (hL : LinesAt w A zs MM) (hi : i < zs.length) (hc : zs.length ≤ c) (hcm : c ≤ maxLen) (hB : B ≤ w.heap.size) (ha : AttR w (Rg B w) m.att A9 A10) (hk : m.kind = 5 ∨ m.kind = 6) (hR : d + 1 ≤ 15 → RecP rec (d + 2) MM) (hok : MkOk m) :
    Calls Tryz.prog 39 #[.slice A zs.length c, .int .i64 i, .agg (m.cells (.slice A9 m.att.cl.length c9) (.slice A10 m.att.pr.length c10)), .int .i64 d] w (BkPost B (if decide (d + 1 ≤ 15) = true then (itemsT rec zs i m).map (fun r => (listB m r.1, r.2)) else none) w) := by
  have hlen := hL.len
  have HLi := Lib.hid hL
  have HA := Lib.hid ha
  have HS := Lib.hid (dw_start w (m.cells (.slice A9 m.att.cl.length c9) (.slice A10 m.att.pr.length c10)))
  obtain ⟨PR, hPR⟩ : ∃ PR, PR = if decide (d + 1 ≤ 15) = true then (itemsT rec zs i m).map (fun r => (listB m r.1, r.2)) else none := ⟨_, rfl⟩
  rw [← hPR]
  have HQ : Hid (∀ W, LinesAt W A zs MM → DW w #[.int .i64 m.kind, .int .i64 m.n, .string m.ch, .int .i64 m.off, .string m.info, .string m.rest, .string m.dest, .string m.title, .string m.att.id, .slice A9 m.att.cl.length c9, .slice A10 m.att.pr.length c10] W → Calls Tryz.prog 76 #[.slice A zs.length c, .int .i64 i, .agg #[.int .i64 m.kind, .int .i64 m.n, .string m.ch, .int .i64 m.off, .string m.info, .string m.rest, .string m.dest, .string m.title, .string m.att.id, .slice A9 m.att.cl.length c9, .slice A10 m.att.pr.length c10], .int .i64 d] W (BkPost W.heap.size PR W)) := Lib.hid fun W hLW hDW => by
    rw [hPR]; exact n_list rec d hd zs A c i W.heap.size MM m A9 m.att.cl.length c9 A10 m.att.pr.length c10 W hR hLW hi hc hcm (Nat.le_refl _) hok hk
  clear hR
  have z2 : (((m.kind : Nat) : Int) == 2) = false := by rw [beq_eq_false_iff_ne]; omega
  have z3 : (((m.kind : Nat) : Int) == 3) = false := by rw [beq_eq_false_iff_ne]; omega
  have z11 : (((m.kind : Nat) : Int) == 11) = false := by rw [beq_eq_false_iff_ne]; omega
  have z4 : (((m.kind : Nat) : Int) == 4) = false := by rw [beq_eq_false_iff_ne]; omega
  have z7 : (((m.kind : Nat) : Int) == 7) = false := by rw [beq_eq_false_iff_ne]; omega
  have z8 : (((m.kind : Nat) : Int) == 8) = false := by rw [beq_eq_false_iff_ne]; omega
  have z9 : (((m.kind : Nat) : Int) == 9) = false := by rw [beq_eq_false_iff_ne]; omega
  have z10 : (((m.kind : Nat) : Int) == 10) = false := by rw [beq_eq_false_iff_ne]; omega
  have HPR := Lib.hid hPR
  have HK := Lib.hid hk
  clear hL hk ha hPR
  unfold MkL.cells zbC at HS
  go_enter Tryz.func39, Tryz.ntmps39
  unfold MkL.cells
  go_upto_region 1 with fail
  generalize hW : (w.alloc _).alloc _ = W0
  have HD : Hid (DW w #[.int .i64 m.kind, .int .i64 m.n, .string m.ch, .int .i64 m.off, .string m.info, .string m.rest, .string m.dest, .string m.title, .string m.att.id, .slice A9 m.att.cl.length c9, .slice A10 m.att.pr.length c10] W0) := Lib.hid (by rw [← hW]; exact HS.out)
  clear hW HS
  have HL0 := Lib.hid (HLi.out.below HD.out.bel)
  have hw0 := HD.out.bel.size
  have hw1 := HD.out.res.lt
  obtain ⟨p0, p1, p2, p3, p4, p5, p6, p7, p8, p9, p10, x0, x1, x2, x3, x4, x5, x6, x7, x8, x9, x10⟩ := mk_facts HD.out.mrk
  clear x0 x1 x2 x3 x4 x5 x6 x7 x8 x9 x10
  rcases HK.out with h5 | h6
  · have z5 : (((m.kind : Nat) : Int) == 5) = true := by rw [beq_iff_eq]; omega
    clear h5
    go_wp2_with fail
    ((with_reducible refine (HQ.out _ HL0.out HD.out).mono ?_))
    rintro e w2 ⟨b2, hp⟩
    have HD2 := Lib.hid (HD.out.next b2)
    have hz2 := b2.size
    obtain ⟨k0, k1, k2, k3, k4, k5, k6, k7, k8, k9, k10, y0, y1, y2, y3, y4, y5, y6, y7, y8, y9, y10⟩ := ZB.facts HD2.out.res
    clear HQ p0 p1 p2 p3 p4 p5 p6 p7 p8 p9 p10
    cases PR with
    | none =>
      obtain ⟨v, u, ⟨i0, i1, s2, s3, s4, s5, s6, A7, n7, c7, A8, n8, c8, D9, n9, d9, D10, n10, d10, rfl⟩, rfl⟩ := hp
      go_wp2_with fail
      exact blockAt_ret (blk11 HD2.out.res _ _ _ _ _ _ _ _ _ _ _) rfl rfl rfl rfl (bk_none rfl ⟨_, _, _, _, _, _, _, _, _, _, _, _, _, _, _, _, _, _, _, rfl⟩ (below11 HD2.out.bel (Nat.le_succ _) _ _ _ _ _ _ _ _ _ _ _))
    | some r =>
      obtain ⟨bk, tq⟩ := r
      obtain ⟨v, rfl, hrep⟩ := hp
      obtain ⟨f0, f1, f2, f3, f4, f5, f6, D9, n9, d9, D10, n10, d10, D11, n11, d11, D12, n12, d12, rfl⟩ := hrep.form
      have HREP := Lib.hid hrep
      clear hrep
      go_wp2_with fail
      have hrep := HREP.out
      exact blockAt_ret (blk11 HD2.out.res _ _ _ _ _ _ _ _ _ _ _) rfl rfl rfl rfl (bk_some rfl (hrep.far (grown11 _ _ _ _ _ _ _ _ _ _ _ _ _) hw1 (by omega)) (below11 HD2.out.bel (Nat.le_succ _) _ _ _ _ _ _ _ _ _ _ _))
  · have z5 : (((m.kind : Nat) : Int) == 5) = false := by rw [beq_eq_false_iff_ne]; omega
    have z6 : (((m.kind : Nat) : Int) == 6) = true := by rw [beq_iff_eq]; omega
    clear h6
    go_wp2_with fail
    ((with_reducible refine (HQ.out _ HL0.out HD.out).mono ?_))
    rintro e w2 ⟨b2, hp⟩
    have HD2 := Lib.hid (HD.out.next b2)
    have hz2 := b2.size
    obtain ⟨k0, k1, k2, k3, k4, k5, k6, k7, k8, k9, k10, y0, y1, y2, y3, y4, y5, y6, y7, y8, y9, y10⟩ := ZB.facts HD2.out.res
    clear HQ p0 p1 p2 p3 p4 p5 p6 p7 p8 p9 p10
    cases PR with
    | none =>
      obtain ⟨v, u, ⟨i0, i1, s2, s3, s4, s5, s6, A7, n7, c7, A8, n8, c8, D9, n9, d9, D10, n10, d10, rfl⟩, rfl⟩ := hp
      go_wp2_with fail
      exact blockAt_ret (blk11 HD2.out.res _ _ _ _ _ _ _ _ _ _ _) rfl rfl rfl rfl (bk_none rfl ⟨_, _, _, _, _, _, _, _, _, _, _, _, _, _, _, _, _, _, _, rfl⟩ (below11 HD2.out.bel (Nat.le_succ _) _ _ _ _ _ _ _ _ _ _ _))
    | some r =>
      obtain ⟨bk, tq⟩ := r
      obtain ⟨v, rfl, hrep⟩ := hp
      obtain ⟨f0, f1, f2, f3, f4, f5, f6, D9, n9, d9, D10, n10, d10, D11, n11, d11, D12, n12, d12, rfl⟩ := hrep.form
      have HREP := Lib.hid hrep
      clear hrep
      go_wp2_with fail
      have hrep := HREP.out
      exact blockAt_ret (blk11 HD2.out.res _ _ _ _ _ _ _ _ _ _ _) rfl rfl rfl rfl (bk_some rfl (hrep.far (grown11 _ _ _ _ _ _ _ _ _ _ _ _ _) hw1 (by omega)) (below11 HD2.out.bel (Nat.le_succ _) _ _ _ _ _ _ _ _ _ _ _))

set_option maxRecDepth 100000 in
set_option maxHeartbeats 2000000 in
theorem n_at10 (rec : List ByteArray → Option (List BkT)) (d : Nat) (hd : d ≤ 15) (zs : List ByteArray) (A : Option Addr) (c i B : Nat) (MM : Int) (m : MkL) (A9 : Option Addr) (c9 : Nat) (A10 : Option Addr) (c10 : Nat) (w : World) (hL : LinesAt w A zs MM) (hi : i < zs.length) (hc : zs.length ≤ c) (hcm : c ≤ maxLen) (hB : B ≤ w.heap.size) (ha : AttR w (Rg B w) m.att A9 A10) (hk : m.kind = 10) (hR : RecP rec (d + 1) MM) (hok : MkOk m) :
    Calls Tryz.prog 39 #[.slice A zs.length c, .int .i64 i, .agg (m.cells (.slice A9 m.att.cl.length c9) (.slice A10 m.att.pr.length c10)), .int .i64 d] w (BkPost B ((rec (contL zs i m).1).map fun k => (BkT.mk 14 0 m.info ⟨#[]⟩ ⟨#[]⟩ ⟨#[]⟩ emptyA ⟨#[]⟩ k, (contL zs i m).2)) w) := by
  have hlen := hL.len
  have HLi := Lib.hid hL
  have HA := Lib.hid ha
  have HS := Lib.hid (dw_start w (m.cells (.slice A9 m.att.cl.length c9) (.slice A10 m.att.pr.length c10)))
  obtain ⟨PR, hPR⟩ : ∃ PR, PR = (rec (contL zs i m).1).map fun k => (BkT.mk 14 0 m.info ⟨#[]⟩ ⟨#[]⟩ ⟨#[]⟩ emptyA ⟨#[]⟩ k, (contL zs i m).2) := ⟨_, rfl⟩
  rw [← hPR]
  have HC : Hid (∀ W, LinesAt W A zs MM → Calls Tryz.prog 75 #[.slice A zs.length c, .int .i64 i, .agg #[.int .i64 m.kind, .int .i64 m.n, .string m.ch, .int .i64 m.off, .string m.info, .string m.rest, .string m.dest, .string m.title, .string m.att.id, .slice A9 m.att.cl.length c9, .slice A10 m.att.pr.length c10]] W (ContPost (contL zs i m) MM W)) := Lib.hid fun W hLW => n_content zs A c i MM m A9 m.att.cl.length c9 A10 m.att.pr.length c10 W hLW hi hc hcm hok.off hok.rest
  unfold ContPost at HC
  have HRec := Lib.hid hR
  have HDD := Lib.hid (show (d : Int) + 1 = ((d + 1 : Nat) : Int) by omega)
  clear hR
  have HPR := Lib.hid hPR
  have z2 : (((m.kind : Nat) : Int) == 2) = false := by rw [beq_eq_false_iff_ne]; omega
  have z3 : (((m.kind : Nat) : Int) == 3) = false := by rw [beq_eq_false_iff_ne]; omega
  have z11 : (((m.kind : Nat) : Int) == 11) = false := by rw [beq_eq_false_iff_ne]; omega
  have z4 : (((m.kind : Nat) : Int) == 4) = false := by rw [beq_eq_false_iff_ne]; omega
  have z7 : (((m.kind : Nat) : Int) == 7) = false := by rw [beq_eq_false_iff_ne]; omega
  have z8 : (((m.kind : Nat) : Int) == 8) = false := by rw [beq_eq_false_iff_ne]; omega
  have z9 : (((m.kind : Nat) : Int) == 9) = false := by rw [beq_eq_false_iff_ne]; omega
  have z10 : (((m.kind : Nat) : Int) == 10) = true := by rw [beq_iff_eq]; omega
  have HK := Lib.hid hk
  clear hL hk ha hPR
  unfold MkL.cells zbC at HS
  go_enter Tryz.func39, Tryz.ntmps39
  unfold MkL.cells
  go_upto_region 1 with fail
  generalize hW : (w.alloc _).alloc _ = W0
  have HD : Hid (DW w #[.int .i64 m.kind, .int .i64 m.n, .string m.ch, .int .i64 m.off, .string m.info, .string m.rest, .string m.dest, .string m.title, .string m.att.id, .slice A9 m.att.cl.length c9, .slice A10 m.att.pr.length c10] W0) := Lib.hid (by rw [← hW]; exact HS.out)
  clear hW HS
  have HL0 := Lib.hid (HLi.out.below HD.out.bel)
  have hw0 := HD.out.bel.size
  have hw1 := HD.out.res.lt
  obtain ⟨p0, p1, p2, p3, p4, p5, p6, p7, p8, p9, p10, x0, x1, x2, x3, x4, x5, x6, x7, x8, x9, x10⟩ := mk_facts HD.out.mrk
  clear x0 x1 x2 x3 x4 x5 x6 x7 x8 x9 x10
  go_wp2_with fail
  ((with_reducible refine (HC.out _ HL0.out).mono ?_))
  rintro e w1 ⟨⟨A1, c1, rfl, hc1, hc2, hLn⟩, b1⟩
  have HRi := Lib.hid (HRec.out _ A1 c1 w1 hLn hc1 hc2)
  have HD1 := Lib.hid (HD.out.next b1)
  have hw2 := HD1.out.res.lt
  clear HC hLn b1 p0 p1 p2 p3 p4 p5 p6 p7 p8 p9 p10 HRec
  go_wp2_with fail
  rw [HDD.out]
  ((with_reducible refine (HRi.out).mono ?_))
  rintro e w2 ⟨hp, b2⟩
  have HD2 := Lib.hid (HD1.out.next b2)
  have hz2 := b2.size
  obtain ⟨p0, p1, p2, p3, p4, p5, p6, p7, p8, p9, p10, x0, x1, x2, x3, x4, x5, x6, x7, x8, x9, x10⟩ := mk_facts HD2.out.mrk
  obtain ⟨k0, k1, k2, k3, k4, k5, k6, k7, k8, k9, k10, y0, y1, y2, y3, y4, y5, y6, y7, y8, y9, y10⟩ := ZB.facts HD2.out.res
  clear x0 x1 x2 x3 x4 x5 x6 x7 x8 x9 x10 b2 HRi
  cases hrc : rec (contL zs i m).1 with
  | none =>
    have HRc := Lib.hid hrc
    rw [hrc] at hp
    subst hp
    unfold bkErr
    clear hrc
    go_wp2_with fail
    exact blockAt_ret (blk11 HD2.out.res _ _ _ _ _ _ _ _ _ _ _) rfl rfl rfl rfl (bk_none (by rw [HPR.out, HRc.out]; rfl) ⟨_, _, _, _, _, _, _, _, _, _, _, _, _, _, _, _, _, _, _, rfl⟩ (below11 HD2.out.bel (Nat.le_succ _) _ _ _ _ _ _ _ _ _ _ _))
  | some bs =>
    have HRc := Lib.hid hrc
    rw [hrc] at hp
    obtain ⟨A5, c5, A6, n6, c6, rfl, hk⟩ := hp
    have HK5 := Lib.hid hk
    clear hrc hk
    go_wp2_with fail
    exact blockAt_ret (blk11 HD2.out.res _ _ _ _ _ _ _ _ _ _ _) rfl rfl rfl rfl (bk_some (by rw [HPR.out, HRc.out]; rfl) (repB_mk (kind := 14) (level := 0) (att := emptyA) (AttR.empty _ _ _ _) (srcV_none _ _) (HK5.out.far (grown11 _ _ _ _ _ _ _ _ _ _ _ _ _) hw2 (by have := HD1.out.bel.size; omega))) (below11 HD2.out.bel (Nat.le_succ _) _ _ _ _ _ _ _ _ _ _ _))

end Go.Proofs.YtpoafhgbhnblmaaGreatDoor
namespace Go.Proofs.YtpoafhgbhnblmaaGreatDoor
open Go.RowKit Go.Pub
set_option maxRecDepth 100000 in
set_option maxHeartbeats 2000000 in
theorem n_at2 (d : Nat) (hd : d ≤ 15) (zs : List ByteArray) (A : Option Addr) (c i B : Nat) (MM : Int) (m : MkL) (A9 : Option Addr) (c9 : Nat) (A10 : Option Addr) (c10 : Nat) (w : World) (hL : LinesAt w A zs MM) (hi : i < zs.length) (hc : zs.length ≤ c) (hcm : c ≤ maxLen) (hB : B ≤ w.heap.size) (ha : AttR w (Rg B w) m.att A9 A10) (hk : m.kind = 2) :
    Calls Tryz.prog 39 #[.slice A zs.length c, .int .i64 i, .agg (m.cells (.slice A9 m.att.cl.length c9) (.slice A10 m.att.pr.length c10)), .int .i64 d] w (BkPost B (some (BkT.mk 2 m.n ⟨#[]⟩ ⟨#[]⟩ ⟨#[]⟩ ⟨#[]⟩ m.att m.rest [], i + 1)) w) := by
  have hlen := hL.len
  have HLi := Lib.hid hL
  have HA := Lib.hid ha
  have HS := Lib.hid (dw_start w (m.cells (.slice A9 m.att.cl.length c9) (.slice A10 m.att.pr.length c10)))
  obtain ⟨PR, hPR⟩ : ∃ PR, PR = some (BkT.mk 2 m.n ⟨#[]⟩ ⟨#[]⟩ ⟨#[]⟩ ⟨#[]⟩ m.att m.rest [], i + 1) := ⟨_, rfl⟩
  rw [← hPR]
  have HSr := Lib.hid fun W => n_source m.rest W
  have HPR := Lib.hid hPR
  have z2 : (((m.kind : Nat) : Int) == 2) = true := by rw [beq_iff_eq]; omega
  have HK := Lib.hid hk
  clear hL hk ha hPR
  unfold MkL.cells zbC at HS
  go_enter Tryz.func39, Tryz.ntmps39
  unfold MkL.cells
  go_upto_region 1 with fail
  generalize hW : (w.alloc _).alloc _ = W0
  have HD : Hid (DW w #[.int .i64 m.kind, .int .i64 m.n, .string m.ch, .int .i64 m.off, .string m.info, .string m.rest, .string m.dest, .string m.title, .string m.att.id, .slice A9 m.att.cl.length c9, .slice A10 m.att.pr.length c10] W0) := Lib.hid (by rw [← hW]; exact HS.out)
  clear hW HS
  have HL0 := Lib.hid (HLi.out.below HD.out.bel)
  have hw0 := HD.out.bel.size
  have hw1 := HD.out.res.lt
  obtain ⟨p0, p1, p2, p3, p4, p5, p6, p7, p8, p9, p10, x0, x1, x2, x3, x4, x5, x6, x7, x8, x9, x10⟩ := mk_facts HD.out.mrk
  clear x0 x1 x2 x3 x4 x5 x6 x7 x8 x9 x10
  have HS9 : Hid (∀ W, Below W0.heap.size W0 W → (W.cell? ⟨w.heap.size, 1, none⟩ = some (.int .i64 m.n) ∧ W.cell? ⟨w.heap.size, 5, none⟩ = some (.string m.rest) ∧ W.cell? ⟨w.heap.size, 8, none⟩ = some (.string m.att.id) ∧ W.cell? ⟨w.heap.size, 9, none⟩ = some (.slice A9 m.att.cl.length c9) ∧ W.cell? ⟨w.heap.size, 10, none⟩ = some (.slice A10 m.att.pr.length c10) ∧ w.heap.size + 1 < W.heap.size)) := Lib.hid fun W h => by
    obtain ⟨p0, p1, p2, p3, p4, p5, p6, p7, p8, p9, p10, x0⟩ := mk_facts (HD.out.mrk.below h (by omega))
    exact ⟨p1, p5, p8, p9, p10, Nat.lt_of_lt_of_le hw1 h.size⟩
  have HT11 : Hid (∀ W z0 z1 z2 z3 z4 z5 z6 z7 z8 z9 z10, Below W0.heap.size W0 W → ((((((((((((W.setCell ⟨w.heap.size + 1, 0, none⟩ z0).setCell ⟨w.heap.size + 1, 1, none⟩ z1).setCell ⟨w.heap.size + 1, 2, none⟩ z2).setCell ⟨w.heap.size + 1, 3, none⟩ z3).setCell ⟨w.heap.size + 1, 4, none⟩ z4).setCell ⟨w.heap.size + 1, 5, none⟩ z5).setCell ⟨w.heap.size + 1, 6, none⟩ z6).setCell ⟨w.heap.size + 1, 7, none⟩ z7).setCell ⟨w.heap.size + 1, 8, none⟩ z8).setCell ⟨w.heap.size + 1, 9, none⟩ z9).setCell ⟨w.heap.size + 1, 10, none⟩ z10).cell? ⟨w.heap.size, 1, none⟩ = some (.int .i64 m.n) ∧ (((((((((((W.setCell ⟨w.heap.size + 1, 0, none⟩ z0).setCell ⟨w.heap.size + 1, 1, none⟩ z1).setCell ⟨w.heap.size + 1, 2, none⟩ z2).setCell ⟨w.heap.size + 1, 3, none⟩ z3).setCell ⟨w.heap.size + 1, 4, none⟩ z4).setCell ⟨w.heap.size + 1, 5, none⟩ z5).setCell ⟨w.heap.size + 1, 6, none⟩ z6).setCell ⟨w.heap.size + 1, 7, none⟩ z7).setCell ⟨w.heap.size + 1, 8, none⟩ z8).setCell ⟨w.heap.size + 1, 9, none⟩ z9).setCell ⟨w.heap.size + 1, 10, none⟩ z10).cell? ⟨w.heap.size, 5, none⟩ = some (.string m.rest) ∧ (((((((((((W.setCell ⟨w.heap.size + 1, 0, none⟩ z0).setCell ⟨w.heap.size + 1, 1, none⟩ z1).setCell ⟨w.heap.size + 1, 2, none⟩ z2).setCell ⟨w.heap.size + 1, 3, none⟩ z3).setCell ⟨w.heap.size + 1, 4, none⟩ z4).setCell ⟨w.heap.size + 1, 5, none⟩ z5).setCell ⟨w.heap.size + 1, 6, none⟩ z6).setCell ⟨w.heap.size + 1, 7, none⟩ z7).setCell ⟨w.heap.size + 1, 8, none⟩ z8).setCell ⟨w.heap.size + 1, 9, none⟩ z9).setCell ⟨w.heap.size + 1, 10, none⟩ z10).cell? ⟨w.heap.size, 8, none⟩ = some (.string m.att.id) ∧ (((((((((((W.setCell ⟨w.heap.size + 1, 0, none⟩ z0).setCell ⟨w.heap.size + 1, 1, none⟩ z1).setCell ⟨w.heap.size + 1, 2, none⟩ z2).setCell ⟨w.heap.size + 1, 3, none⟩ z3).setCell ⟨w.heap.size + 1, 4, none⟩ z4).setCell ⟨w.heap.size + 1, 5, none⟩ z5).setCell ⟨w.heap.size + 1, 6, none⟩ z6).setCell ⟨w.heap.size + 1, 7, none⟩ z7).setCell ⟨w.heap.size + 1, 8, none⟩ z8).setCell ⟨w.heap.size + 1, 9, none⟩ z9).setCell ⟨w.heap.size + 1, 10, none⟩ z10).cell? ⟨w.heap.size, 9, none⟩ = some (.slice A9 m.att.cl.length c9) ∧ (((((((((((W.setCell ⟨w.heap.size + 1, 0, none⟩ z0).setCell ⟨w.heap.size + 1, 1, none⟩ z1).setCell ⟨w.heap.size + 1, 2, none⟩ z2).setCell ⟨w.heap.size + 1, 3, none⟩ z3).setCell ⟨w.heap.size + 1, 4, none⟩ z4).setCell ⟨w.heap.size + 1, 5, none⟩ z5).setCell ⟨w.heap.size + 1, 6, none⟩ z6).setCell ⟨w.heap.size + 1, 7, none⟩ z7).setCell ⟨w.heap.size + 1, 8, none⟩ z8).setCell ⟨w.heap.size + 1, 9, none⟩ z9).setCell ⟨w.heap.size + 1, 10, none⟩ z10).cell? ⟨w.heap.size, 10, none⟩ = some (.slice A10 m.att.pr.length c10) ∧ w.heap.size + 1 < (((((((((((W.setCell ⟨w.heap.size + 1, 0, none⟩ z0).setCell ⟨w.heap.size + 1, 1, none⟩ z1).setCell ⟨w.heap.size + 1, 2, none⟩ z2).setCell ⟨w.heap.size + 1, 3, none⟩ z3).setCell ⟨w.heap.size + 1, 4, none⟩ z4).setCell ⟨w.heap.size + 1, 5, none⟩ z5).setCell ⟨w.heap.size + 1, 6, none⟩ z6).setCell ⟨w.heap.size + 1, 7, none⟩ z7).setCell ⟨w.heap.size + 1, 8, none⟩ z8).setCell ⟨w.heap.size + 1, 9, none⟩ z9).setCell ⟨w.heap.size + 1, 10, none⟩ z10).heap.size)) := Lib.hid fun W z0 z1 z2 z3 z4 z5 z6 z7 z8 z9 z10 h => by
    obtain ⟨p0, p1, p2, p3, p4, p5, p6, p7, p8, p9, p10, x0⟩ := mk_facts (Blk.grown (HD.out.mrk.below h (by omega)) (grown11 W (w.heap.size + 1) z0 z1 z2 z3 z4 z5 z6 z7 z8 z9 z10) (by simp))
    exact ⟨p1, p5, p8, p9, p10, Nat.lt_of_lt_of_le (Nat.lt_of_lt_of_le hw1 h.size) (grown11 W (w.heap.size + 1) z0 z1 z2 z3 z4 z5 z6 z7 z8 z9 z10).size⟩
  have HBr : Hid (Below W0.heap.size W0 W0) := Lib.hid (Below.refl _ _)
  have hw2 : IntKind.i64.wrap ((i : Int) + 1) = (i : Int) + 1 := IntWalk.i64_in _ (by omega)
  clear p1 p2 p3 p4 p5 p6 p7 p8 p9 p10
  have s0 := HS9.out _ HBr.out
  obtain ⟨p1, p5, p8, p9, p10, _⟩ := s0
  go_wp2_with fail
  refine wp_region_held_drew (S := fun W' => W'.cell? ⟨w.heap.size, 1, none⟩ = some (.int .i64 m.n) ∧ W'.cell? ⟨w.heap.size, 5, none⟩ = some (.string m.rest) ∧ W'.cell? ⟨w.heap.size, 8, none⟩ = some (.string m.att.id) ∧ W'.cell? ⟨w.heap.size, 9, none⟩ = some (.slice A9 m.att.cl.length c9) ∧ W'.cell? ⟨w.heap.size, 10, none⟩ = some (.slice A10 m.att.pr.length c10) ∧ w.heap.size + 1 < W'.heap.size) (by kernel_rfl) (HS9.out _ HBr.out.drew) (fun hHeld => ?_)
  refine wpAnyH_take (i := 0) (v := .pointer (some ⟨w.heap.size, 1, none⟩)) rfl (by kernel_rfl) (by kernel_rfl) (by kernel_rfl) (fun _ _ _ h => h) (Or.inl ⟨by kernel_rfl, fun W' hSw => ?_⟩) hHeld ?_
  · obtain ⟨h0, h1, h2, h3, h4, h5⟩ := hSw
    go_simp
  try simp only [Act.put, List.setIfInBounds_toArray, List.set_cons_zero, List.set_cons_succ]
  refine wpAnyH_take (i := 1) (v := .int .i64 m.n) rfl (by kernel_rfl) (by kernel_rfl) (by kernel_rfl) (fun _ _ _ h => h) (Or.inl ⟨by kernel_rfl, fun W' hSw => ?_⟩) hHeld ?_
  · obtain ⟨h0, h1, h2, h3, h4, h5⟩ := hSw
    go_simp
  try simp only [Act.put, List.setIfInBounds_toArray, List.set_cons_zero, List.set_cons_succ]
  refine wpAnyH_take (i := 2) (v := .pointer (some ⟨w.heap.size, 5, none⟩)) rfl (by kernel_rfl) (by kernel_rfl) (by kernel_rfl) (fun _ _ _ h => h) (Or.inl ⟨by kernel_rfl, fun W' hSw => ?_⟩) hHeld ?_
  · obtain ⟨h0, h1, h2, h3, h4, h5⟩ := hSw
    go_simp
  try simp only [Act.put, List.setIfInBounds_toArray, List.set_cons_zero, List.set_cons_succ]
  refine wpAnyH_take (i := 3) (v := .string m.rest) rfl (by kernel_rfl) (by kernel_rfl) (by kernel_rfl) (fun _ _ _ h => h) (Or.inl ⟨by kernel_rfl, fun W' hSw => ?_⟩) hHeld ?_
  · obtain ⟨h0, h1, h2, h3, h4, h5⟩ := hSw
    go_simp
  try simp only [Act.put, List.setIfInBounds_toArray, List.set_cons_zero, List.set_cons_succ]
  refine wpAnyH_take (i := 5) (v := .pointer (some ⟨w.heap.size, 8, none⟩)) rfl (by kernel_rfl) (by kernel_rfl) (by kernel_rfl) (fun _ _ _ h => h) (Or.inl ⟨by kernel_rfl, fun W' hSw => ?_⟩) hHeld ?_
  · obtain ⟨h0, h1, h2, h3, h4, h5⟩ := hSw
    go_simp
  try simp only [Act.put, List.setIfInBounds_toArray, List.set_cons_zero, List.set_cons_succ]
  refine wpAnyH_take (i := 6) (v := .agg #[.string m.att.id, .slice A9 m.att.cl.length c9, .slice A10 m.att.pr.length c10]) rfl (by kernel_rfl) (by kernel_rfl) (by kernel_rfl) (fun _ _ _ h => h) (Or.inl ⟨by kernel_rfl, fun W' hSw => ?_⟩) hHeld ?_
  · obtain ⟨h0, h1, h2, h3, h4, h5⟩ := hSw
    go_simp
  try simp only [Act.put, List.setIfInBounds_toArray, List.set_cons_zero, List.set_cons_succ]
  refine wpAnyH_take (i := 8) (v := .int .i64 i) rfl (by kernel_rfl) (by kernel_rfl) (by kernel_rfl) (fun _ _ _ h => h) (Or.inl ⟨by kernel_rfl, fun W' hSw => ?_⟩) hHeld ?_
  · obtain ⟨h0, h1, h2, h3, h4, h5⟩ := hSw
    go_simp
  try simp only [Act.put, List.setIfInBounds_toArray, List.set_cons_zero, List.set_cons_succ]
  refine wpAnyH_take (i := 9) (v := .int .i64 ((i : Int) + 1)) rfl (by kernel_rfl) (by kernel_rfl) (by kernel_rfl) (fun _ _ _ h => h) (Or.inl ⟨by kernel_rfl, fun W' hSw => ?_⟩) hHeld ?_
  · obtain ⟨h0, h1, h2, h3, h4, h5⟩ := hSw
    go_simp
  try simp only [Act.put, List.setIfInBounds_toArray, List.set_cons_zero, List.set_cons_succ]
  refine wpAnyH_ready (rs := [4]) (by kernel_rfl) (by simp) (AllReadyH.cons rfl (fun K hK => ?_) AllReadyH.nil)
  go_simp
  ((with_reducible refine (HSr.out _).mono ?_))
  rintro e w9 ⟨v, rfl, hsrc, b8⟩
  have b9 : Below W0.heap.size W0 w9 := HBr.out.drew.trans b8
  obtain ⟨Av, nv, cv, rfl⟩ := srcV_form hsrc
  have HD9 := Lib.hid (HD.out.next b9)
  have hz9 : w.heap.size + 1 < w9.heap.size := HD9.out.res.lt
  obtain ⟨q0, q1, q2, q3, q4, q5, q6, q7, q8, q9, q10, r0, r1, r2, r3, r4, r5, r6, r7, r8, r9, r10⟩ := ZB.facts HD9.out.res
  go_simp
  refine hK.out _ _ (HS9.out _ b9) (fun hHeld => ?_)
  clear hK K
  try simp only [Act.put, List.setIfInBounds_toArray, List.set_cons_zero, List.set_cons_succ]
  refine wpAnyH_ready (rs := [7]) (by kernel_rfl) (by simp) (AllReadyH.cons rfl (fun K hK => ?_) AllReadyH.nil)
  go_simp
  refine hK.out _ _ (hHeld) (fun hHeld => ?_)
  clear hK K
  try simp only [Act.put, List.setIfInBounds_toArray, List.set_cons_zero, List.set_cons_succ]
  refine wpAnyH_ready (rs := [10]) (by kernel_rfl) (by simp) (AllReadyH.cons rfl (fun K hK => ?_) AllReadyH.nil)
  go_simp
  refine hK.out _ _ (HT11.out _ _ _ _ _ _ _ _ _ _ _ _ b9) (fun hHeld => ?_)
  clear hK K
  try simp only [Act.put, List.setIfInBounds_toArray, List.set_cons_zero, List.set_cons_succ]
  refine wpAnyH_ready (rs := [11]) (by kernel_rfl) (by simp) (AllReadyH.cons rfl (fun K hK => ?_) AllReadyH.nil)
  go_simp
  refine hK.out _ _ (hHeld) (fun hHeld => ?_)
  clear hK K
  try simp only [Act.put, List.setIfInBounds_toArray, List.set_cons_zero, List.set_cons_succ]
  refine wpAnyH_ready (rs := [12]) (by kernel_rfl) (by simp) (AllReadyH.cons rfl (fun K hK => ?_) AllReadyH.nil)
  go_simp
  refine hK.out _ _ (hHeld) (fun hHeld => ?_)
  clear hK K
  try simp only [Act.put, List.setIfInBounds_toArray, List.set_cons_zero, List.set_cons_succ]
  refine wpAnyH_done (by kernel_rfl) ?_ _
  go_wp2_with fail
  rw [HPR.out]
  exact blockAt_ret (blk11 HD9.out.res _ _ _ _ _ _ _ _ _ _ _) rfl rfl rfl rfl (bk_some rfl (repB_mk (att := m.att) (HA.out.far (below11 HD9.out.bel (Nat.le_succ _) _ _ _ _ _ _ _ _ _ _ _) (Nat.le_refl _)) (srcV_far (B := W0.heap.size) hsrc (grown11 _ _ _ _ _ _ _ _ _ _ _ _ _) hw1 (by omega)) (KidsV.none_ _ _)) (below11 HD9.out.bel (Nat.le_succ _) _ _ _ _ _ _ _ _ _ _ _))

end Go.Proofs.YtpoafhgbhnblmaaGreatDoor
