/-
  Texts of the proof, put together (what this law reaches): NsEC.
-/
import Derived.Test.YtpoafhgbhnblmaaGreatDoorX27
set_option linter.unusedVariables false
set_option linter.unusedSimpArgs false
namespace Go.Proofs.YtpoafhgbhnblmaaGreatDoor
open Go.RowKit Go.Pub
theorem closeI_hit (zs : List ByteArray) (m : MkL) (i k : Nat) (hi : i ≤ k) (hk : k < zs.length) (hno : ∀ j, i ≤ j → j < k → closeP zs m j = false) (h : closeP zs m k = true) : closeI zs m i = k ∧ closeA zs m i = (closesM (ln zs k) m.kind m.n m.ch).1 := by
  have e : closeI zs m i = k := seek_eq _ _ _ _ hi (by omega) hno fun _ => h
  exact ⟨e, by unfold closeA; rw [e, if_pos hk]⟩
theorem closeI_none (zs : List ByteArray) (m : MkL) (i : Nat) (hi : i ≤ zs.length) (hno : ∀ j, i ≤ j → j < zs.length → closeP zs m j = false) : closeI zs m i = zs.length ∧ closeA zs m i = emptyA := by
  have e : closeI zs m i = zs.length := seek_eq _ _ _ _ hi (Nat.le_refl _) hno fun h => absurd h (Nat.lt_irrefl _)
  exact ⟨e, by unfold closeA; rw [e, if_neg (Nat.lt_irrefl _)]⟩
theorem at_facts {W : World} {g : Nat} {x y z : Value} (h : Blk W g 43 #[x, y, z]) : W.cell? ⟨g, 0, none⟩ = some x ∧ W.cell? ⟨g, 1, none⟩ = some y ∧ W.cell? ⟨g, 2, none⟩ = some z ∧ W.frozen? ⟨g, 0, none⟩ = false ∧ W.frozen? ⟨g, 1, none⟩ = false ∧ W.frozen? ⟨g, 2, none⟩ = false := ⟨h.cell 0, h.cell 1, h.cell 2, h.frozen 0, h.frozen 1, h.frozen 2⟩
def ClRel (zs : List ByteArray) (m : MkL) (MK : Array Value) (i : Nat) (w : World) (v8 : Value) (wr : World) : Prop :=
  ∃ k : Nat, v8 = .int .i64 k ∧ i + 1 ≤ k ∧ k ≤ zs.length ∧ CW w MK wr ∧ Hid (∀ j, i + 1 ≤ j → j < k → closeP zs m j = false)
def ClsPost (t : Nat) (a : AttrL) (w : World) (e : Ending) (w' : World) : Prop := (∃ vC vP, e = .returned (.tuple #[.int .i64 t, .agg #[.string a.id, vC, vP]]) ∧ OwnA w' w.heap.size a vC vP) ∧ Below w.heap.size w w'
set_option maxRecDepth 100000 in
set_option maxHeartbeats 4000000 in
theorem n_closing (zs : List ByteArray) (A : Option Addr) (c i : Nat) (MM : Int) (m : MkL) (A9 : Option Addr) (n9 c9 : Nat) (A10 : Option Addr) (n10 c10 : Nat) (w : World) (hL : LinesAt w A zs MM) (hi : i < zs.length) :
    Calls Tryz.prog 72 #[.slice A zs.length c, .int .i64 i, .agg (m.cells (.slice A9 n9 c9) (.slice A10 n10 c10))] w (ClsPost (closeI zs m (i + 1)) (closeA zs m (i + 1)) w) := by
  have hlen := hL.len
  obtain ⟨b, off, rfl, hb, hcell⟩ := hL.get (by omega)
  have HCell := Lib.hid hcell
  have HC : Hid (∀ k W, Calls Tryz.prog 117 #[.string (ln zs k), .agg (m.cells (.slice A9 n9 c9) (.slice A10 n10 c10))] W (ClPost (closesM (ln zs k) m.kind m.n m.ch) W)) := Lib.hid fun k W => m_closes (ln zs k) m.kind m.n m.off m.ch m.info m.rest m.dest m.title m.att.id A9 n9 c9 A10 n10 c10 W (Nat.le_trans (ln_size hL.sz k) (by decide))
  have HS := Lib.hid (cw_start w (m.cells (.slice A9 n9 c9) (.slice A10 n10 c10)))
  have HP : Hid (∀ k, closeP zs m k = (closesM (ln zs k) m.kind m.n m.ch).2) := Lib.hid fun k => rfl
  have HH := Lib.hid fun k => closeI_hit zs m (i + 1) k
  have HN := Lib.hid (closeI_none zs m (i + 1) (by omega))
  clear hL hcell
  go_enter Tryz.func72, Tryz.ntmps72
  unfold MkL.cells
  go_wp2_with fail
  go_loopw [8] (fun v8 wr => ClRel zs m (m.cells (.slice A9 n9 c9) (.slice A10 n10 c10)) i w v8 wr) (fun v8 _ => zs.length - (intOf v8).toNat)
  case atStart => exact ⟨i + 1, by go_num, Nat.le_refl _, by omega, HS.out, Lib.hid fun j h1 h2 => absurd h2 (by omega)⟩
  case round =>
    clear HS
    obtain ⟨k, rfl, hk1, hk, HCW, Hno⟩ := hrel
    have HW := Lib.hid HCW
    by_cases hlt : k < zs.length
    · have hbw := HCW.bel
      have hc0 : wr.cell? ⟨b, off + k, none⟩ = some (.string (ln zs k)) := (hbw.cell (p := ⟨b, off + k, none⟩) hb).trans (HCell.out k hlt)
      obtain ⟨k0, k1, k2, k3, k4, k5, k6, k7, k8, k9, k10, y0, y1, y2, y3, y4, y5, y6, y7, y8, y9, y10⟩ := mk_facts HCW.mrk
      have hwz : w.heap.size + 1 < wr.heap.size := HCW.at_.lt
      have HS : Hid (∀ W, Below (w.heap.size + 2) wr W → (W.cell? ⟨b, off + k, none⟩ = some (.string (ln zs k)) ∧ W.cell? ⟨w.heap.size, 0, none⟩ = some (.int .i64 m.kind) ∧ W.cell? ⟨w.heap.size, 1, none⟩ = some (.int .i64 m.n) ∧ W.cell? ⟨w.heap.size, 2, none⟩ = some (.string m.ch) ∧ W.cell? ⟨w.heap.size, 3, none⟩ = some (.int .i64 m.off) ∧ W.cell? ⟨w.heap.size, 4, none⟩ = some (.string m.info) ∧ W.cell? ⟨w.heap.size, 5, none⟩ = some (.string m.rest) ∧ W.cell? ⟨w.heap.size, 6, none⟩ = some (.string m.dest) ∧ W.cell? ⟨w.heap.size, 7, none⟩ = some (.string m.title) ∧ W.cell? ⟨w.heap.size, 8, none⟩ = some (.string m.att.id) ∧ W.cell? ⟨w.heap.size, 9, none⟩ = some (.slice A9 n9 c9) ∧ W.cell? ⟨w.heap.size, 10, none⟩ = some (.slice A10 n10 c10) ∧ Below (w.heap.size + 2) wr W)) := Lib.hid fun W hW => by
        obtain ⟨k0, k1, k2, k3, k4, k5, k6, k7, k8, k9, k10, y0, y1, y2, y3, y4, y5, y6, y7, y8, y9, y10⟩ := mk_facts (HCW.mrk.below hW (by omega))
        exact ⟨(hW.cell (p := ⟨b, off + k, none⟩) (by show b < _; omega)).trans hc0, k0, k1, k2, k3, k4, k5, k6, k7, k8, k9, k10, hW⟩
      have HB0 : Hid (Below (w.heap.size + 2) wr wr) := Lib.hid (Below.refl _ _)
      have hPk := HP.out k
      have s0 := HS.out wr HB0.out
      have HSz : Hid (∀ W, (W.cell? ⟨b, off + k, none⟩ = some (.string (ln zs k)) ∧ W.cell? ⟨w.heap.size, 0, none⟩ = some (.int .i64 m.kind) ∧ W.cell? ⟨w.heap.size, 1, none⟩ = some (.int .i64 m.n) ∧ W.cell? ⟨w.heap.size, 2, none⟩ = some (.string m.ch) ∧ W.cell? ⟨w.heap.size, 3, none⟩ = some (.int .i64 m.off) ∧ W.cell? ⟨w.heap.size, 4, none⟩ = some (.string m.info) ∧ W.cell? ⟨w.heap.size, 5, none⟩ = some (.string m.rest) ∧ W.cell? ⟨w.heap.size, 6, none⟩ = some (.string m.dest) ∧ W.cell? ⟨w.heap.size, 7, none⟩ = some (.string m.title) ∧ W.cell? ⟨w.heap.size, 8, none⟩ = some (.string m.att.id) ∧ W.cell? ⟨w.heap.size, 9, none⟩ = some (.slice A9 n9 c9) ∧ W.cell? ⟨w.heap.size, 10, none⟩ = some (.slice A10 n10 c10) ∧ Below (w.heap.size + 2) wr W) → w.heap.size + 2 ≤ W.heap.size) := Lib.hid fun W h => by have := h.2.2.2.2.2.2.2.2.2.2.2.2.size; omega
      have HAl : Hid (∀ W o, (W.cell? ⟨b, off + k, none⟩ = some (.string (ln zs k)) ∧ W.cell? ⟨w.heap.size, 0, none⟩ = some (.int .i64 m.kind) ∧ W.cell? ⟨w.heap.size, 1, none⟩ = some (.int .i64 m.n) ∧ W.cell? ⟨w.heap.size, 2, none⟩ = some (.string m.ch) ∧ W.cell? ⟨w.heap.size, 3, none⟩ = some (.int .i64 m.off) ∧ W.cell? ⟨w.heap.size, 4, none⟩ = some (.string m.info) ∧ W.cell? ⟨w.heap.size, 5, none⟩ = some (.string m.rest) ∧ W.cell? ⟨w.heap.size, 6, none⟩ = some (.string m.dest) ∧ W.cell? ⟨w.heap.size, 7, none⟩ = some (.string m.title) ∧ W.cell? ⟨w.heap.size, 8, none⟩ = some (.string m.att.id) ∧ W.cell? ⟨w.heap.size, 9, none⟩ = some (.slice A9 n9 c9) ∧ W.cell? ⟨w.heap.size, 10, none⟩ = some (.slice A10 n10 c10) ∧ Below (w.heap.size + 2) wr W) → ((W.alloc o).cell? ⟨b, off + k, none⟩ = some (.string (ln zs k)) ∧ (W.alloc o).cell? ⟨w.heap.size, 0, none⟩ = some (.int .i64 m.kind) ∧ (W.alloc o).cell? ⟨w.heap.size, 1, none⟩ = some (.int .i64 m.n) ∧ (W.alloc o).cell? ⟨w.heap.size, 2, none⟩ = some (.string m.ch) ∧ (W.alloc o).cell? ⟨w.heap.size, 3, none⟩ = some (.int .i64 m.off) ∧ (W.alloc o).cell? ⟨w.heap.size, 4, none⟩ = some (.string m.info) ∧ (W.alloc o).cell? ⟨w.heap.size, 5, none⟩ = some (.string m.rest) ∧ (W.alloc o).cell? ⟨w.heap.size, 6, none⟩ = some (.string m.dest) ∧ (W.alloc o).cell? ⟨w.heap.size, 7, none⟩ = some (.string m.title) ∧ (W.alloc o).cell? ⟨w.heap.size, 8, none⟩ = some (.string m.att.id) ∧ (W.alloc o).cell? ⟨w.heap.size, 9, none⟩ = some (.slice A9 n9 c9) ∧ (W.alloc o).cell? ⟨w.heap.size, 10, none⟩ = some (.slice A10 n10 c10) ∧ Below (w.heap.size + 2) wr (W.alloc o))) := Lib.hid fun W o h => HS.out _ (h.2.2.2.2.2.2.2.2.2.2.2.2.alloc (by have := h.2.2.2.2.2.2.2.2.2.2.2.2.size; omega) o)
      have HCk : Hid (∀ W, (W.cell? ⟨b, off + k, none⟩ = some (.string (ln zs k)) ∧ W.cell? ⟨w.heap.size, 0, none⟩ = some (.int .i64 m.kind) ∧ W.cell? ⟨w.heap.size, 1, none⟩ = some (.int .i64 m.n) ∧ W.cell? ⟨w.heap.size, 2, none⟩ = some (.string m.ch) ∧ W.cell? ⟨w.heap.size, 3, none⟩ = some (.int .i64 m.off) ∧ W.cell? ⟨w.heap.size, 4, none⟩ = some (.string m.info) ∧ W.cell? ⟨w.heap.size, 5, none⟩ = some (.string m.rest) ∧ W.cell? ⟨w.heap.size, 6, none⟩ = some (.string m.dest) ∧ W.cell? ⟨w.heap.size, 7, none⟩ = some (.string m.title) ∧ W.cell? ⟨w.heap.size, 8, none⟩ = some (.string m.att.id) ∧ W.cell? ⟨w.heap.size, 9, none⟩ = some (.slice A9 n9 c9) ∧ W.cell? ⟨w.heap.size, 10, none⟩ = some (.slice A10 n10 c10) ∧ Below (w.heap.size + 2) wr W) → Calls Tryz.prog 117 #[.string (ln zs k), .agg #[.int .i64 m.kind, .int .i64 m.n, .string m.ch, .int .i64 m.off, .string m.info, .string m.rest, .string m.dest, .string m.title, .string m.att.id, .slice A9 n9 c9, .slice A10 n10 c10]] W fun e W' => (∃ A1 c1 A2 c2, e = .returned (.tuple #[.agg #[.string (closesM (ln zs k) m.kind m.n m.ch).1.id, .slice A1 (closesM (ln zs k) m.kind m.n m.ch).1.cl.length c1, .slice A2 (closesM (ln zs k) m.kind m.n m.ch).1.pr.length c2], .bool (closesM (ln zs k) m.kind m.n m.ch).2]) ∧ OwnA W' W.heap.size (closesM (ln zs k) m.kind m.n m.ch).1 (.slice A1 (closesM (ln zs k) m.kind m.n m.ch).1.cl.length c1) (.slice A2 (closesM (ln zs k) m.kind m.n m.ch).1.pr.length c2)) ∧ Below (w.heap.size + 2) wr W' ∧ Below W.heap.size W W') := Lib.hid fun W hW => (HC.out k W).mono fun e W' ⟨⟨vC, vP, h1, h2⟩, h3⟩ => by
        have hb := hW.2.2.2.2.2.2.2.2.2.2.2.2
        have hsz := hb.size
        obtain ⟨A1, c1, rfl⟩ := own_slice h2.cls
        obtain ⟨A2, c2, rfl⟩ := own_slice h2.prs
        exact ⟨⟨A1, c1, A2, c2, h1, h2⟩, hb.trans (h3.mono (by omega)), h3⟩
      clear HCW hc0 k0 k1 k2 k3 k4 k5 k6 k7 k8 k9 k10 y0 y1 y2 y3 y4 y5 y6 y7 y8 y9 y10 hbw HC HP
      generalize hRR : closesM (ln zs k) (m.kind : Int) (m.n : Int) m.ch = R at *
      have HRR := Lib.hid hRR
      clear hRR
      go_upto_region 4 with fail
      go_cut [9, 10] from 13 to 30 (fun s9 s10 wx => ∃ g A1 c1 A2 c2, s9 = .pointer (some ⟨g, 0, none⟩) ∧ s10 = .bool R.2 ∧ w.heap.size + 2 ≤ g ∧ Blk wx g 43 #[.string R.1.id, .slice A1 R.1.cl.length c1, .slice A2 R.1.pr.length c2] ∧ OwnA wx (w.heap.size + 2) R.1 (.slice A1 R.1.cl.length c1) (.slice A2 R.1.pr.length c2) ∧ Below (w.heap.size + 2) wr wx)
      case first =>
        have hu : undef = Value.tuple #[] := rfl
        obtain ⟨k11, k0, k1, k2, k3, k4, k5, k6, k7, k8, k9, k10, _⟩ := s0
        obtain ⟨x11, x0, x1, x2, x3, x4, x5, x6, x7, x8, x9, x10, _⟩ := HS.out _ (HB0.out.alloc (HSz.out _ (HS.out _ HB0.out)) (.cells #[.string ⟨#[]⟩, .slice none 0 0, .slice none 0 0] 43))
        go_region_with (first
            | (go_at_call 117; (with_reducible refine (HCk.out _ (HS.out _ HB0.out.drew)).mono ?_); rintro e W9 ⟨⟨A1, c1, A2, c2, rfl, ho⟩, b9, b8⟩)
            | (go_at_call 117; (with_reducible refine (HCk.out _ (HS.out _ (HB0.out.alloc (HSz.out _ (HS.out _ HB0.out)) _).drew)).mono ?_); rintro e W9 ⟨⟨A1, c1, A2, c2, rfl, ho⟩, b9, b8⟩; (have q : Blk W9 wr.heap.size 43 #[.string ⟨#[]⟩, .slice none 0 0, .slice none 0 0] := Blk.below (w := (wr.alloc (.cells #[.string ⟨#[]⟩, .slice none 0 0, .slice none 0 0] 43)).drew) (Blk.new wr _ _) b8 (by simp)); obtain ⟨q0, q1, q2, z0, z1, z2⟩ := at_facts q))
        all_goals
          go_wp2_with fail
          go_meet
          have hzz := HSz.out _ (HS.out _ b9)
          first
          | exact ⟨W9.heap.size, A1, c1, A2, c2, rfl, rfl, hzz, Blk.new W9 _ _, ownA_low (ho.below ((Below.refl _ _).alloc (Nat.le_refl _) _)) (by simp; omega), b9.alloc hzz _⟩
          | exact ⟨wr.heap.size, A1, c1, A2, c2, rfl, rfl, by omega, blk3 q rfl _ _ _, ownA_low (ownA_far ho (grown3 W9 wr.heap.size _ _ _) (by simp)) (by simp; omega), below3 b9 (by omega) _ _ _⟩
      case rest =>
        obtain ⟨g, A1, c1, A2, c2, rfl, rfl, hg, hblk, ho, hb2⟩ := hcut
        clear HCk HSz HAl HS s0 HB0
        have HX : Hid (CW w (m.cells (.slice A9 n9 c9) (.slice A10 n10 c10)) wc) := Lib.hid ⟨HW.out.mrk.below hb2 (by omega), HW.out.at_.below hb2 (by omega), HW.out.bel.trans (hb2.mono (by omega))⟩
        have HO := Lib.hid ho
        obtain ⟨q0, q1, q2, z0, z1, z2⟩ := at_facts hblk
        cases hR2 : R.2 with
        | true =>
          have HF := Lib.hid (HH.out k hk1 hlt Hno.out (hPk.trans hR2))
          obtain ⟨p0, p1, p2, v0, v1, v2⟩ := at_facts HX.out.at_
          have hzl := HX.out.at_.lt
          have HBel := Lib.hid HX.out.bel
          have HAt := Lib.hid HX.out.at_
          clear ho hb2 hblk HW Hno HH HN hPk HX
          go_wp2_with fail
          go_region
          all_goals
            go_wp2_with fail
            rw [HF.out.1, HF.out.2, HRR.out]
            exact closing_ret (Blk.drewN (blk3 HAt.out rfl _ _ _) 1) rfl rfl rfl ⟨⟨_, _, rfl, ownA_low ((ownA_far HO.out (grown3 wc (w.heap.size + 1) _ _ _) (by omega)).below (below_drewN (Below.refl _ _) 1)) (by omega)⟩, below_drewN (below3 HBel.out (Nat.le_succ _) _ _ _) 1⟩
        | false =>
          have HNx : Hid (∀ j, i + 1 ≤ j → j < k + 1 → closeP zs m j = false) := Lib.hid fun j h1 h2 => by
            by_cases e : j = k
            · rw [e, hPk]; exact hR2
            · exact Hno.out j h1 (by omega)
          clear ho hb2 hblk HW HO q0 q1 q2 z0 z1 z2 hPk Hno
          go_wp2_with fail
          go_roundw
          case rel => exact ⟨k + 1, by go_num, by omega, by omega, HX.out, HNx⟩
          case measure => simp [intOf]; omega
    · obtain rfl : k = zs.length := by omega
      have HF := Lib.hid (HN.out Hno.out)
      obtain ⟨p0, p1, p2, v0, v1, v2⟩ := at_facts HCW.at_
      have hzl := HCW.at_.lt
      clear HN HH Hno HCW
      go_wp2_with fail
      rw [HF.out.1, HF.out.2]
      exact closing_ret (blk3 HW.out.at_ rfl _ _ _) rfl rfl rfl ⟨⟨_, _, rfl, ownA_empty _ _ (below3 HW.out.bel (Nat.le_succ _) _ _ _).size⟩, below3 HW.out.bel (Nat.le_succ _) _ _ _⟩

end Go.Proofs.YtpoafhgbhnblmaaGreatDoor
