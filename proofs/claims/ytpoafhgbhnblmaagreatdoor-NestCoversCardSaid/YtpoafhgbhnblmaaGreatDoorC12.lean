/-
  Texts of the proof, put together (what this law reaches): NsH, NsI, NsU.
-/
import Derived.Test.YtpoafhgbhnblmaaGreatDoorC10
import Derived.Test.YtpoafhgbhnblmaaGreatDoorC11
set_option linter.unusedVariables false
set_option linter.unusedSimpArgs false
namespace Go.Proofs.YtpoafhgbhnblmaaGreatDoor
open Go.RowKit Go.Pub
/-- The blocks at a depth, for a caller within nest. -/
def RecP (rec : List ByteArray → Option (List BkT)) (d : Nat) (MM : Int) : Prop :=
  ∀ (zs : List ByteArray) (A : Option Addr) (c : Nat) (W : World), LinesAt W A zs MM → zs.length ≤ c → c ≤ maxLen → Calls Tryz.prog 30 #[.slice A zs.length c, .int .i64 d] W fun e w' =>
    (match rec zs with
     | none => e = .returned bkErr
     | some bs => ∃ A1 c1 A2 n2 c2, e = .returned (.tuple #[.slice A1 bs.length c1, .slice A2 n2 c2, .int .i64 0]) ∧ KidsV w' (Rg W.heap.size w') (.slice A1 bs.length c1) bs) ∧ Below W.heap.size W w'
/-- The result's block, still empty. -/
def ZB (W : World) (g : Nat) : Prop := Blk W g 46 #[.int .i64 0, .int .i64 0, .string ⟨#[]⟩, .string ⟨#[]⟩, .string ⟨#[]⟩, .string ⟨#[]⟩, .string ⟨#[]⟩, .slice none 0 0, .slice none 0 0, .slice none 0 0, .slice none 0 0]
/-- A block out of its parts. -/
theorem repB_mk {w : World} {S : Nat → Prop} {kind level : Nat} {info text dest title : ByteArray} {att : AttrL} {line : ByteArray} {kids : List BkT} {A1 A2 : Option Addr} {c1 c2 : Nat} {vL vK : Value}
    (ha : AttR w S att A1 A2) (hl : SrcV w S vL line) (hk : KidsV w S vK kids) :
    RepB w S #[.int .i64 kind, .int .i64 level, .string info, .string text, .string dest, .string title, .string att.id, .slice A1 att.cl.length c1, .slice A2 att.pr.length c2, vL, vK] (.mk kind level info text dest title att line kids) := by
  obtain ⟨A, c, vs, rfl, h1, h2⟩ := hk
  exact .mk kind level info text dest title att line kids A1 A2 A c1 c2 c vL vs ha hl h1 h2
theorem srcV_none (w : World) (S : Nat → Prop) : SrcV w S (.slice none 0 0) ⟨#[]⟩ := by unfold SrcV; exact if_pos (show (⟨#[]⟩ : ByteArray).size = 0 from rfl) ▸ rfl
/-- A block that only holds others. -/
theorem repB_kid {w : World} {S : Nat → Prop} {kind : Nat} {kids : List BkT} {vK : Value} (hk : KidsV w S vK kids) : RepB w S #[.int .i64 kind, .int .i64 (0 : Nat), .string ⟨#[]⟩, .string ⟨#[]⟩, .string ⟨#[]⟩, .string ⟨#[]⟩, .string ⟨#[]⟩, .slice none 0 0, .slice none 0 0, .slice none 0 0, vK] (kidB kind kids) :=
  repB_mk (att := emptyA) (AttR.empty _ _ _ _) (srcV_none _ _) hk
theorem KidsV.far {w w' : World} {B B' g : Nat} {v : Value} {bs : List BkT} (h : KidsV w (Rg B w) v bs) (hg : w.grownBy w' (some g)) (hlt : g < B) (hB : B' ≤ B) : KidsV w' (Rg B' w') v bs :=
  h.keep (fun x hx => hg.block x hx.2 fun e => by injection e with e; have := hx.1; omega) fun x hx => ⟨by have := hx.1; omega, Nat.lt_of_lt_of_le hx.2 hg.size⟩
theorem ZB.facts {W : World} {g : Nat} (h : ZB W g) : W.cell? ⟨g, 0, none⟩ = some (.int .i64 0) ∧ W.cell? ⟨g, 1, none⟩ = some (.int .i64 0) ∧ W.cell? ⟨g, 2, none⟩ = some (.string ⟨#[]⟩) ∧ W.cell? ⟨g, 3, none⟩ = some (.string ⟨#[]⟩) ∧ W.cell? ⟨g, 4, none⟩ = some (.string ⟨#[]⟩) ∧ W.cell? ⟨g, 5, none⟩ = some (.string ⟨#[]⟩) ∧ W.cell? ⟨g, 6, none⟩ = some (.string ⟨#[]⟩) ∧ W.cell? ⟨g, 7, none⟩ = some (.slice none 0 0) ∧ W.cell? ⟨g, 8, none⟩ = some (.slice none 0 0) ∧ W.cell? ⟨g, 9, none⟩ = some (.slice none 0 0) ∧ W.cell? ⟨g, 10, none⟩ = some (.slice none 0 0) ∧ W.frozen? ⟨g, 0, none⟩ = false ∧ W.frozen? ⟨g, 1, none⟩ = false ∧ W.frozen? ⟨g, 2, none⟩ = false ∧ W.frozen? ⟨g, 3, none⟩ = false ∧ W.frozen? ⟨g, 4, none⟩ = false ∧ W.frozen? ⟨g, 5, none⟩ = false ∧ W.frozen? ⟨g, 6, none⟩ = false ∧ W.frozen? ⟨g, 7, none⟩ = false ∧ W.frozen? ⟨g, 8, none⟩ = false ∧ W.frozen? ⟨g, 9, none⟩ = false ∧ W.frozen? ⟨g, 10, none⟩ = false := mk_facts h
theorem ZB.below {w W W' : World} {g : Nat} (h : ZB W g) (hb : Below W.heap.size W W') : ZB W' g := Blk.below h hb (Blk.lt h)
/-- A block is handed back. -/
theorem bk_some {B : Nat} {r : Option (BkT × Nat)} {b : BkT} {t : Nat} {w w' : World} {v : Array Value} (hr : r = some (b, t)) (hv : RepB w' (Rg B w') v b) (hb : Below w.heap.size w w') : BkPost B r w (.returned (.tuple #[.agg v, .int .i64 t, .int .i64 0])) w' := by
  subst hr; exact ⟨hb, v, rfl, hv⟩
theorem bk_none {B : Nat} {r : Option (BkT × Nat)} {u : Int} {w w' : World} {v : Array Value} (hr : r = none) (hv : AnyB v) (hb : Below w.heap.size w w') : BkPost B r w (.returned (.tuple #[.agg v, .int .i64 u, .int .i64 11])) w' := by
  subst hr; exact ⟨hb, v, u, hv, rfl⟩
/-- The lines of a quotation so far. -/
def quoteK (zs : List ByteArray) (i k : Nat) : List ByteArray := (cutL zs i k).map fun z => (markM z).rest
theorem quoteK_len (zs : List ByteArray) (i k : Nat) (h : i ≤ k) (hk : k ≤ zs.length) : (quoteK zs i k).length = k - i := by unfold quoteK; rw [List.length_map, cutL_len _ _ _ h hk]
theorem cutL_succ (zs : List ByteArray) (i k : Nat) (h : i ≤ k) (hk : k < zs.length) : cutL zs i (k + 1) = cutL zs i k ++ [ln zs k] := by
  unfold cutL
  rw [show k + 1 - i = (k - i) + 1 by omega, List.take_succ_eq_append_getElem (by rw [List.length_drop]; omega)]
  congr 2
  rw [List.getElem_drop, ← ln_at zs k hk]
  congr 1
  omega
theorem quoteK_succ (zs : List ByteArray) (i k : Nat) (h : i ≤ k) (hk : k < zs.length) : strs (quoteK zs i (k + 1)) = strs (quoteK zs i k) ++ [.string (markM (ln zs k)).rest] := by
  unfold quoteK strs
  rw [cutL_succ zs i k h hk, List.map_append, List.map_append]
  rfl
theorem cutL_idx {zs : List ByteArray} {i k : Nat} {y : ByteArray} (h : y ∈ cutL zs i k) (hk : k ≤ zs.length) : ∃ j, i ≤ j ∧ j < k ∧ y = ln zs j := by
  obtain ⟨n, hn, rfl⟩ := List.mem_iff_getElem.1 h
  rcases Nat.lt_or_ge i k with hlt | hge
  · have hl := cutL_len zs i k (by omega) hk
    exact ⟨i + n, by omega, by omega, by rw [ln_at _ n hn, ln_cut zs i k n (by omega)]⟩
  · unfold cutL at hn
    rw [show k - i = 0 by omega] at hn
    simp at hn
theorem quoteIn_size (zs : List ByteArray) (i : Nat) (hi : i ≤ zs.length) (hM : ∀ z ∈ zs, z.size ≤ 100000) : ∀ z ∈ quoteIn zs i, z.size ≤ 100000 := by
  intro z hz
  unfold quoteIn at hz
  obtain ⟨y, hy, rfl⟩ := List.mem_map.1 hz
  obtain ⟨s1, s2, s3, s4⟩ := seek_spec (fun j => !decide (kindOf zs j = 4)) zs.length i hi
  obtain ⟨j, h1, h2, rfl⟩ := cutL_idx hy s2
  have h4 := s3 j h1 h2
  simp only [Bool.not_eq_false', decide_eq_true_eq] at h4
  exact Nat.le_trans (mark_rest (ln zs j) (.inl h4)).1 (ln_size hM j)
/-- The loop's state: the lines so far, the line. -/
def QuRel (zs : List ByteArray) (i : Nat) (w : World) (v9 v10 : Value) (wr : World) : Prop :=
  ∃ k : Nat, v10 = .int .i64 k ∧ i ≤ k ∧ k ≤ zs.length ∧ wr.ownsRow (w.heap.size + 1) 9 1 v9 (k - i) (strs (quoteK zs i k)) ∧ ZB wr w.heap.size ∧ Below w.heap.size w wr ∧ Hid (∀ j, i ≤ j → j < k → kindOf zs j = 4)
set_option maxRecDepth 100000 in
set_option maxHeartbeats 4000000 in
theorem n_quote (rec : List ByteArray → Option (List BkT)) (d : Nat) (hd : d ≤ 15) (zs : List ByteArray) (A : Option Addr) (c i B : Nat) (MM : Int) (w : World) (hR : RecP rec (d + 1) MM) (hL : LinesAt w A zs MM) (hi : i < zs.length) (hB : B ≤ w.heap.size) :
    Calls Tryz.prog 70 #[.slice A zs.length c, .int .i64 i, .int .i64 d] w (BkPost B ((rec (quoteIn zs i)).map fun k => (kidB 6 k, quoteTo zs i)) w) := by
  obtain ⟨i0, hi0, hz0, hz1, hz2⟩ := info_parts strInfo
  have hlen := hL.len
  obtain ⟨b, off, rfl, hb, hcell⟩ := hL.get (by omega)
  have HCell := Lib.hid hcell
  have HLi := Lib.hid hL
  have HM : Hid (∀ j W, Calls Tryz.prog 38 #[.string (ln zs j)] W fun e w' => ∃ A c D d, e = .returned (.agg ((markM (ln zs j)).cells (.slice A (markM (ln zs j)).att.cl.length c) (.slice D (markM (ln zs j)).att.pr.length d))) ∧ Below W.heap.size W w') := Lib.hid fun j W => (m_of (ln zs j) W (Nat.le_trans (ln_size hL.sz j) (by decide))).mono fun e w' => mkpost_val
  have HRec := Lib.hid hR
  have HZ0 := Lib.hid (Blk.new w 46 #[.int .i64 0, .int .i64 0, .string ⟨#[]⟩, .string ⟨#[]⟩, .string ⟨#[]⟩, .string ⟨#[]⟩, .string ⟨#[]⟩, .slice none 0 0, .slice none 0 0, .slice none 0 0, .slice none 0 0])
  have HB0 : Hid (∀ o, Below w.heap.size w (w.alloc o)) := Lib.hid fun o => (Below.refl _ w).alloc (Nat.le_refl _) _
  have hdi : ((d : Nat) : Int) ≤ 15 := by omega
  have HQz := Lib.hid (quoteIn_size zs i (by omega) hL.sz)
  clear hL hcell hR
  go_enter Tryz.func70, Tryz.ntmps70
  go_upto_block 0 with fail
  go_cut [9, 10] (fun s9 s10 wx => s10 = .int .i64 (quoteTo zs i) ∧ wx.ownsRow (w.heap.size + 1) 9 1 s9 (quoteTo zs i - i) (strs (quoteIn zs i)) ∧ ZB wx w.heap.size ∧ Below w.heap.size w wx)
  case first =>
    go_wp2_with fail
    go_loopw [9, 10] (fun v9 v10 wr => QuRel zs i w v9 v10 wr) (fun _ v10 _ => zs.length - (intOf v10).toNat)
    case atStart => exact ⟨i, rfl, Nat.le_refl _, by omega, by rw [Nat.sub_self, show strs (quoteK zs i i) = [] by unfold quoteK cutL strs; simp]; exact World.ownsRow_nil _ _ _ _, HZ0.out, HB0.out _, Lib.hid fun j h1 h2 => absurd h2 (by omega)⟩
    case round =>
      clear HZ0 HB0
      obtain ⟨k, rfl, hik, hk, hown, hZ, hbw, Hq⟩ := hrel
      have hzr := hbw.size
      have hzl := Blk.lt hZ
      have HZr := Lib.hid hZ
      have HT : Hid (∀ h : k < zs.length → kindOf zs k ≠ 4, quoteTo zs i = k) := Lib.hid fun h => seek_eq _ _ _ _ hik hk (fun j h1 h2 => by rw [Hq.out j h1 h2]; rfl) (fun hl => by rw [decide_eq_false (h hl)]; rfl)
      by_cases hlt : k < zs.length
      · have hc0 : wr.cell? ⟨b, off + k, none⟩ = some (.string (ln zs k)) := (hbw.cell (p := ⟨b, off + k, none⟩) hb).trans (HCell.out k hlt)
        have HM1 := Lib.hid fun W => HM.out k W
        have HE := Lib.hid (quoteK_succ zs i k hik hlt)
        have hkk : Hid (kindOf zs k = (markM (ln zs k)).kind) := Lib.hid rfl
        clear HM hZ
        generalize markM (ln zs k) = m at *
        unfold MkL.cells at HM1
        go_wp2_with fail
        ((with_reducible refine (HM1.out _).mono ?_))
        rintro e w1 ⟨A1, c1, A2, c2, rfl, b1⟩
        have hz1' := b1.size
        have hown1 := own_below hown b1
        by_cases h4 : m.kind = 4
        · have z1 : (((m.kind : Nat) : Int) != 4) = false := by rw [bne_eq_false_iff_eq]; omega
          have z2 : ((m.kind : Nat) != 4) = false := by rw [bne_eq_false_iff_eq]; exact h4
          have HQ2 : Hid (∀ j, i ≤ j → j < k + 1 → kindOf zs j = 4) := Lib.hid fun j h1 h2 => by
            by_cases e : j = k
            · rw [e, hkk.out]; exact h4
            · exact Hq.out j h1 (by omega)
          clear h4 hkk HT Hq hown
          go_wp2_with (at_builtin; refine wpList_append_own _ rfl _ _ 22 rfl (w.heap.size + 1) 9 i0 _ 1 16 Tryz.underlying22 hi0 hz0 hz1 hz2 rfl (by decide) _ _ _ rfl ((hown1.alloc _).alloc _) ⟨w1.heap.size + 1, 0, none⟩ 1 1 [.string m.rest] rfl rfl ?c1 ?c2 ?c3 ?c4 ?c5 ?_)
          case c1 =>
            intro j u hj
            match j, hj with
            | 0, hj => simp at hj; subst hj; simp [Addr.add]
          case c2 => intro u hu; simp at hu; subst hu; rfl
          case c3 => unfold maxLen; omega
          case c4 => omega
          case c5 => simp; omega
          intro v' w2 hown3 hgrow _
          have HZ2 : Hid (ZB w2 w.heap.size) := Lib.hid (Blk.grown (Blk.alloc (Blk.alloc (HZr.out.below (w := w) b1) _) _) hgrow (fun e => by have := (hown1.lt _ e.symm).1; omega))
          have HB2 : Hid (Below w.heap.size w w2) := Lib.hid ((((hbw.trans (b1.mono hzr)).alloc (by omega) _).alloc (by simp; omega) _).grown hgrow (by simp; omega) (fun g hg => by have := (hown1.lt g hg).1; omega))
          clear hown1 hgrow
          go_wp2_with fail
          go_roundw
          case rel => exact ⟨k + 1, by go_num, by omega, by omega, by rw [show k + 1 - i = k - i + 1 by omega, HE.out]; exact hown3, HZ2.out, HB2.out, HQ2⟩
          case measure => simp [intOf]; omega
        · have z1 : (((m.kind : Nat) : Int) != 4) = true := by rw [bne_iff_ne]; omega
          have z2 : ((m.kind : Nat) != 4) = true := by rw [bne_iff_ne]; exact h4
          have HQ := Lib.hid (HT.out fun _ => by rw [hkk.out]; exact h4)
          clear h4 hkk HT Hq hown
          go_wp2_with fail
          go_meet
          rw [HQ.out]
          refine ⟨rfl, ?_, Blk.alloc (HZr.out.below (w := w) b1) _, (hbw.trans (b1.mono hzr)).alloc (by omega) _⟩
          have := hown1.alloc (.cells #[.int .i64 m.kind, .int .i64 m.n, .string m.ch, .int .i64 m.off, .string m.info, .string m.rest, .string m.dest, .string m.title, .string m.att.id, .slice A1 m.att.cl.length c1, .slice A2 m.att.pr.length c2] 74)
          unfold quoteIn
          rw [HQ.out]
          exact this
      · have HQ := Lib.hid (HT.out fun h => absurd h hlt)
        clear HM hZ HT Hq
        go_wp2_with fail
        go_meet
        rw [HQ.out]
        refine ⟨rfl, ?_, HZr.out, hbw⟩
        unfold quoteIn
        rw [HQ.out]
        exact hown
  case rest =>
  obtain ⟨rfl, hown, hZ, hbw⟩ := hcut
  have hzr := hbw.size
  have hzl := Blk.lt hZ
  have HZr := Lib.hid hZ
  have hql : (quoteIn zs i).length = quoteTo zs i - i := by
    have := seek_spec (fun j => !decide (kindOf zs j = 4)) zs.length i (by omega)
    exact quoteK_len zs i _ this.1 this.2.1
  have hqs : quoteTo zs i ≤ zs.length := (seek_spec (fun j => !decide (kindOf zs j = 4)) zs.length i (by omega)).2.1
  obtain ⟨A9, c9, rfl, hc1, hc2⟩ := own_cap hown
  have HLq : Hid (LinesAt wc A9 (quoteIn zs i) MM) := Lib.hid (by
    refine ⟨by rw [hql]; exact Reads.of_own hown, by omega, fun z hz => ?_, (HLi.out.below hbw).cell⟩
    exact HQz.out z hz)
  have HC := Lib.hid (HRec.out (quoteIn zs i) A9 c9 wc HLq.out (by omega) hc2)
  rw [hql] at HC
  have hdd : (d : Int) + 1 = ((d + 1 : Nat) : Int) := by omega
  have HDD := Lib.hid hdd
  clear HZ0 HB0 HM HRec hown hZ hql hqs HLq hdd
  go_wp2_with fail
  rw [HDD.out]
  ((with_reducible refine (HC.out).mono ?_))
  rintro e w2 ⟨hp, b2⟩
  have HZ2 := Lib.hid (HZr.out.below (w := w) b2)
  have HB2 := Lib.hid (hbw.trans (b2.mono hzr))
  obtain ⟨k0, k1, k2, k3, k4, k5, k6, k7, k8, k9, k10, y0, y1, y2, y3, y4, y5, y6, y7, y8, y9, y10⟩ := ZB.facts HZ2.out
  cases hRc : rec (quoteIn zs i) with
  | none =>
    have HRc := Lib.hid hRc
    rw [hRc] at hp
    subst hp
    unfold bkErr
    clear HC hRc
    go_wp2_with fail
    exact quoteAt_ret (blk11 HZ2.out _ _ _ _ _ _ _ _ _ _ _) rfl rfl rfl rfl (bk_none (by rw [HRc.out]; rfl) ⟨_, _, _, _, _, _, _, _, _, _, _, _, _, _, _, _, _, _, _, rfl⟩ (below11 HB2.out (Nat.le_refl _) _ _ _ _ _ _ _ _ _ _ _))
  | some bs =>
    have HRc := Lib.hid hRc
    rw [hRc] at hp
    obtain ⟨A1, c1, A2, n2, c2, rfl, hk⟩ := hp
    have HK := Lib.hid hk
    clear HC hk hRc
    go_wp2_with fail
    exact quoteAt_ret (blk11 HZ2.out _ _ _ _ _ _ _ _ _ _ _) rfl rfl rfl rfl (bk_some (by rw [HRc.out]; rfl) (repB_kid (HK.out.far (grown11 _ _ _ _ _ _ _ _ _ _ _ _ _) hzl (by omega))) (below11 HB2.out (Nat.le_refl _) _ _ _ _ _ _ _ _ _ _ _))

end Go.Proofs.YtpoafhgbhnblmaaGreatDoor
namespace Go.Proofs.YtpoafhgbhnblmaaGreatDoor
open Go.RowKit Go.Pub
/-- The mark's block and the result's, still empty. -/
structure DW (w : World) (MK : Array Value) (W : World) : Prop where
  mrk : Blk W w.heap.size 74 MK
  res : ZB W (w.heap.size + 1)
  bel : Below w.heap.size w W
def zbC : Array Value := #[.int .i64 0, .int .i64 0, .string ⟨#[]⟩, .string ⟨#[]⟩, .string ⟨#[]⟩, .string ⟨#[]⟩, .string ⟨#[]⟩, .slice none 0 0, .slice none 0 0, .slice none 0 0, .slice none 0 0]
theorem dw_start (w : World) (MK : Array Value) : DW w MK ((w.alloc (.cells MK 74)).alloc (.cells zbC 46)) := by
  refine ⟨(Blk.new w _ _).alloc _, ?_, ((Below.refl _ w).alloc (Nat.le_refl _) _).alloc (by simp) _⟩
  have h := Blk.new (w.alloc (.cells MK 74)) 46 zbC
  unfold ZB
  simp at h
  exact h
theorem DW.next {w W W' : World} {MK : Array Value} (h : DW w MK W) (hb : Below W.heap.size W W') : DW w MK W' :=
  ⟨h.mrk.below hb h.mrk.lt, h.res.below (w := w) hb, h.bel.trans (hb.mono h.bel.size)⟩
theorem closeI_bd (zs : List ByteArray) (m : MkL) (i : Nat) (hi : i < zs.length) : i + 1 ≤ closeI zs m (i + 1) ∧ closeI zs m (i + 1) ≤ zs.length := by
  have := seek_spec (closeP zs m) zs.length (i + 1) (by omega)
  exact ⟨this.1, this.2.1⟩
theorem AttR.far {w w' : World} {B B' : Nat} {a : AttrL} {A1 A2 : Option Addr} (h : AttR w (Rg B w) a A1 A2) (hb : Below w.heap.size w w') (hB : B' ≤ B) : AttR w' (Rg B' w') a A1 A2 :=
  h.keep (fun x hx => hb.block x hx.2) fun x hx => ⟨by have := hx.1; omega, Nat.lt_of_lt_of_le hx.2 hb.size⟩
end Go.Proofs.YtpoafhgbhnblmaaGreatDoor
namespace Go.Proofs.YtpoafhgbhnblmaaGreatDoor
open Go.RowKit Go.Pub
/-- As BkPost, what is read lying in S. -/
def BkPostS (S : World → Nat → Prop) (r : Option (BkT × Nat)) (w : World) (e : Ending) (w' : World) : Prop :=
  Below w.heap.size w w' ∧ match r with
  | none => ∃ (v : Array Value) (u : Int), AnyB v ∧ e = .returned (.tuple #[.agg v, .int .i64 u, .int .i64 11])
  | some p => ∃ v, e = .returned (.tuple #[.agg v, .int .i64 p.2, .int .i64 0]) ∧ RepB w' (S w') v p.1
theorem bks_some {S : World → Nat → Prop} {r : Option (BkT × Nat)} {b : BkT} {t : Nat} {w w' : World} {v : Array Value} (hr : r = some (b, t)) (hv : RepB w' (S w') v b) (hb : Below w.heap.size w w') : BkPostS S r w (.returned (.tuple #[.agg v, .int .i64 t, .int .i64 0])) w' := by
  subst hr; exact ⟨hb, v, rfl, hv⟩
theorem bks_none {S : World → Nat → Prop} {r : Option (BkT × Nat)} {u : Int} {w w' : World} {v : Array Value} (hr : r = none) (hv : AnyB v) (hb : Below w.heap.size w w') : BkPostS S r w (.returned (.tuple #[.agg v, .int .i64 u, .int .i64 11])) w' := by
  subst hr; exact ⟨hb, v, u, hv, rfl⟩
set_option maxRecDepth 100000 in
set_option maxHeartbeats 4000000 in
theorem n_div2 (rec : List ByteArray → Option (List BkT)) (d : Nat) (hd : d ≤ 15) (zs : List ByteArray) (A : Option Addr) (c i : Nat) (MM : Int) (m : MkL) (A9 : Option Addr) (c9 : Nat) (A10 : Option Addr) (c10 : Nat) (w : World) (hR : RecP rec (d + 1) MM) (hL : LinesAt w A zs MM) (hi : i < zs.length) (hc : zs.length ≤ c) (hcm : c ≤ maxLen) (T : Nat → Prop) (hT : ∀ g, T g → g < w.heap.size) (ha : AttR w T m.att A9 A10) :
    Calls Tryz.prog 74 #[.slice A zs.length c, .int .i64 i, .agg (m.cells (.slice A9 m.att.cl.length c9) (.slice A10 m.att.pr.length c10)), .int .i64 d] w
      (BkPostS (fun w' g => T g ∨ Rg w.heap.size w' g) ((rec (cutL zs (i + 1) (closeI zs m (i + 1)))).map fun k => (.mk 13 0 m.info ⟨#[]⟩ ⟨#[]⟩ ⟨#[]⟩ m.att ⟨#[]⟩ k, min (closeI zs m (i + 1) + 1) zs.length)) w) := by
  have hlen := hL.len
  have hbd := closeI_bd zs m i hi
  obtain ⟨b, off, rfl, hb, hcell⟩ := hL.get (by omega)
  have HLi := Lib.hid hL
  have HC := Lib.hid fun W (h : LinesAt W (some ⟨b, off, none⟩) zs MM) => n_closing zs (some ⟨b, off, none⟩) c i MM m A9 m.att.cl.length c9 A10 m.att.pr.length c10 W h hi
  have HR : Hid (∀ (W : World) (A' : Option Addr) (c' : Nat), LinesAt W (some ⟨b, off, none⟩) zs MM → (A' = some ⟨b, off + (i + 1), none⟩ ∨ closeI zs m (i + 1) = i + 1) → closeI zs m (i + 1) - (i + 1) ≤ c' → c' ≤ maxLen →
      Calls Tryz.prog 30 #[.slice A' (closeI zs m (i + 1) - (i + 1)) c', .int .i64 ((d + 1 : Nat) : Int)] W fun e w' =>
        (match rec (cutL zs (i + 1) (closeI zs m (i + 1))) with
         | none => e = .returned bkErr
         | some bs => ∃ A1 c1 A2 n2 c2, e = .returned (.tuple #[.slice A1 bs.length c1, .slice A2 n2 c2, .int .i64 0]) ∧ KidsV w' (Rg W.heap.size w') (.slice A1 bs.length c1) bs) ∧ Below W.heap.size W w') := Lib.hid fun W A' c' h1 h2 h3 h4 => by
    have hl := cutL_len zs (i + 1) (closeI zs m (i + 1)) hbd.1 hbd.2
    have := hR (cutL zs (i + 1) (closeI zs m (i + 1))) A' c' W (h1.cut' (i + 1) _ hbd.1 hbd.2 A' h2) (by omega) h4
    rwa [hl] at this
  have HS := Lib.hid (dw_start w (m.cells (.slice A9 m.att.cl.length c9) (.slice A10 m.att.pr.length c10)))
  have HA := Lib.hid ha
  have HTT := Lib.hid hT
  obtain ⟨R, hRr⟩ : ∃ R, R = rec (cutL zs (i + 1) (closeI zs m (i + 1))) := ⟨_, rfl⟩
  rw [← hRr] at HR ⊢
  obtain ⟨t, ht⟩ : ∃ t, t = closeI zs m (i + 1) := ⟨_, rfl⟩
  rw [← ht] at HC HR hbd ⊢
  have HMn : ∀ w : World, (Builtin.min_ #[3, 3] 3 #[.int .i64 ((t : Int) + 1), .int .i64 zs.length]).run Tryz.prog w = .ok (.int .i64 ((min (t + 1) zs.length : Nat) : Int)) w := fun w => by
    rw [run_min_int2]
    congr 2
    split <;> omega
  have HDD := Lib.hid (show (d : Int) + 1 = ((d + 1 : Nat) : Int) by omega)
  unfold maxLen at hcm
  clear hL hcell hR ha ht hRr hT
  unfold MkL.cells zbC at HS
  unfold ClsPost MkL.cells at HC
  unfold MkL.cells
  go_enter Tryz.func74, Tryz.ntmps74
  have HB0 := Lib.hid HS.out.bel
  obtain ⟨p0, p1, p2, p3, p4, p5, p6, p7, p8, p9, p10, x0, x1, x2, x3, x4, x5, x6, x7, x8, x9, x10⟩ := mk_facts HS.out.mrk
  go_wp2_with fail
  ((with_reducible refine (HC.out _ (HLi.out.below HB0.out)).mono ?_))
  rintro e w1 ⟨⟨vC, vP, rfl, ho⟩, b1⟩
  obtain ⟨A1, c1, rfl⟩ := own_slice ho.cls
  obtain ⟨A2, c2, rfl⟩ := own_slice ho.prs
  have HS1 := Lib.hid (HS.out.next b1)
  clear ho b1 HC p0 p1 p2 p3 p4 p5 p6 p7 p8 p9 p10 x0 x1 x2 x3 x4 x5 x6 x7 x8 x9 x10 HS HB0
  go_wp2_with fail
  all_goals
    rw [HDD.out]
    generalize hW : w1.alloc _ = W2
    have HS2 := Lib.hid (hW ▸ HS1.out.next ((Below.refl _ w1).alloc (Nat.le_refl _) _))
    clear hW
    ((with_reducible refine (HR.out _ _ _ (HLi.out.below HS2.out.bel) (by first | exact .inl rfl | exact .inr (by omega)) (by omega) (by unfold maxLen; omega)).mono ?_))
    rintro e w3 ⟨hp, b3⟩
    have HS3 := Lib.hid (HS2.out.next b3)
    have hz3 := b3.size
    have hm3 := HS2.out.res.lt
    obtain ⟨p0, p1, p2, p3, p4, p5, p6, p7, p8, p9, p10, x0, x1, x2, x3, x4, x5, x6, x7, x8, x9, x10⟩ := mk_facts HS3.out.mrk
    obtain ⟨k0, k1, k2, k3, k4, k5, k6, k7, k8, k9, k10, y0, y1, y2, y3, y4, y5, y6, y7, y8, y9, y10⟩ := ZB.facts HS3.out.res
    have HBe : Hid (∀ z0 z1 z2 z3 z4 z5 z6 z7 z8 z9 z10, Below w.heap.size w (((((((((((w3.setCell ⟨w.heap.size + 1, 0, none⟩ z0).setCell ⟨w.heap.size + 1, 1, none⟩ z1).setCell ⟨w.heap.size + 1, 2, none⟩ z2).setCell ⟨w.heap.size + 1, 3, none⟩ z3).setCell ⟨w.heap.size + 1, 4, none⟩ z4).setCell ⟨w.heap.size + 1, 5, none⟩ z5).setCell ⟨w.heap.size + 1, 6, none⟩ z6).setCell ⟨w.heap.size + 1, 7, none⟩ z7).setCell ⟨w.heap.size + 1, 8, none⟩ z8).setCell ⟨w.heap.size + 1, 9, none⟩ z9).setCell ⟨w.heap.size + 1, 10, none⟩ z10)) := Lib.hid fun z0 z1 z2 z3 z4 z5 z6 z7 z8 z9 z10 => below11 HS3.out.bel (Nat.le_succ _) z0 z1 z2 z3 z4 z5 z6 z7 z8 z9 z10
    cases R with
    | none =>
      subst hp
      unfold bkErr
      clear HR b3
      go_wp2_with fail
      exact divAt_ret (blk11 HS3.out.res _ _ _ _ _ _ _ _ _ _ _) rfl rfl rfl rfl (bks_none rfl ⟨_, _, _, _, _, _, _, _, _, _, _, _, _, _, _, _, _, _, _, rfl⟩ (HBe.out _ _ _ _ _ _ _ _ _ _ _))
    | some bs =>
      obtain ⟨A3, c3, A4, n4, c4, rfl, hk⟩ := hp
      have HK := Lib.hid hk
      clear HR hk b3
      go_wp2_with fail
      exact divAt_ret (blk11 HS3.out.res _ _ _ _ _ _ _ _ _ _ _) rfl rfl rfl rfl (bks_some rfl (repB_mk (att := m.att) (HA.out.keep (fun g hg => (HBe.out _ _ _ _ _ _ _ _ _ _ _).block g (HTT.out g hg)) fun g hg => .inl hg) (srcV_none _ _) ((HK.out.far (B' := w.heap.size) (grown11 _ _ _ _ _ _ _ _ _ _ _ _ _) hm3 (by omega)).keep (fun _ _ => rfl) fun g hg => .inr hg)) (HBe.out _ _ _ _ _ _ _ _ _ _ _))

end Go.Proofs.YtpoafhgbhnblmaaGreatDoor
