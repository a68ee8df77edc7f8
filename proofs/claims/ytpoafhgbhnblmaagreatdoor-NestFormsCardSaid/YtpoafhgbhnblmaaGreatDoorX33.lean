/-
  Texts of the proof, put together (what this law reaches): NsF, NsH, NsI, NsL.
-/
import Derived.Test.YtpoafhgbhnblmaaGreatDoorX27
import Derived.Test.YtpoafhgbhnblmaaGreatDoorX32
import Derived.Test.YtpoafhgbhnblmaaGreatDoorX29
import Derived.Test.YtpoafhgbhnblmaaGreatDoorX15
import Derived.Deep.CutBlock
import Derived.Deep.DeepCutAuto
set_option linter.unusedVariables false
set_option linter.unusedSimpArgs false
namespace Go.Proofs.YtpoafhgbhnblmaaGreatDoor
open Go.RowKit Go.Pub
theorem block_info : (Tryz.prog.info? 46).map (fun i => (i.zero, i.size, i.bytes)) = some (some (.agg #[.int .i64 0, .int .i64 0, .string ⟨#[]⟩, .string ⟨#[]⟩, .string ⟨#[]⟩, .string ⟨#[]⟩, .string ⟨#[]⟩, .slice none 0 0, .slice none 0 0, .slice none 0 0, .slice none 0 0]), 11, 192) := by kernel_rfl
theorem range_info : (Tryz.prog.info? 34).map (fun i => (i.zero, i.size, i.bytes)) = some (some (.agg #[.int .i64 0, .int .i64 0]), 2, 16) := by kernel_rfl
/-- What a caller of blockAt may lean on. -/
def AtP (n d : Nat) (zs : List ByteArray) (A : Option Addr) (c : Nat) (MM : Int) : Prop :=
  ∀ (i B : Nat) (W : World) (A9 : Option Addr) (c9 : Nat) (A10 : Option Addr) (c10 : Nat), i < zs.length → blankB (ln zs i) = false → B ≤ W.heap.size → LinesAt W A zs MM → AttR W (Rg B W) (markM (ln zs i)).att A9 A10 →
    Calls Tryz.prog 39 #[.slice A zs.length c, .int .i64 i, .agg ((markM (ln zs i)).cells (.slice A9 (markM (ln zs i)).att.cl.length c9) (.slice A10 (markM (ln zs i)).att.pr.length c10)), .int .i64 d] W (BkPost B (atN n zs i (markM (ln zs i))) W)
/-- The loop's state. -/
def BlRel (n : Nat) (zs : List ByteArray) (w : World) (v7 v8 v9 : Value) (wr : World) : Prop :=
  ∃ (i : Nat) (bs : List BkT) (rs : List (Nat × Nat)), v9 = .int .i64 i ∧ i ≤ zs.length ∧ Hid (KOwn wr w.heap.size (fun g => v8.ownBlock = some g) v7 bs) ∧ wr.ownsRow w.heap.size 34 2 v8 rs.length (rngs rs) ∧ bs.length ≤ i ∧ rs.length ≤ i ∧ Below w.heap.size w wr ∧
    Hid (blocksN n zs = (restT (atN n zs) zs i).map fun p => (bs ++ p.1, rs ++ p.2))
theorem KOwn.own {w : World} {base : Nat} {E : Nat → Prop} {v : Value} {bs : List BkT} (h : KOwn w base E v bs) : ∃ A c, v = .slice A bs.length c := by
  obtain ⟨S, vs, hS, hk, ho⟩ := h
  exact own_slice ho
theorem blocks_step (n : Nat) (zs : List ByteArray) (i : Nat) (h : i < zs.length) (hb : blankB (ln zs i) = false) : restT (atN n zs) zs i =
    match atN n zs i (markM (ln zs i)) with
    | none => none
    | some (b, tq) => (restT (atN n zs) zs tq).map fun r => (b :: r.1, (i, tq) :: r.2) :=
  restT_step _ _ (fun i r h e => (atN_bd n zs i r h e).1) i h hb
theorem rngs_snoc (rs : List (Nat × Nat)) (i t : Nat) : rngs rs ++ [.int .i64 (i : Nat), .int .i64 (t : Nat)] = rngs (rs ++ [(i, t)]) := by
  unfold rngs; rw [List.flatMap_append]; rfl
end Go.Proofs.YtpoafhgbhnblmaaGreatDoor
namespace Go.Proofs.YtpoafhgbhnblmaaGreatDoor
open Go.RowKit Go.Pub
/-- The blocks at a depth, for a caller within nest. -/
def RecP (rec : List ByteArray → Option (List BkT)) (d : Nat) (MM : Int) : Prop :=
  ∀ (zs : List ByteArray) (A : Option Addr) (c : Nat) (W : World), LinesAt W A zs MM → zs.length ≤ c → c ≤ maxLen → Calls Tryz.prog 30 #[.slice A zs.length c, .int .i64 d] W fun e w' =>
    (match rec zs with
     | none => e = .returned bkErr
     | some bs => ∃ A1 c1 A2 n2 c2, e = .returned (.tuple #[.slice A1 bs.length c1, .slice A2 n2 c2, .int .i64 0]) ∧ KidsV w' (Rg W.heap.size w') (.slice A1 bs.length c1) bs) ∧ Below W.heap.size W w'
/-- The result's block, still empty. -/
def ZB (W : World) (g : Nat) : Prop := Blk W g 46 #[.int .i64 0, .int .i64 0, .string ⟨#[]⟩, .string ⟨#[]⟩, .string ⟨#[]⟩, .string ⟨#[]⟩, .string ⟨#[]⟩, .slice none 0 0, .slice none 0 0, .slice none 0 0, .slice none 0 0]
/-- A block out of its parts. -/
theorem repB_mk {w : World} {S : Nat → Prop} {kind level : Nat} {info text dest title : ByteArray} {att : AttrL} {line : ByteArray} {kids : List BkT} {A1 A2 : Option Addr} {c1 c2 : Nat} {vL vK : Value}
    (ha : AttR w S att A1 A2) (hl : SrcV w S vL line) (hk : KidsV w S vK kids) :
    RepB w S #[.int .i64 kind, .int .i64 level, .string info, .string text, .string dest, .string title, .string att.id, .slice A1 att.cl.length c1, .slice A2 att.pr.length c2, vL, vK] (.mk kind level info text dest title att line kids) := by
  obtain ⟨A, c, vs, rfl, h1, h2⟩ := hk
  exact .mk kind level info text dest title att line kids A1 A2 A c1 c2 c vL vs ha hl h1 h2
theorem srcV_none (w : World) (S : Nat → Prop) : SrcV w S (.slice none 0 0) ⟨#[]⟩ := by unfold SrcV; exact if_pos (show (⟨#[]⟩ : ByteArray).size = 0 from rfl) ▸ rfl
/-- A block that only holds others. -/
theorem repB_kid {w : World} {S : Nat → Prop} {kind : Nat} {kids : List BkT} {vK : Value} (hk : KidsV w S vK kids) : RepB w S #[.int .i64 kind, .int .i64 (0 : Nat), .string ⟨#[]⟩, .string ⟨#[]⟩, .string ⟨#[]⟩, .string ⟨#[]⟩, .string ⟨#[]⟩, .slice none 0 0, .slice none 0 0, .slice none 0 0, vK] (kidB kind kids) :=
  repB_mk (att := emptyA) (AttR.empty _ _ _ _) (srcV_none _ _) hk
theorem KidsV.far {w w' : World} {B B' g : Nat} {v : Value} {bs : List BkT} (h : KidsV w (Rg B w) v bs) (hg : w.grownBy w' (some g)) (hlt : g < B) (hB : B' ≤ B) : KidsV w' (Rg B' w') v bs :=
  h.keep (fun x hx => hg.block x hx.2 fun e => by injection e with e; have := hx.1; omega) fun x hx => ⟨by have := hx.1; omega, Nat.lt_of_lt_of_le hx.2 hg.size⟩
theorem ZB.facts {W : World} {g : Nat} (h : ZB W g) : W.cell? ⟨g, 0, none⟩ = some (.int .i64 0) ∧ W.cell? ⟨g, 1, none⟩ = some (.int .i64 0) ∧ W.cell? ⟨g, 2, none⟩ = some (.string ⟨#[]⟩) ∧ W.cell? ⟨g, 3, none⟩ = some (.string ⟨#[]⟩) ∧ W.cell? ⟨g, 4, none⟩ = some (.string ⟨#[]⟩) ∧ W.cell? ⟨g, 5, none⟩ = some (.string ⟨#[]⟩) ∧ W.cell? ⟨g, 6, none⟩ = some (.string ⟨#[]⟩) ∧ W.cell? ⟨g, 7, none⟩ = some (.slice none 0 0) ∧ W.cell? ⟨g, 8, none⟩ = some (.slice none 0 0) ∧ W.cell? ⟨g, 9, none⟩ = some (.slice none 0 0) ∧ W.cell? ⟨g, 10, none⟩ = some (.slice none 0 0) ∧ W.frozen? ⟨g, 0, none⟩ = false ∧ W.frozen? ⟨g, 1, none⟩ = false ∧ W.frozen? ⟨g, 2, none⟩ = false ∧ W.frozen? ⟨g, 3, none⟩ = false ∧ W.frozen? ⟨g, 4, none⟩ = false ∧ W.frozen? ⟨g, 5, none⟩ = false ∧ W.frozen? ⟨g, 6, none⟩ = false ∧ W.frozen? ⟨g, 7, none⟩ = false ∧ W.frozen? ⟨g, 8, none⟩ = false ∧ W.frozen? ⟨g, 9, none⟩ = false ∧ W.frozen? ⟨g, 10, none⟩ = false := mk_facts h
theorem ZB.below {w W W' : World} {g : Nat} (h : ZB W g) (hb : Below W.heap.size W W') : ZB W' g := Blk.below h hb (Blk.lt h)
/-- A block is handed back. -/
theorem bk_some {B : Nat} {r : Option (BkT × Nat)} {b : BkT} {t : Nat} {w w' : World} {v : Array Value} (hr : r = some (b, t)) (hv : RepB w' (Rg B w') v b) (hb : Below w.heap.size w w') : BkPost B r w (.returned (.tuple #[.agg v, .int .i64 t, .int .i64 0])) w' := by
  subst hr; exact ⟨hb, v, rfl, hv⟩
theorem bk_none {B : Nat} {r : Option (BkT × Nat)} {u : Int} {w w' : World} {v : Array Value} (hr : r = none) (hv : AnyB v) (hb : Below w.heap.size w w') : BkPost B r w (.returned (.tuple #[.agg v, .int .i64 u, .int .i64 11])) w' := by
  subst hr; exact ⟨hb, v, u, hv, rfl⟩
/-- The lines of a quotation so far. -/
def quoteK (zs : List ByteArray) (i k : Nat) : List ByteArray := (cutL zs i k).map fun z => (markM z).rest
theorem quoteK_len (zs : List ByteArray) (i k : Nat) (h : i ≤ k) (hk : k ≤ zs.length) : (quoteK zs i k).length = k - i := by unfold quoteK; rw [List.length_map, cutL_len _ _ _ h hk]
theorem cutL_succ (zs : List ByteArray) (i k : Nat) (h : i ≤ k) (hk : k < zs.length) : cutL zs i (k + 1) = cutL zs i k ++ [ln zs k] := by
  unfold cutL
  rw [show k + 1 - i = (k - i) + 1 by omega, List.take_succ_eq_append_getElem (by rw [List.length_drop]; omega)]
  congr 2
  rw [List.getElem_drop, ← ln_at zs k hk]
  congr 1
  omega
theorem quoteK_succ (zs : List ByteArray) (i k : Nat) (h : i ≤ k) (hk : k < zs.length) : strs (quoteK zs i (k + 1)) = strs (quoteK zs i k) ++ [.string (markM (ln zs k)).rest] := by
  unfold quoteK strs
  rw [cutL_succ zs i k h hk, List.map_append, List.map_append]
  rfl
theorem cutL_idx {zs : List ByteArray} {i k : Nat} {y : ByteArray} (h : y ∈ cutL zs i k) (hk : k ≤ zs.length) : ∃ j, i ≤ j ∧ j < k ∧ y = ln zs j := by
  obtain ⟨n, hn, rfl⟩ := List.mem_iff_getElem.1 h
  rcases Nat.lt_or_ge i k with hlt | hge
  · have hl := cutL_len zs i k (by omega) hk
    exact ⟨i + n, by omega, by omega, by rw [ln_at _ n hn, ln_cut zs i k n (by omega)]⟩
  · unfold cutL at hn
    rw [show k - i = 0 by omega] at hn
    simp at hn
theorem quoteIn_size (zs : List ByteArray) (i : Nat) (hi : i ≤ zs.length) (hM : ∀ z ∈ zs, z.size ≤ 100000) : ∀ z ∈ quoteIn zs i, z.size ≤ 100000 := by
  intro z hz
  unfold quoteIn at hz
  obtain ⟨y, hy, rfl⟩ := List.mem_map.1 hz
  obtain ⟨s1, s2, s3, s4⟩ := seek_spec (fun j => !decide (kindOf zs j = 4)) zs.length i hi
  obtain ⟨j, h1, h2, rfl⟩ := cutL_idx hy s2
  have h4 := s3 j h1 h2
  simp only [Bool.not_eq_false', decide_eq_true_eq] at h4
  exact Nat.le_trans (mark_rest (ln zs j) (.inl h4)).1 (ln_size hM j)
/-- The loop's state: the lines so far, the line. -/
def QuRel (zs : List ByteArray) (i : Nat) (w : World) (v9 v10 : Value) (wr : World) : Prop :=
  ∃ k : Nat, v10 = .int .i64 k ∧ i ≤ k ∧ k ≤ zs.length ∧ wr.ownsRow (w.heap.size + 1) 9 1 v9 (k - i) (strs (quoteK zs i k)) ∧ ZB wr w.heap.size ∧ Below w.heap.size w wr ∧ Hid (∀ j, i ≤ j → j < k → kindOf zs j = 4)
set_option maxRecDepth 100000 in
set_option maxHeartbeats 4000000 in
theorem n_quote (rec : List ByteArray → Option (List BkT)) (d : Nat) (hd : d ≤ 15) (zs : List ByteArray) (A : Option Addr) (c i B : Nat) (MM : Int) (w : World) (hR : RecP rec (d + 1) MM) (hL : LinesAt w A zs MM) (hi : i < zs.length) (hB : B ≤ w.heap.size) :
    Calls Tryz.prog 70 #[.slice A zs.length c, .int .i64 i, .int .i64 d] w (BkPost B ((rec (quoteIn zs i)).map fun k => (kidB 6 k, quoteTo zs i)) w) := by
  obtain ⟨i0, hi0, hz0, hz1, hz2⟩ := info_parts strInfo
  have hlen := hL.len
  obtain ⟨b, off, rfl, hb, hcell⟩ := hL.get (by omega)
  have HCell := Lib.hid hcell
  have HLi := Lib.hid hL
  have HM : Hid (∀ j W, Calls Tryz.prog 38 #[.string (ln zs j)] W fun e w' => ∃ A c D d, e = .returned (.agg ((markM (ln zs j)).cells (.slice A (markM (ln zs j)).att.cl.length c) (.slice D (markM (ln zs j)).att.pr.length d))) ∧ Below W.heap.size W w') := Lib.hid fun j W => (m_of (ln zs j) W (Nat.le_trans (ln_size hL.sz j) (by decide))).mono fun e w' => mkpost_val
  have HRec := Lib.hid hR
  have HZ0 := Lib.hid (Blk.new w 46 #[.int .i64 0, .int .i64 0, .string ⟨#[]⟩, .string ⟨#[]⟩, .string ⟨#[]⟩, .string ⟨#[]⟩, .string ⟨#[]⟩, .slice none 0 0, .slice none 0 0, .slice none 0 0, .slice none 0 0])
  have HB0 : Hid (∀ o, Below w.heap.size w (w.alloc o)) := Lib.hid fun o => (Below.refl _ w).alloc (Nat.le_refl _) _
  have hdi : ((d : Nat) : Int) ≤ 15 := by omega
  have HQz := Lib.hid (quoteIn_size zs i (by omega) hL.sz)
  clear hL hcell hR
  go_enter Tryz.func70, Tryz.ntmps70
  go_upto_block 0 with fail
  go_cut [9, 10] (fun s9 s10 wx => s10 = .int .i64 (quoteTo zs i) ∧ wx.ownsRow (w.heap.size + 1) 9 1 s9 (quoteTo zs i - i) (strs (quoteIn zs i)) ∧ ZB wx w.heap.size ∧ Below w.heap.size w wx)
  case first =>
    go_wp2_with fail
    go_loopw [9, 10] (fun v9 v10 wr => QuRel zs i w v9 v10 wr) (fun _ v10 _ => zs.length - (intOf v10).toNat)
    case atStart => exact ⟨i, rfl, Nat.le_refl _, by omega, by rw [Nat.sub_self, show strs (quoteK zs i i) = [] by unfold quoteK cutL strs; simp]; exact World.ownsRow_nil _ _ _ _, HZ0.out, HB0.out _, Lib.hid fun j h1 h2 => absurd h2 (by omega)⟩
    case round =>
      clear HZ0 HB0
      obtain ⟨k, rfl, hik, hk, hown, hZ, hbw, Hq⟩ := hrel
      have hzr := hbw.size
      have hzl := Blk.lt hZ
      have HZr := Lib.hid hZ
      have HT : Hid (∀ h : k < zs.length → kindOf zs k ≠ 4, quoteTo zs i = k) := Lib.hid fun h => seek_eq _ _ _ _ hik hk (fun j h1 h2 => by rw [Hq.out j h1 h2]; rfl) (fun hl => by rw [decide_eq_false (h hl)]; rfl)
      by_cases hlt : k < zs.length
      · have hc0 : wr.cell? ⟨b, off + k, none⟩ = some (.string (ln zs k)) := (hbw.cell (p := ⟨b, off + k, none⟩) hb).trans (HCell.out k hlt)
        have HM1 := Lib.hid fun W => HM.out k W
        have HE := Lib.hid (quoteK_succ zs i k hik hlt)
        have hkk : Hid (kindOf zs k = (markM (ln zs k)).kind) := Lib.hid rfl
        clear HM hZ
        generalize markM (ln zs k) = m at *
        unfold MkL.cells at HM1
        go_wp2_with fail
        ((with_reducible refine (HM1.out _).mono ?_))
        rintro e w1 ⟨A1, c1, A2, c2, rfl, b1⟩
        have hz1' := b1.size
        have hown1 := own_below hown b1
        by_cases h4 : m.kind = 4
        · have z1 : (((m.kind : Nat) : Int) != 4) = false := by rw [bne_eq_false_iff_eq]; omega
          have z2 : ((m.kind : Nat) != 4) = false := by rw [bne_eq_false_iff_eq]; exact h4
          have HQ2 : Hid (∀ j, i ≤ j → j < k + 1 → kindOf zs j = 4) := Lib.hid fun j h1 h2 => by
            by_cases e : j = k
            · rw [e, hkk.out]; exact h4
            · exact Hq.out j h1 (by omega)
          clear h4 hkk HT Hq hown
          go_wp2_with (at_builtin; refine wpList_append_own _ rfl _ _ 22 rfl (w.heap.size + 1) 9 i0 _ 1 16 Tryz.underlying22 hi0 hz0 hz1 hz2 rfl (by decide) _ _ _ rfl ((hown1.alloc _).alloc _) ⟨w1.heap.size + 1, 0, none⟩ 1 1 [.string m.rest] rfl rfl ?c1 ?c2 ?c3 ?c4 ?c5 ?_)
          case c1 =>
            intro j u hj
            match j, hj with
            | 0, hj => simp at hj; subst hj; simp [Addr.add]
          case c2 => intro u hu; simp at hu; subst hu; rfl
          case c3 => unfold maxLen; omega
          case c4 => omega
          case c5 => simp; omega
          intro v' w2 hown3 hgrow _
          have HZ2 : Hid (ZB w2 w.heap.size) := Lib.hid (Blk.grown (Blk.alloc (Blk.alloc (HZr.out.below (w := w) b1) _) _) hgrow (fun e => by have := (hown1.lt _ e.symm).1; omega))
          have HB2 : Hid (Below w.heap.size w w2) := Lib.hid ((((hbw.trans (b1.mono hzr)).alloc (by omega) _).alloc (by simp; omega) _).grown hgrow (by simp; omega) (fun g hg => by have := (hown1.lt g hg).1; omega))
          clear hown1 hgrow
          go_wp2_with fail
          go_roundw
          case rel => exact ⟨k + 1, by go_num, by omega, by omega, by rw [show k + 1 - i = k - i + 1 by omega, HE.out]; exact hown3, HZ2.out, HB2.out, HQ2⟩
          case measure => simp [intOf]; omega
        · have z1 : (((m.kind : Nat) : Int) != 4) = true := by rw [bne_iff_ne]; omega
          have z2 : ((m.kind : Nat) != 4) = true := by rw [bne_iff_ne]; exact h4
          have HQ := Lib.hid (HT.out fun _ => by rw [hkk.out]; exact h4)
          clear h4 hkk HT Hq hown
          go_wp2_with fail
          go_meet
          rw [HQ.out]
          refine ⟨rfl, ?_, Blk.alloc (HZr.out.below (w := w) b1) _, (hbw.trans (b1.mono hzr)).alloc (by omega) _⟩
          have := hown1.alloc (.cells #[.int .i64 m.kind, .int .i64 m.n, .string m.ch, .int .i64 m.off, .string m.info, .string m.rest, .string m.dest, .string m.title, .string m.att.id, .slice A1 m.att.cl.length c1, .slice A2 m.att.pr.length c2] 74)
          unfold quoteIn
          rw [HQ.out]
          exact this
      · have HQ := Lib.hid (HT.out fun h => absurd h hlt)
        clear HM hZ HT Hq
        go_wp2_with fail
        go_meet
        rw [HQ.out]
        refine ⟨rfl, ?_, HZr.out, hbw⟩
        unfold quoteIn
        rw [HQ.out]
        exact hown
  case rest =>
  obtain ⟨rfl, hown, hZ, hbw⟩ := hcut
  have hzr := hbw.size
  have hzl := Blk.lt hZ
  have HZr := Lib.hid hZ
  have hql : (quoteIn zs i).length = quoteTo zs i - i := by
    have := seek_spec (fun j => !decide (kindOf zs j = 4)) zs.length i (by omega)
    exact quoteK_len zs i _ this.1 this.2.1
  have hqs : quoteTo zs i ≤ zs.length := (seek_spec (fun j => !decide (kindOf zs j = 4)) zs.length i (by omega)).2.1
  obtain ⟨A9, c9, rfl, hc1, hc2⟩ := own_cap hown
  have HLq : Hid (LinesAt wc A9 (quoteIn zs i) MM) := Lib.hid (by
    refine ⟨by rw [hql]; exact Reads.of_own hown, by omega, fun z hz => ?_, (HLi.out.below hbw).cell⟩
    exact HQz.out z hz)
  have HC := Lib.hid (HRec.out (quoteIn zs i) A9 c9 wc HLq.out (by omega) hc2)
  rw [hql] at HC
  have hdd : (d : Int) + 1 = ((d + 1 : Nat) : Int) := by omega
  have HDD := Lib.hid hdd
  clear HZ0 HB0 HM HRec hown hZ hql hqs HLq hdd
  go_wp2_with fail
  rw [HDD.out]
  ((with_reducible refine (HC.out).mono ?_))
  rintro e w2 ⟨hp, b2⟩
  have HZ2 := Lib.hid (HZr.out.below (w := w) b2)
  have HB2 := Lib.hid (hbw.trans (b2.mono hzr))
  obtain ⟨k0, k1, k2, k3, k4, k5, k6, k7, k8, k9, k10, y0, y1, y2, y3, y4, y5, y6, y7, y8, y9, y10⟩ := ZB.facts HZ2.out
  cases hRc : rec (quoteIn zs i) with
  | none =>
    have HRc := Lib.hid hRc
    rw [hRc] at hp
    subst hp
    unfold bkErr
    clear HC hRc
    go_wp2_with fail
    exact quoteAt_ret (blk11 HZ2.out _ _ _ _ _ _ _ _ _ _ _) rfl rfl rfl rfl (bk_none (by rw [HRc.out]; rfl) ⟨_, _, _, _, _, _, _, _, _, _, _, _, _, _, _, _, _, _, _, rfl⟩ (below11 HB2.out (Nat.le_refl _) _ _ _ _ _ _ _ _ _ _ _))
  | some bs =>
    have HRc := Lib.hid hRc
    rw [hRc] at hp
    obtain ⟨A1, c1, A2, n2, c2, rfl, hk⟩ := hp
    have HK := Lib.hid hk
    clear HC hk hRc
    go_wp2_with fail
    exact quoteAt_ret (blk11 HZ2.out _ _ _ _ _ _ _ _ _ _ _) rfl rfl rfl rfl (bk_some (by rw [HRc.out]; rfl) (repB_kid (HK.out.far (grown11 _ _ _ _ _ _ _ _ _ _ _ _ _) hzl (by omega))) (below11 HB2.out (Nat.le_refl _) _ _ _ _ _ _ _ _ _ _ _))

end Go.Proofs.YtpoafhgbhnblmaaGreatDoor
namespace Go.Proofs.YtpoafhgbhnblmaaGreatDoor
open Go.RowKit Go.Pub
/-- The mark's block and the result's, still empty. -/
structure DW (w : World) (MK : Array Value) (W : World) : Prop where
  mrk : Blk W w.heap.size 74 MK
  res : ZB W (w.heap.size + 1)
  bel : Below w.heap.size w W
def zbC : Array Value := #[.int .i64 0, .int .i64 0, .string ⟨#[]⟩, .string ⟨#[]⟩, .string ⟨#[]⟩, .string ⟨#[]⟩, .string ⟨#[]⟩, .slice none 0 0, .slice none 0 0, .slice none 0 0, .slice none 0 0]
theorem dw_start (w : World) (MK : Array Value) : DW w MK ((w.alloc (.cells MK 74)).alloc (.cells zbC 46)) := by
  refine ⟨(Blk.new w _ _).alloc _, ?_, ((Below.refl _ w).alloc (Nat.le_refl _) _).alloc (by simp) _⟩
  have h := Blk.new (w.alloc (.cells MK 74)) 46 zbC
  unfold ZB
  simp at h
  exact h
theorem DW.next {w W W' : World} {MK : Array Value} (h : DW w MK W) (hb : Below W.heap.size W W') : DW w MK W' :=
  ⟨h.mrk.below hb h.mrk.lt, h.res.below (w := w) hb, h.bel.trans (hb.mono h.bel.size)⟩
theorem closeI_bd (zs : List ByteArray) (m : MkL) (i : Nat) (hi : i < zs.length) : i + 1 ≤ closeI zs m (i + 1) ∧ closeI zs m (i + 1) ≤ zs.length := by
  have := seek_spec (closeP zs m) zs.length (i + 1) (by omega)
  exact ⟨this.1, this.2.1⟩
theorem AttR.far {w w' : World} {B B' : Nat} {a : AttrL} {A1 A2 : Option Addr} (h : AttR w (Rg B w) a A1 A2) (hb : Below w.heap.size w w') (hB : B' ≤ B) : AttR w' (Rg B' w') a A1 A2 :=
  h.keep (fun x hx => hb.block x hx.2) fun x hx => ⟨by have := hx.1; omega, Nat.lt_of_lt_of_le hx.2 hb.size⟩
end Go.Proofs.YtpoafhgbhnblmaaGreatDoor
namespace Go.Proofs.YtpoafhgbhnblmaaGreatDoor
open Go.RowKit Go.Pub
/-- The mark's block, the result's, the list's. -/
structure LW (w : World) (MK LB : Array Value) (W : World) : Prop where
  mrk : Blk W w.heap.size 74 MK
  res : ZB W (w.heap.size + 1)
  lst : Blk W (w.heap.size + 2) 46 LB
  bel : Below w.heap.size w W
theorem LW.next {w W W' : World} {MK LB : Array Value} (h : LW w MK LB W) (hb : Below W.heap.size W W') : LW w MK LB W' :=
  ⟨h.mrk.below hb h.mrk.lt, h.res.below (w := w) hb, h.lst.below hb h.lst.lt, h.bel.trans (hb.mono h.bel.size)⟩
def liC (kind level : Int) (vK : Value) : Array Value := #[.int .i64 kind, .int .i64 level, .string ⟨#[]⟩, .string ⟨#[]⟩, .string ⟨#[]⟩, .string ⟨#[]⟩, .string ⟨#[]⟩, .slice none 0 0, .slice none 0 0, .slice none 0 0, vK]
theorem lw_start (w : World) (MK : Array Value) (k l : Int) : LW w MK (liC k l (.slice none 0 0)) (((w.alloc (.cells MK 74)).alloc (.cells zbC 46)).alloc (.cells (liC k l (.slice none 0 0)) 46)) := by
  have h := dw_start w MK
  refine ⟨h.mrk.alloc _, Blk.alloc h.res _, ?_, h.bel.alloc h.bel.size _⟩
  have h2 := Blk.new ((w.alloc (.cells MK 74)).alloc (.cells zbC 46)) 46 (liC k l (.slice none 0 0))
  simp at h2
  exact h2
theorem KOwn.far {w w' : World} {base g : Nat} {E : Nat → Prop} {v : Value} {bs : List BkT} (h : KOwn w base E v bs) (hg : w.grownBy w' (some g)) (hlt : g < base) : KOwn w' base E v bs := by
  obtain ⟨S, vs, hS, hk, ho⟩ := h
  refine ⟨S, vs, fun x hx => ⟨(hS x hx).1, Nat.lt_of_lt_of_le (hS x hx).2.1 hg.size, (hS x hx).2.2⟩, hk.keep (fun x hx => hg.block x (hS x hx).2.1 fun e => ?_) fun _ h => h, ho.kept hg ?_⟩
  · injection e with e; have := (hS x hx).1; omega
  · rcases ho.2 with ⟨rfl, _⟩ | ⟨g', cap, cur, rfl, hb, _⟩
    · exact .inl rfl
    · right
      intro e
      have : g' = g := by simpa [Value.ownBlock] using e
      omega
theorem KidsV.low {w : World} {B B' : Nat} {v : Value} {bs : List BkT} (h : KidsV w (Rg B w) v bs) (hB : B' ≤ B) : KidsV w (Rg B' w) v bs :=
  h.keep (fun _ _ => rfl) fun g hg => ⟨Nat.le_trans hB hg.1, hg.2⟩
theorem LW.grown {w W W' : World} {MK LB : Array Value} {tmp : Obj} {row : Option Nat} (h : LW w MK LB W) (hg : (W.alloc tmp).grownBy W' row) (hr : ∀ k, row = some k → w.heap.size + 3 ≤ k) : LW w MK LB W' :=
  ⟨(h.mrk.alloc _).grown hg (fun e => by have := hr _ e.symm; omega), Blk.grown (Blk.alloc h.res _) hg (fun e => by have := hr _ e.symm; omega), (h.lst.alloc _).grown hg (fun e => by have := hr _ e.symm; omega),
    (h.bel.alloc h.bel.size _).grown hg (by simp; exact Nat.le_succ_of_le h.bel.size) (fun k e => by have := hr k e; omega)⟩
theorem LW.store {w W : World} {MK : Array Value} {k l : Int} {v v' : Value} (h : LW w MK (liC k l v) W) : LW w MK (liC k l v') (W.setCell ⟨w.heap.size + 2, 10, none⟩ v') :=
  ⟨h.mrk.far (by simp) _, Blk.far h.res (by simp) _, h.lst.set_ 10 v', h.bel.setCell (p := ⟨w.heap.size + 2, 10, none⟩) (by simp) _⟩
theorem LW.mark {w W : World} {LB : Array Value} {z0 z1 z2 z3 z4 z5 z6 z7 z8 z9 z10 : Value} (h : LW w #[z0, z1, z2, z3, z4, z5, z6, z7, z8, z9, z10] LB W) (y0 y1 y2 y3 y4 y5 y6 y7 y8 y9 y10 : Value) : LW w #[y0, y1, y2, y3, y4, y5, y6, y7, y8, y9, y10] LB ((((((((((((W.setCell ⟨w.heap.size, 0, none⟩ y0).setCell ⟨w.heap.size, 1, none⟩ y1).setCell ⟨w.heap.size, 2, none⟩ y2).setCell ⟨w.heap.size, 3, none⟩ y3).setCell ⟨w.heap.size, 4, none⟩ y4).setCell ⟨w.heap.size, 5, none⟩ y5).setCell ⟨w.heap.size, 6, none⟩ y6).setCell ⟨w.heap.size, 7, none⟩ y7).setCell ⟨w.heap.size, 8, none⟩ y8).setCell ⟨w.heap.size, 9, none⟩ y9).setCell ⟨w.heap.size, 10, none⟩ y10).drewN 1) :=
  ⟨Blk.drewN (blk11 h.mrk y0 y1 y2 y3 y4 y5 y6 y7 y8 y9 y10) 1, Blk.drewN (Blk.grown h.res (grown11 W w.heap.size y0 y1 y2 y3 y4 y5 y6 y7 y8 y9 y10) (by simp)) 1, Blk.drewN (h.lst.grown (grown11 W w.heap.size y0 y1 y2 y3 y4 y5 y6 y7 y8 y9 y10) (by simp)) 1, below_drewN (below11 h.bel (Nat.le_refl _) y0 y1 y2 y3 y4 y5 y6 y7 y8 y9 y10) 1⟩
/-- What is asked of an item's mark. -/
structure MkOk (m : MkL) : Prop where
  off : m.off ≤ 1000000
  rest : m.rest.size ≤ 100000
  info : m.kind = 6 → m.info.size ≤ 1000000
theorem mkOk (s : ByteArray) (hs : s.size ≤ 100000) (h : (markM s).kind = 5 ∨ (markM s).kind = 6) : MkOk (markM s) :=
  ⟨Nat.le_trans (mark_small s).2 (by omega), Nat.le_trans (mark_rest s (by omega)).1 hs, fun h6 => Nat.le_trans (mark_info s h6) (by omega)⟩
theorem same_kind {a b : MkL} (h : sameR a b = true) : a.kind = b.kind := by
  unfold sameR at h
  rw [decide_eq_true_eq] at h
  exact h.1
/-- The loop's state. -/
def LiRel (rec : List ByteArray → Option (List BkT)) (zs : List ByteArray) (lk ll : Nat) (full : Option (List BkT × Nat)) (w : World) (v1 : Value) (wr : World) : Prop :=
  ∃ (i : Nat) (m : MkL) (A9 : Option Addr) (n9 c9 : Nat) (A10 : Option Addr) (n10 c10 : Nat) (vK : Value) (its : List BkT), v1 = .int .i64 i ∧ i < zs.length ∧ MkOk m ∧ (m.kind = 5 ∨ m.kind = 6) ∧
    LW w (m.cells (.slice A9 n9 c9) (.slice A10 n10 c10)) (liC lk ll vK) wr ∧ Hid (KOwn wr (w.heap.size + 3) (fun _ => False) vK its) ∧ its.length ≤ i ∧ Hid (full = (itemsT rec zs i m).map fun r => (its ++ r.1, r.2))
theorem li_facts {W : World} {g : Nat} {k l : Int} {vK : Value} (h : Blk W g 46 (liC k l vK)) : W.cell? ⟨g, 0, none⟩ = some (.int .i64 k) ∧ W.cell? ⟨g, 1, none⟩ = some (.int .i64 l) ∧ W.cell? ⟨g, 2, none⟩ = some (.string ⟨#[]⟩) ∧ W.cell? ⟨g, 3, none⟩ = some (.string ⟨#[]⟩) ∧ W.cell? ⟨g, 4, none⟩ = some (.string ⟨#[]⟩) ∧ W.cell? ⟨g, 5, none⟩ = some (.string ⟨#[]⟩) ∧ W.cell? ⟨g, 6, none⟩ = some (.string ⟨#[]⟩) ∧ W.cell? ⟨g, 7, none⟩ = some (.slice none 0 0) ∧ W.cell? ⟨g, 8, none⟩ = some (.slice none 0 0) ∧ W.cell? ⟨g, 9, none⟩ = some (.slice none 0 0) ∧ W.cell? ⟨g, 10, none⟩ = some vK ∧ W.frozen? ⟨g, 0, none⟩ = false ∧ W.frozen? ⟨g, 1, none⟩ = false ∧ W.frozen? ⟨g, 2, none⟩ = false ∧ W.frozen? ⟨g, 3, none⟩ = false ∧ W.frozen? ⟨g, 4, none⟩ = false ∧ W.frozen? ⟨g, 5, none⟩ = false ∧ W.frozen? ⟨g, 6, none⟩ = false ∧ W.frozen? ⟨g, 7, none⟩ = false ∧ W.frozen? ⟨g, 8, none⟩ = false ∧ W.frozen? ⟨g, 9, none⟩ = false ∧ W.frozen? ⟨g, 10, none⟩ = false := mk_facts h
set_option maxRecDepth 100000 in
set_option maxHeartbeats 1000000 in
theorem n_list (rec : List ByteArray → Option (List BkT)) (d : Nat) (hd : d ≤ 15) (zs : List ByteArray) (A : Option Addr) (c i B : Nat) (MM : Int) (m : MkL) (A9 : Option Addr) (n9 c9 : Nat) (A10 : Option Addr) (n10 c10 : Nat) (w : World) (hR : d + 1 ≤ 15 → RecP rec (d + 2) MM) (hL : LinesAt w A zs MM) (hi : i < zs.length) (hc : zs.length ≤ c) (hcm : c ≤ maxLen) (hB : B ≤ w.heap.size) (hok : MkOk m) (h56 : m.kind = 5 ∨ m.kind = 6) :
    Calls Tryz.prog 76 #[.slice A zs.length c, .int .i64 i, .agg (m.cells (.slice A9 n9 c9) (.slice A10 n10 c10)), .int .i64 d] w
      (BkPost B (if decide (d + 1 ≤ 15) = true then (itemsT rec zs i m).map (fun r => (listB m r.1, r.2)) else none) w) := by
  have hlen := hL.len
  obtain ⟨lk, hlk⟩ : ∃ lk : Nat, lk = if m.kind = 6 then 8 else 7 := ⟨_, rfl⟩
  obtain ⟨ll, hll⟩ : ∃ ll : Nat, ll = if m.kind = 6 then m.n else 0 := ⟨_, rfl⟩
  have HLB : Hid (∀ kids, listB m kids = .mk lk ll ⟨#[]⟩ ⟨#[]⟩ ⟨#[]⟩ ⟨#[]⟩ emptyA ⟨#[]⟩ kids) := Lib.hid fun kids => by rw [hlk, hll]; rfl
  obtain ⟨full, hfull⟩ : ∃ full, full = itemsT rec zs i m := ⟨_, rfl⟩
  rw [← hfull]
  obtain ⟨PR, hPR⟩ : ∃ PR, PR = if decide (d + 1 ≤ 15) = true then full.map (fun r => (listB m r.1, r.2)) else none := ⟨_, rfl⟩
  rw [← hPR]
  have HPR := Lib.hid hPR
  have HF0 : Hid (full = (itemsT rec zs i m).map fun r => (([] : List BkT) ++ r.1, r.2)) := Lib.hid (by rw [hfull]; cases itemsT rec zs i m <;> rfl)
  have HOK := Lib.hid hok
  have H56 := Lib.hid h56
  clear hPR hfull hok h56
  have HLi := Lib.hid hL
  have HS := Lib.hid (lw_start w (m.cells (.slice A9 n9 c9) (.slice A10 n10 c10)))
  have HS7 := Lib.hid (HS.out 7 0)
  have HSl : Hid (LW w (m.cells (.slice A9 n9 c9) (.slice A10 n10 c10)) (liC lk ll (.slice none 0 0)) (((w.alloc (.cells (m.cells (.slice A9 n9 c9) (.slice A10 n10 c10)) 74)).alloc (.cells zbC 46)).alloc (.cells (liC lk ll (.slice none 0 0)) 46))) := Lib.hid (HS.out lk ll)
  clear HS
  unfold liC zbC MkL.cells at HS7
  go_enter Tryz.func76, Tryz.ntmps76
  unfold MkL.cells
  go_upto_if 22 with fail
  go_cut [] (fun wx => LW w (m.cells (.slice A9 n9 c9) (.slice A10 n10 c10)) (liC lk ll (.slice none 0 0)) wx)
  case first =>
    rcases H56.out with h5 | h6
    · have e1 : lk = 7 := by rw [hlk, if_neg (by omega)]
      have e2 : ll = 0 := by rw [hll, if_neg (by omega)]
      have z1 : (((m.kind : Nat) : Int) == 6) = false := kF (by omega)
      have E1 := Lib.hid e1
      have E2 := Lib.hid e2
      clear hlk hll h5 e1 e2 HSl
      go_wp2_with fail
      go_meet
      rw [E1.out, E2.out]
      exact HS7.out
    · have e1 : lk = 8 := by rw [hlk, if_pos h6]
      have e2 : ll = m.n := by rw [hll, if_pos h6]
      have z1 : (((m.kind : Nat) : Int) == 6) = true := kT (by omega)
      have E1 := Lib.hid e1
      have E2 := Lib.hid e2
      clear hlk hll h6 e1 e2 HS7
      go_wp2_with fail
      go_meet
      have h := HSl.out
      rw [E1.out, E2.out] at h ⊢
      exact h
  case rest =>
  have HW := Lib.hid hcut
  clear HS7 HSl hcut hlk hll
  by_cases hd2 : d + 1 ≤ 15
  case neg =>
    have d1 : decide (15 < (d : Int) + 1) = true := decide_eq_true (by omega)
    obtain ⟨k0, k1, k2, k3, k4, k5, k6, k7, k8, k9, k10, y0, y1, y2, y3, y4, y5, y6, y7, y8, y9, y10⟩ := ZB.facts HW.out.res
    clear hR
    go_wp2_with fail
    exact listAt_ret (blk11 HW.out.res _ _ _ _ _ _ _ _ _ _ _) rfl rfl rfl rfl (bk_none (by rw [HPR.out, if_neg (by rw [decide_eq_true_eq]; exact hd2)]) ⟨_, _, _, _, _, _, _, _, _, _, _, _, _, _, _, _, _, _, _, rfl⟩ (below11 HW.out.bel (Nat.le_succ _) _ _ _ _ _ _ _ _ _ _ _))
  have d1 : decide (15 < (d : Int) + 1) = false := decide_eq_false (by omega)
  have HRec := Lib.hid (hR hd2)
  obtain ⟨i0, hi0, hz0, hz1, hz2⟩ := info_parts block_info
  obtain ⟨b, off, rfl, hb, hcell⟩ := hL.get (by omega)
  have HCell := Lib.hid hcell
  have hdd : (d : Int) + 2 = ((d + 2 : Nat) : Int) := by omega
  have HDD := Lib.hid hdd
  have HM : Hid (∀ j W, Calls Tryz.prog 38 #[.string (ln zs j)] W fun e w' => ∃ A c D d, e = .returned (.agg ((markM (ln zs j)).cells (.slice A (markM (ln zs j)).att.cl.length c) (.slice D (markM (ln zs j)).att.pr.length d))) ∧ Below W.heap.size W w') := Lib.hid fun j W => (m_of (ln zs j) W (Nat.le_trans (ln_size hL.sz j) (by decide))).mono fun e w' => mkpost_val
  have HBl : Hid (∀ j W, Calls Tryz.prog 57 #[.string (ln zs j)] W fun e w' => e = .returned (.bool (blankB (ln zs j))) ∧ W = w') := Lib.hid fun j W => t_blank (ln zs j) W (Nat.le_trans (ln_size hL.sz j) (by decide))
  have HCo := Lib.hid fun (i : Nat) (hi : i < zs.length) (m : MkL) (ho : MkOk m) (A9 : Option Addr) (n9 c9 : Nat) (A10 : Option Addr) (n10 c10 : Nat) (W : World) (h : LinesAt W (some ⟨b, off, none⟩) zs MM) => n_content zs (some ⟨b, off, none⟩) c i MM m A9 n9 c9 A10 n10 c10 W h hi hc hcm ho.off ho.rest
  have HStep := Lib.hid fun i m h => itemsT_step rec zs i m h
  have HOkj : Hid (∀ j, (markM (ln zs j)).kind = 5 ∨ (markM (ln zs j)).kind = 6 → MkOk (markM (ln zs j))) := Lib.hid fun j h => mkOk (ln zs j) (ln_size hL.sz j) h
  have HSame : Hid (∀ (a b : MkL), MkOk a → b.off ≤ 2000000 → (b.kind = 6 → b.info.size ≤ 1000000) → ∀ (A1 A2 A3 A4 : Option Addr) (n1 c1 n2 c2 n3 c3 n4 c4 : Nat) W, Calls Tryz.prog 118 #[.agg (a.cells (.slice A1 n1 c1) (.slice A2 n2 c2)), .agg (b.cells (.slice A3 n3 c3) (.slice A4 n4 c4))] W fun e w' => e = .returned (.bool (sameR a b)) ∧ Below W.heap.size W w') := Lib.hid fun a b ha hb hi A1 A2 A3 A4 n1 c1 n2 c2 n3 c3 n4 c4 W => m_same a b A1 A2 A3 A4 n1 c1 n2 c2 n3 c3 n4 c4 W (Nat.le_trans ha.off (by decide)) hb hi
  have HIn : Hid (∀ j, (markM (ln zs j)).off ≤ 2000000 ∧ ((markM (ln zs j)).kind = 6 → (markM (ln zs j)).info.size ≤ 1000000)) := Lib.hid fun j => ⟨by have h1 := (mark_small (ln zs j)).2; have h2 := ln_size hL.sz j; omega, fun h6 => Nat.le_trans (mark_info _ h6) (Nat.le_trans (ln_size hL.sz j) (by decide))⟩
  have HPR2 : Hid (PR = full.map (fun r => (listB m r.1, r.2))) := Lib.hid (by rw [HPR.out, if_pos (decide_eq_true hd2)])
  clear hL hcell hR hdd HPR
  go_wp2_with fail
  go_loopw [1] (fun v1 wr => LiRel rec zs lk ll full w v1 wr) (fun v1 _ => zs.length - (intOf v1).toNat)
  case atStart => exact ⟨i, m, A9, n9, c9, A10, n10, c10, _, [], rfl, hi, HOK.out, H56.out, HW.out, Lib.hid (KOwn.nil _ _ _), Nat.zero_le _, HF0.out⟩
  case round =>
    clear HW HF0 HOK H56 hi d1
    obtain ⟨i', m', B9, e9, f9, B10, e10, f10, vK, its, rfl, hi', hok', h56', hLW, HKO, hit, HFu⟩ := hrel
    have HLW := Lib.hid hLW
    have hbw := hLW.bel
    have hzr := hbw.size
    have hll := hLW.lst.lt
    have HLr := Lib.hid (HLi.out.below hbw)
    obtain ⟨p0, p1, p2, p3, p4, p5, p6, p7, p8, p9, p10, x0, x1, x2, x3, x4, x5, x6, x7, x8, x9, x10⟩ := mk_facts hLW.mrk
    have HCi := Lib.hid fun W h => HCo.out i' hi' m' hok' B9 e9 f9 B10 e10 f10 W h
    have HSt := Lib.hid (HStep.out i' m' hi')
    have hcb := contL_bd zs i' m' hi'
    have HOk' := Lib.hid hok'
    have H56' := Lib.hid h56'
    unfold ContPost MkL.cells at HCi
    obtain ⟨AK, cK, rfl⟩ := HKO.out.own
    clear HCo HStep hLW h56' hok'
    generalize contL zs i' m' = CL at *
    obtain ⟨inner, tt⟩ := CL
    simp only [] at HCi HSt hcb
    go_wp2_with fail
    ((with_reducible refine (HCi.out _ HLr.out).mono ?_))
    rintro e w1 ⟨⟨A1, c1, rfl, hc1, hc2, hLn⟩, b1⟩
    have HRi := Lib.hid (HRec.out inner A1 c1 w1 hLn hc1 hc2)
    have hz1' := b1.size
    clear HCi hLn p0 p1 p2 p3 p4 p5 p6 p7 p8 p9 p10 x0 x1 x2 x3 x4 x5 x6 x7 x8 x9 x10
    go_wp2_with fail
    rw [HDD.out]
    ((with_reducible refine (HRi.out).mono ?_))
    rintro e w2 ⟨hp, b2⟩
    have b12 := b1.trans (b2.mono hz1')
    have hz2' := b2.size
    have HLW2 := Lib.hid (HLW.out.next b12)
    clear HRi b1 b2
    cases hrc : rec inner with
    | none =>
      rw [hrc] at hp
      have HE : Hid (full = none) := Lib.hid (by rw [HFu.out, HSt.out, hrc]; rfl)
      clear hrc HSt HFu b12
      subst hp
      unfold bkErr
      obtain ⟨k0, k1, k2, k3, k4, k5, k6, k7, k8, k9, k10, y0, y1, y2, y3, y4, y5, y6, y7, y8, y9, y10⟩ := ZB.facts HLW2.out.res
      go_wp2_with fail
      exact listAt_ret (blk11 HLW2.out.res _ _ _ _ _ _ _ _ _ _ _) rfl rfl rfl rfl (bk_none (by rw [HPR2.out, HE.out]; rfl) ⟨_, _, _, _, _, _, _, _, _, _, _, _, _, _, _, _, _, _, _, rfl⟩ (below11 HLW2.out.bel (Nat.le_succ _) _ _ _ _ _ _ _ _ _ _ _))
    | some kids =>
      rw [hrc] at hp
      rw [hrc] at HSt
      clear hrc
      obtain ⟨A5, c5, A6, n6, c6, rfl, hk⟩ := hp
      have HREP := Lib.hid (repB_kid (kind := 9) (hk.low hz1'))
      obtain ⟨S, vs, hS, hkk, hown⟩ := HKO.out
      have hown2 := own_below hown b12
      have hv7 := hown.lt
      have HKK := Lib.hid hkk
      have HSS := Lib.hid hS
      have HB12 := Lib.hid b12
      have hab : AnyB #[.int .i64 9, .int .i64 0, .string ⟨#[]⟩, .string ⟨#[]⟩, .string ⟨#[]⟩, .string ⟨#[]⟩, .string ⟨#[]⟩, .slice none 0 0, .slice none 0 0, .slice none 0 0, .slice A5 kids.length c5] := ⟨_, _, _, _, _, _, _, _, _, _, _, _, _, _, _, _, _, _, _, rfl⟩
      obtain ⟨k0, k1, k2, k3, k4, k5, k6, k7, k8, k9, k10, y0, y1, y2, y3, y4, y5, y6, y7, y8, y9, y10⟩ := li_facts HLW2.out.lst
      have hll2 := HLW2.out.lst.lt
      clear hk hkk hS hown HKO k0 k1 k2 k3 k4 k5 k6 k7 k8 k9 y0 y1 y2 y3 y4 y5 y6 y7 y8 y9 y10 b12
      go_wp2_with (at_builtin; refine wpList_append_lies _ rfl _ _ 25 rfl (w.heap.size + 3) 46 i0 _ 11 192 Tryz.underlying25 hi0 hz0 hz1 hz2 rfl (by decide) _ _ _ rfl (hown2.alloc _) ⟨w2.heap.size, 0, none⟩ 1 1 _ rfl hab.len ?c1 hab.one (by decide) ?c3 ?c4 ?c5 (w2.heap.size + 1) ?c6 ?_)
      case c3 => unfold maxLen; omega
      case c4 => omega
      case c5 => simp; omega
      case c6 => simp
      intro g7 cap7 w3 hown3 hgrow hlies hlt3
      have HKO3 := Lib.hid (KOwn.push (E := fun _ => False) HSS.out HKK.out HB12.out (fun k h => (hv7 k h).2) (fun k h => h.elim) (by omega) HB12.out.size HREP.out hown3 hgrow hlies (Nat.le_succ _))
      have HLW3 := Lib.hid (HLW2.out.grown hgrow (fun k e => (hown2.lt k e).1))
      have HKO4 := Lib.hid (HKO3.out.far (only_store (only_refl w3 (some (w.heap.size + 2))) 10 (.slice (some ⟨g7, 0, none⟩) (its.length + 1) cap7)) (by omega))
      have HLW4 := Lib.hid (HLW3.out.store (v' := .slice (some ⟨g7, 0, none⟩) (its.length + 1) cap7))
      obtain ⟨k0, k1, k2, k3, k4, k5, k6, k7, k8, k9, k10, y0, y1, y2, y3, y4, y5, y6, y7, y8, y9, y10⟩ := li_facts HLW3.out.lst
      have hll3 := HLW3.out.lst.lt
      clear HKO3 HLW2 hgrow hlies hown3 hown2 HSS HKK HB12 HREP hv7 hab k0 k1 k2 k3 k4 k5 k6 k7 k8 k9 y0 y1 y2 y3 y4 y5 y6 y7 y8 y9
      go_upto_region 11 with fail
      generalize hW4 : w3.setCell _ _ = W4
      replace HLW4 : Hid (LW w (m'.cells (.slice B9 e9 f9) (.slice B10 e10 f10)) (liC lk ll (.slice (some ⟨g7, 0, none⟩) (its.length + 1) cap7)) W4) := Lib.hid (by rw [← hW4]; exact HLW4.out)
      replace HKO4 : Hid (KOwn W4 (w.heap.size + 3) (fun _ => False) (.slice (some ⟨g7, 0, none⟩) (its.length + 1) cap7) (its ++ [kidB 9 kids])) := Lib.hid (by rw [← hW4]; exact HKO4.out)
      clear hW4 k10 y10 hll3 HLW3 hll2
      have hbw4 := HLW4.out.bel
      have hz4 := hbw4.size
      have hn := nextNB_bd zs tt hcb.2
      have HNb : Hid (∀ j, tt ≤ j → j ≤ zs.length → (∀ k, tt ≤ k → k < j → blankB (ln zs k) = true) → (j < zs.length → blankB (ln zs j) = false) → nextNB zs tt = j) := Lib.hid fun j h1 h2 h3 h4 => seek_eq _ _ _ _ h1 h2 (fun k a b => by rw [h3 k a b]; rfl) (fun h => by rw [h4 h]; rfl)
      go_upto_block 2 with fail
      go_cut [17] (fun s17 wx => s17 = .int .i64 (nextNB zs tt) ∧ W4 = wx)
      case first =>
        go_wp2_with fail
        go_loop [17] (fun v17 => ∃ j : Nat, v17 = .int .i64 j ∧ tt ≤ j ∧ j ≤ zs.length ∧ Hid (∀ k, tt ≤ k → k < j → blankB (ln zs k) = true)) (fun v => zs.length - (intOf v).toNat)
        case atStart => exact ⟨tt, rfl, Nat.le_refl _, hcb.2, Lib.hid fun k h1 h2 => absurd h2 (by omega)⟩
        case round =>
          obtain ⟨j, rfl, hj1, hj, Hbl⟩ := hrel
          by_cases hlt : j < zs.length
          · have hc0 : W4.cell? ⟨b, off + j, none⟩ = some (.string (ln zs j)) := (hbw4.cell (p := ⟨b, off + j, none⟩) hb).trans (HCell.out j hlt)
            have HB1 := Lib.hid fun W => HBl.out j W
            cases hbz : blankB (ln zs j) with
            | true =>
              rw [hbz] at HB1
              have HX : Hid (∀ k, tt ≤ k → k < j + 1 → blankB (ln zs k) = true) := Lib.hid fun k h1 h2 => by
                by_cases e : k = j
                · rw [e]; exact hbz
                · exact Hbl.out k h1 (by omega)
              clear hbz HBl HNb Hbl
              go_wp2_with fail
              ((with_reducible refine (HB1.out _).mono ?_))
              rintro e w9 ⟨rfl, rfl⟩
              go_wp2_with fail
              go_round
              case rel => exact ⟨j + 1, by go_num, by omega, by omega, HX⟩
              case measure => simp [intOf]; omega
            | false =>
              rw [hbz] at HB1
              have HX := Lib.hid (HNb.out j hj1 hj Hbl.out (fun _ => hbz))
              clear hbz HBl HNb Hbl
              go_wp2_with fail
              ((with_reducible refine (HB1.out _).mono ?_))
              rintro e w9 ⟨rfl, rfl⟩
              go_wp2_with fail
              go_meet
              exact ⟨by rw [HX.out], rfl⟩
          · have HX := Lib.hid (HNb.out j hj1 hj Hbl.out (fun h => absurd h hlt))
            clear HBl HNb Hbl
            go_wp2_with fail
            go_meet
            exact ⟨by rw [HX.out], rfl⟩
      case rest =>
      obtain ⟨rfl, rfl⟩ := hcut
      clear HNb
      generalize nextNB zs tt = nx at *
      have HS2 : Hid (itemsT rec zs i' m' = if nx < zs.length ∧ sameR m' (markM (ln zs nx)) = true then (itemsT rec zs nx (markM (ln zs nx))).map fun r => (kidB 9 kids :: r.1, r.2) else some ([kidB 9 kids], tt)) := Lib.hid HSt.out
      clear HSt
      have hil : its.length + 1 ≤ nx := by omega
      by_cases hlt : nx < zs.length
      · have hc0 : W4.cell? ⟨b, off + nx, none⟩ = some (.string (ln zs nx)) := (hbw4.cell (p := ⟨b, off + nx, none⟩) hb).trans (HCell.out nx hlt)
        have HMx := Lib.hid fun W => HM.out nx W
        have HIx := Lib.hid (HIn.out nx)
        have HOx := Lib.hid (HOkj.out nx)
        clear HM HIn HOkj
        generalize markM (ln zs nx) = mn at *
        unfold MkL.cells at HMx
        go_wp2_with fail
        ((with_reducible refine (HMx.out _).mono ?_))
        rintro e w5 ⟨D1, d1, D2, d2, rfl, b5⟩
        have HLW5 := Lib.hid (HLW4.out.next b5)
        have HKO5 := Lib.hid (HKO4.out.below b5)
        have hLi5 := Lib.hid HLW5.out.lst.lt
        have HBx := Lib.hid (Blk.new w5 74 #[.int .i64 mn.kind, .int .i64 mn.n, .string mn.ch, .int .i64 mn.off, .string mn.info, .string mn.rest, .string mn.dest, .string mn.title, .string mn.att.id, .slice D1 mn.att.cl.length d1, .slice D2 mn.att.pr.length d2])
        have HLW6 := Lib.hid (HLW5.out.next ((Below.refl _ w5).alloc (Nat.le_refl _) (.cells #[.int .i64 mn.kind, .int .i64 mn.n, .string mn.ch, .int .i64 mn.off, .string mn.info, .string mn.rest, .string mn.dest, .string mn.title, .string mn.att.id, .slice D1 mn.att.cl.length d1, .slice D2 mn.att.pr.length d2] 74)))
        have HKO6 := Lib.hid (HKO5.out.below ((Below.refl _ w5).alloc (Nat.le_refl _) (.cells #[.int .i64 mn.kind, .int .i64 mn.n, .string mn.ch, .int .i64 mn.off, .string mn.info, .string mn.rest, .string mn.dest, .string mn.title, .string mn.att.id, .slice D1 mn.att.cl.length d1, .slice D2 mn.att.pr.length d2] 74)))
        have HSm := Lib.hid fun W => HSame.out m' mn HOk'.out HIx.out.1 HIx.out.2 B9 B10 D1 D2 e9 f9 e10 f10 mn.att.cl.length d1 mn.att.pr.length d2 W
        unfold MkL.cells at HSm
        clear HSame HMx b5 HLW5 HKO5 HLW4 HKO4
        go_upto_region 17 with fail
        generalize hW6 : w5.alloc _ = W6
        replace HBx : Hid (Blk W6 w5.heap.size 74 #[.int .i64 mn.kind, .int .i64 mn.n, .string mn.ch, .int .i64 mn.off, .string mn.info, .string mn.rest, .string mn.dest, .string mn.title, .string mn.att.id, .slice D1 mn.att.cl.length d1, .slice D2 mn.att.pr.length d2]) := Lib.hid (by rw [← hW6]; exact HBx.out)
        replace HLW6 : Hid (LW w (m'.cells (.slice B9 e9 f9) (.slice B10 e10 f10)) (liC lk ll (.slice (some ⟨g7, 0, none⟩) (its.length + 1) cap7)) W6) := Lib.hid (by rw [← hW6]; exact HLW6.out)
        replace HKO6 : Hid (KOwn W6 (w.heap.size + 3) (fun _ => False) (.slice (some ⟨g7, 0, none⟩) (its.length + 1) cap7) (its ++ [kidB 9 kids])) := Lib.hid (by rw [← hW6]; exact HKO6.out)
        have hw56 : w.heap.size + 2 < w5.heap.size := by
          have h1 := HLW6.out.lst.lt
          have h2 : W6.heap.size = w5.heap.size + 1 := by rw [← hW6]; simp
          have h3 := HBx.out.lt
          have h4 := hLi5.out
          omega
        clear hW6
        generalize w5.heap.size = g5 at *
        obtain ⟨p0, p1, p2, p3, p4, p5, p6, p7, p8, p9, p10, x0, x1, x2, x3, x4, x5, x6, x7, x8, x9, x10⟩ := mk_facts HLW6.out.mrk
        obtain ⟨q0, q1, q2, q3, q4, q5, q6, q7, q8, q9, q10, r0, r1, r2, r3, r4, r5, r6, r7, r8, r9, r10⟩ := mk_facts HBx.out
        clear x0 x1 x2 x3 x4 x5 x6 x7 x8 x9 x10 r0 r1 r2 r3 r4 r5 r6 r7 r8 r9 r10
        go_wp2_with fail
        ((with_reducible refine (HSm.out _).mono ?_))
        rintro e w7 ⟨rfl, b7⟩
        have HLW7 := Lib.hid (HLW6.out.next b7)
        have HKO7 := Lib.hid (HKO6.out.below b7)
        have HBx7 := Lib.hid (HBx.out.below b7 HBx.out.lt)
        clear HLW6 HKO6 HBx b7 HSm p0 p1 p2 p3 p4 p5 p6 p7 p8 p9 p10 q0 q1 q2 q3 q4 q5 q6 q7 q8 q9 q10
        cases hsm : sameR m' mn with
        | true =>
          have hkk := same_kind hsm
          have HFn : Hid (full = (itemsT rec zs nx mn).map fun r => ((its ++ [kidB 9 kids]) ++ r.1, r.2)) := Lib.hid (by
            rw [HFu.out, HS2.out, if_pos ⟨hlt, hsm⟩]
            cases itemsT rec zs nx mn with
            | none => rfl
            | some q => simp)
          have H56n : Hid (mn.kind = 5 ∨ mn.kind = 6) := Lib.hid (by rw [← hkk]; exact H56'.out)
          have HOn := Lib.hid (HOx.out H56n.out)
          obtain ⟨p0, p1, p2, p3, p4, p5, p6, p7, p8, p9, p10, x0, x1, x2, x3, x4, x5, x6, x7, x8, x9, x10⟩ := mk_facts HLW7.out.mrk
          obtain ⟨q0, q1, q2, q3, q4, q5, q6, q7, q8, q9, q10, r0, r1, r2, r3, r4, r5, r6, r7, r8, r9, r10⟩ := mk_facts HBx7.out
          have hml := HLW7.out.mrk.lt
          have HG := Lib.hid (Blk.lt HLW7.out.res)
          clear hsm hkk HS2 HFu r0 r1 r2 r3 r4 r5 r6 r7 r8 r9 r10
          go_wp2_with fail
          go_region
          all_goals
            go_wp2_with fail
            refine ⟨⟨nx, mn, D1, _, d1, D2, _, d2, _, its ++ [kidB 9 kids], rfl, hlt, HOn.out, H56n.out, HLW7.out.mark _ _ _ _ _ _ _ _ _ _ _, Lib.hid ((KOwn.far HKO7.out (grown11 _ _ _ _ _ _ _ _ _ _ _ _ _) (by omega)).below (below_drewN (Below.refl _ _) 1)), by simp; omega, HFn.out⟩, by simp [intOf]; omega⟩
        | false =>
          have HF1 : Hid (full = some (its ++ [kidB 9 kids], tt)) := Lib.hid (by
            rw [HFu.out, HS2.out, if_neg (fun h => by rw [hsm] at h; exact Bool.false_ne_true h.2)]; rfl)
          obtain ⟨k0, k1, k2, k3, k4, k5, k6, k7, k8, k9, k10, y0, y1, y2, y3, y4, y5, y6, y7, y8, y9, y10⟩ := ZB.facts HLW7.out.res
          obtain ⟨l0, l1, l2, l3, l4, l5, l6, l7, l8, l9, l10, j0, j1, j2, j3, j4, j5, j6, j7, j8, j9, j10⟩ := li_facts HLW7.out.lst
          clear hsm HS2 HFu j0 j1 j2 j3 j4 j5 j6 j7 j8 j9 j10
          go_wp2_with fail
          exact listAt_ret (blk11 HLW7.out.res _ _ _ _ _ _ _ _ _ _ _) rfl rfl rfl rfl (bk_some (by rw [HPR2.out, HF1.out]; show some (listB m _, tt) = _; rw [HLB.out]) (repB_mk (att := emptyA) (AttR.empty _ _ _ _) (srcV_none _ _) ((KOwn.kids (HKO7.out.far (grown11 _ _ _ _ _ _ _ _ _ _ _ _ _) (by omega))).low (by omega))) (below11 HLW7.out.bel (Nat.le_succ _) _ _ _ _ _ _ _ _ _ _ _))
      · have HF1 : Hid (full = some (its ++ [kidB 9 kids], tt)) := Lib.hid (by
          rw [HFu.out, HS2.out, if_neg (fun h => hlt h.1)]; rfl)
        obtain ⟨k0, k1, k2, k3, k4, k5, k6, k7, k8, k9, k10, y0, y1, y2, y3, y4, y5, y6, y7, y8, y9, y10⟩ := ZB.facts HLW4.out.res
        obtain ⟨l0, l1, l2, l3, l4, l5, l6, l7, l8, l9, l10, j0, j1, j2, j3, j4, j5, j6, j7, j8, j9, j10⟩ := li_facts HLW4.out.lst
        clear HS2 HFu j0 j1 j2 j3 j4 j5 j6 j7 j8 j9 j10
        go_wp2_with fail
        exact listAt_ret (blk11 HLW4.out.res _ _ _ _ _ _ _ _ _ _ _) rfl rfl rfl rfl (bk_some (by rw [HPR2.out, HF1.out]; show some (listB m _, tt) = _; rw [HLB.out]) (repB_mk (att := emptyA) (AttR.empty _ _ _ _) (srcV_none _ _) ((KOwn.kids (HKO4.out.far (grown11 _ _ _ _ _ _ _ _ _ _ _ _ _) (by omega))).low (by omega))) (below11 HLW4.out.bel (Nat.le_succ _) _ _ _ _ _ _ _ _ _ _ _))

end Go.Proofs.YtpoafhgbhnblmaaGreatDoor
