/-
  Texts of the proof, put together (what this law reaches): NsM, NsO, NsQ.
-/
import Derived.Test.YtpoafhgbhnblmaaGreatDoorX33
import Derived.Test.YtpoafhgbhnblmaaGreatDoorX15
import Derived.Deep.CutBlock
import Derived.Deep.DeepCutAuto
import Derived.Deep.RegionHeld3
import Derived.Test.YtpoafhgbhnblmaaGreatDoorX37
set_option linter.unusedVariables false
set_option linter.unusedSimpArgs false
namespace Go.Proofs.YtpoafhgbhnblmaaGreatDoor
open Go.RowKit Go.Pub
/-- The trimmed lines of a paragraph so far. -/
def paraK (zs : List ByteArray) (i k : Nat) : List ByteArray := (cutL zs i k).map fun z => mk (trimS (bytesL z))
theorem paraK_succ (zs : List ByteArray) (i k : Nat) (h : i ≤ k) (hk : k < zs.length) : strs (paraK zs i (k + 1)) = strs (paraK zs i k) ++ [.string (mk (trimS (bytesL (ln zs k))))] := by
  unfold paraK strs
  rw [cutL_succ zs i k h hk, List.map_append, List.map_append]
  rfl
theorem paraK_len (zs : List ByteArray) (i k : Nat) (h : i ≤ k) (hk : k ≤ zs.length) : (paraK zs i k).length = k - i := by unfold paraK; rw [List.length_map, cutL_len _ _ _ h hk]
theorem own_drewN {w : World} {base size n : Nat} {e : TypeId} {v : Value} {xs : List Value} (h : w.ownsRow base e size v n xs) (k : Nat) : (w.drewN k).ownsRow base e size v n xs := h
theorem srcV_form {w : World} {S : Nat → Prop} {v : Value} {s : ByteArray} (h : SrcV w S v s) : ∃ A n c, v = .slice A n c := by
  unfold SrcV at h
  by_cases hz : s.size = 0
  · rw [if_pos hz] at h; exact ⟨_, _, _, h⟩
  · rw [if_neg hz] at h
    obtain ⟨A, c, e, _⟩ := h
    exact ⟨_, _, _, e⟩
theorem srcV_far {w w' : World} {B B' g : Nat} {v : Value} {s : ByteArray} (h : SrcV w (Rg B w) v s) (hg : w.grownBy w' (some g)) (hlt : g < B) (hB : B' ≤ B) : SrcV w' (Rg B' w') v s :=
  h.keep (fun x hx => hg.block x hx.2 fun e => by injection e with e; have := hx.1; omega) fun x hx => ⟨by have := hx.1; omega, Nat.lt_of_lt_of_le hx.2 hg.size⟩
/-- A block with a line. -/
theorem repB_leaf {w : World} {S : Nat → Prop} {kind : Nat} {line : ByteArray} {vL : Value} (hl : SrcV w S vL line) : RepB w S #[.int .i64 kind, .int .i64 (0 : Nat), .string ⟨#[]⟩, .string ⟨#[]⟩, .string ⟨#[]⟩, .string ⟨#[]⟩, .string ⟨#[]⟩, .slice none 0 0, .slice none 0 0, vL, .slice none 0 0] (leafB kind line) :=
  repB_mk (att := emptyA) (AttR.empty _ _ _ _) hl (KidsV.none_ _ _)
def stopP (zs : List ByteArray) (j : Nat) : Bool := !decide (kindOf zs j = 0) || headAt zs j
theorem paraTo_bd (zs : List ByteArray) (i : Nat) (hi : i < zs.length) : i + 1 ≤ paraTo zs i ∧ paraTo zs i ≤ zs.length := by
  have := seek_spec (stopP zs) zs.length (i + 1) (by omega)
  exact ⟨this.1, this.2.1⟩
theorem paraK_size (zs : List ByteArray) (i k : Nat) (hM : ∀ z ∈ zs, z.size ≤ 100000) : ∀ z ∈ paraK zs i k, z.size ≤ 100000 := by
  intro z hz
  unfold paraK at hz
  obtain ⟨y, hy, rfl⟩ := List.mem_map.1 hz
  rw [mk_size]
  have h1 := trimS_len (bytesL y)
  rw [bytesL_length] at h1
  exact Nat.le_trans h1 (hM y (cutL_mem hy))
def PaRel (zs : List ByteArray) (i : Nat) (w : World) (v6 v7 : Value) (wr : World) : Prop :=
  ∃ k : Nat, v7 = .int .i64 k ∧ i + 1 ≤ k ∧ k ≤ zs.length ∧ wr.ownsRow (w.heap.size + 1) 9 1 v6 (k - i) (strs (paraK zs i k)) ∧ ZB wr w.heap.size ∧ Below w.heap.size w wr ∧ Hid (∀ j, i + 1 ≤ j → j < k → stopP zs j = false)
theorem mark_field (i0 i1 : Int) (s2 : ByteArray) (i3 : Int) (s4 s5 s6 s7 s8 : ByteArray) (v9 v10 : Value) (W : World) : (Instr.field 74 (.agg #[.int .i64 i0, .int .i64 i1, .string s2, .int .i64 i3, .string s4, .string s5, .string s6, .string s7, .string s8, v9, v10]) 0).run Tryz.prog W = .ok (.int .i64 i0) W := by kernel_rfl
set_option maxRecDepth 100000 in
set_option maxHeartbeats 1000000 in
theorem n_para (zs : List ByteArray) (A : Option Addr) (c i B : Nat) (MM : Int) (w : World) (hL : LinesAt w A zs MM) (hi : i < zs.length) (hB : B ≤ w.heap.size) :
    Calls Tryz.prog 79 #[.slice A zs.length c, .int .i64 i] w fun e w' => (∃ v, e = .returned (.tuple #[.agg v, .int .i64 (paraTo zs i)]) ∧ RepB w' (Rg B w') v (paraB zs i)) ∧ Below w.heap.size w w' := by
  obtain ⟨i0, hi0, hz0, hz1, hz2⟩ := info_parts strInfo
  have hlen := hL.len
  obtain ⟨b, off, rfl, hb, hcell⟩ := hL.get (by omega)
  have HCell := Lib.hid hcell
  have HLi := Lib.hid hL
  have HM : Hid (∀ j W, Calls Tryz.prog 38 #[.string (ln zs j)] W fun e w' => ∃ A c D d, e = .returned (.agg ((markM (ln zs j)).cells (.slice A (markM (ln zs j)).att.cl.length c) (.slice D (markM (ln zs j)).att.pr.length d))) ∧ Below W.heap.size W w') := Lib.hid fun j W => (m_of (ln zs j) W (Nat.le_trans (ln_size hL.sz j) (by decide))).mono fun e w' => mkpost_val
  have HTr : Hid (∀ j W, Calls Tryz.prog 105 #[.string (ln zs j)] W fun e w' => e = .returned (.string (mk (trimS (bytesL (ln zs j))))) ∧ W = w') := Lib.hid fun j W => t_trim (ln zs j) W (Nat.le_trans (ln_size hL.sz j) (by decide))
  have HHd : Hid (∀ j W, W.cell? ⟨0, 0, none⟩ = some (.int .i64 MM) → Calls Tryz.prog 77 #[.string (ln zs j), .string (ln zs (j + 1))] W fun e w' => e = .returned (.bool (headB (bytesL (ln zs j)) (bytesL (ln zs (j + 1))))) ∧ Below W.heap.size W w') := Lib.hid fun j W h => t_head (ln zs j) (ln zs (j + 1)) MM W (Nat.le_trans (ln_size hL.sz j) (by decide)) (Nat.le_trans (ln_size hL.sz _) (by decide)) h
  have HZ0 := Lib.hid (Blk.new w 46 zbC)
  unfold zbC at HZ0
  have HB0 : Hid (∀ o, Below w.heap.size w (w.alloc o)) := Lib.hid fun o => (Below.refl _ w).alloc (Nat.le_refl _) _
  have HP1 : Hid (strs (paraK zs i (i + 1)) = [.string (mk (trimS (bytesL (ln zs i))))]) := Lib.hid (by rw [paraK_succ zs i i (Nat.le_refl _) hi, show strs (paraK zs i i) = [] by unfold paraK cutL strs; simp]; rfl)
  have HPs := Lib.hid fun k => paraK_succ zs i k
  have HSt : Hid (∀ k, i + 1 ≤ k → k ≤ zs.length → (∀ j, i + 1 ≤ j → j < k → stopP zs j = false) → (k < zs.length → stopP zs k = true) → paraTo zs i = k) := Lib.hid fun k h1 h2 h3 h4 => seek_eq _ _ _ _ h1 h2 h3 h4
  have hT0 := hcell i hi
  have HT0 := Lib.hid fun W => HTr.out i W
  have HF := Lib.hid mark_field
  have hpb := paraTo_bd zs i hi
  have HSz := Lib.hid (paraK_size zs i (paraTo zs i) hL.sz)
  have HPl := Lib.hid (paraK_len zs i (paraTo zs i) (by omega) hpb.2)
  clear hL hcell
  generalize mk (trimS (bytesL (ln zs i))) = y0 at *
  generalize hzi : ln zs i = zi at hT0 HT0
  clear hzi
  have hc00 : ∀ o, (w.alloc o).cell? ⟨b, off + i, none⟩ = some (.string zi) := fun o => ((HB0.out o).cell (p := ⟨b, off + i, none⟩) hb).trans hT0
  have HC00 := Lib.hid (hc00 (.cells #[.int .i64 0, .int .i64 0, .string ⟨#[]⟩, .string ⟨#[]⟩, .string ⟨#[]⟩, .string ⟨#[]⟩, .string ⟨#[]⟩, .slice none 0 0, .slice none 0 0, .slice none 0 0, .slice none 0 0] 46))
  clear hc00 hT0
  have hc1 := HC00.out
  go_enter Tryz.func79, Tryz.ntmps79
  go_wp2_with fail
  ((with_reducible refine (HT0.out _).mono ?_))
  rintro e w1 ⟨rfl, rfl⟩
  clear hc1 HC00 HT0
  go_upto_block 0 with fail
  go_cut [6, 7] (fun s6 s7 wx => s7 = .int .i64 (paraTo zs i) ∧ wx.ownsRow (w.heap.size + 1) 9 1 s6 (paraTo zs i - i) (strs (paraK zs i (paraTo zs i))) ∧ ZB wx w.heap.size ∧ Below w.heap.size w wx)
  case first =>
    go_wp2_with fail
    go_loopw [6, 7] (fun v6 v7 wr => PaRel zs i w v6 v7 wr) (fun _ v7 _ => zs.length - (intOf v7).toNat)
    case atStart =>
      refine ⟨i + 1, by go_num, Nat.le_refl _, by omega, ?_, Blk.alloc HZ0.out _, (HB0.out _).alloc (by simp) _, Lib.hid fun j h1 h2 => absurd h2 (by omega)⟩
      rw [HP1.out, show i + 1 - i = 1 by omega]
      have h := World.ownsRow_lit (base := w.heap.size + 1) (size := 1) (e := 9) (w.alloc (.cells #[.int .i64 0, .int .i64 0, .string ⟨#[]⟩, .string ⟨#[]⟩, .string ⟨#[]⟩, .string ⟨#[]⟩, .string ⟨#[]⟩, .slice none 0 0, .slice none 0 0, .slice none 0 0, .slice none 0 0] 46)) #[.string y0] 1 (by simp) (by decide) rfl
      simp only [heap_alloc_size] at h
      exact h
    case round =>
      clear HZ0 HB0 HP1
      obtain ⟨k, rfl, hk1, hk, hown, hZ, hbw, Hno⟩ := hrel
      have hzr := hbw.size
      have hzl := Blk.lt hZ
      have HZr := Lib.hid hZ
      have HOr := Lib.hid hown
      have HT : Hid ((k < zs.length → stopP zs k = true) → paraTo zs i = k) := Lib.hid (HSt.out k hk1 hk Hno.out)
      by_cases hlt : k < zs.length
      · have hc0 : wr.cell? ⟨b, off + k, none⟩ = some (.string (ln zs k)) := (hbw.cell (p := ⟨b, off + k, none⟩) hb).trans (HCell.out k hlt)
        have HM1 := Lib.hid fun W => HM.out k W
        have HE := Lib.hid (HPs.out k (by omega) hlt)
        have hkk : Hid (kindOf zs k = (markM (ln zs k)).kind) := Lib.hid rfl
        have hsp : Hid (stopP zs k = (!decide (kindOf zs k = 0) || headAt zs k)) := Lib.hid rfl
        have hhd : Hid (headAt zs k = (decide (k + 1 < zs.length) && headB (bytesL (ln zs k)) (bytesL (ln zs (k + 1))))) := Lib.hid rfl
        have HTk := Lib.hid fun W => HTr.out k W
        have HHk := Lib.hid fun W => HHd.out k W
        clear HM hZ HTr HHd HSt HPs hown
        generalize markM (ln zs k) = m at *
        unfold MkL.cells at HM1
        by_cases h0 : m.kind = 0
        · have z1 : (((m.kind : Nat) : Int) == 0) = true := kT (by omega)
          have z2 : ((m.kind : Nat) == 0) = true := by rw [beq_iff_eq]; exact h0
          have hfd := HF.out
          generalize hyk : mk (trimS (bytesL (ln zs k))) = yk at *
          clear hyk
          by_cases hk2 : k + 1 < zs.length
          · have d1 : decide ((k : Int) + 1 < (zs.length : Int)) = true := decide_eq_true (by omega)
            have d2 : decide (k + 1 < zs.length) = true := decide_eq_true hk2
            have hhd2 : Hid (headAt zs k = headB (bytesL (ln zs k)) (bytesL (ln zs (k + 1)))) := Lib.hid (by rw [hhd.out, d2]; rfl)
            have hsp2 : Hid (stopP zs k = headB (bytesL (ln zs k)) (bytesL (ln zs (k + 1)))) := Lib.hid (by rw [hsp.out, hkk.out, decide_eq_true h0, hhd2.out]; rfl)
            have hc2 : w.cell? ⟨b, off + (k + 1), none⟩ = some (.string (ln zs (k + 1))) := HCell.out (k + 1) hk2
            have HC2 := Lib.hid hc2
            clear hsp hhd hhd2 hkk h0 hc2 HF
            go_wp2_with fail
            ((with_reducible refine (HM1.out _).mono ?_))
            rintro e w2 ⟨A1, c1, A2, c2, rfl, b1⟩
            have hz1' := b1.size
            have HOw := Lib.hid (own_below HOr.out b1)
            have HZw := Lib.hid (HZr.out.below (w := w) b1)
            have HBw := Lib.hid (hbw.trans (b1.mono hzr))
            have HLw := Lib.hid (HLi.out.below HBw.out)
            have HH2 : Hid (∀ W, Below w2.heap.size w2 W → Calls Tryz.prog 77 #[.string (ln zs k), .string (ln zs (k + 1))] W fun e w' => e = .returned (.bool (headB (bytesL (ln zs k)) (bytesL (ln zs (k + 1))))) ∧ Below W.heap.size W w') := Lib.hid fun W h => HHk.out W (HLw.out.below h).cell
            have HB9 := Lib.hid (Below.refl w2.heap.size w2)
            have HS9 : Hid (∀ W, Below w2.heap.size w2 W → (W.cell? ⟨b, off + k, none⟩ = some (.string (ln zs k)) ∧ W.cell? ⟨b, off + (k + 1), none⟩ = some (.string (ln zs (k + 1))) ∧ Below w2.heap.size w2 W)) := Lib.hid fun W h =>
              ⟨((HBw.out.trans (h.mono HBw.out.size)).cell (p := ⟨b, off + k, none⟩) hb).trans (HCell.out k hlt), ((HBw.out.trans (h.mono HBw.out.size)).cell (p := ⟨b, off + (k + 1), none⟩) hb).trans HC2.out, h⟩
            clear b1 HHk HLw HC2 hc0
            have s9 := HS9.out _ HB9.out
            generalize headB (bytesL (ln zs k)) (bytesL (ln zs (k + 1))) = hd at *
            generalize ln zs (k + 1) = zk1 at *
            generalize ln zs k = zk at *
            obtain ⟨s90, s91, s92⟩ := s9
            go_wp2_with fail
            have hi1 : (0 : Int) ≤ (k : Int) + 1 := by omega
            have hi2 : (k : Int) + 1 < (zs.length : Int) := by omega
            have hi3 : ((k : Int) + 1).toNat = k + 1 := by omega
            have hw1 : IntKind.i64.wrap ((k : Int) + 1) = (k : Int) + 1 := IntWalk.i64_in _ (by omega)
            refine wp_region_held_drew (S := fun W' => W'.cell? ⟨b, off + k, none⟩ = some (.string zk) ∧ W'.cell? ⟨b, off + (k + 1), none⟩ = some (.string zk1) ∧ Below w2.heap.size w2 W') (by kernel_rfl) (HS9.out _ HB9.out.drew) (fun hHeld => ?_)
            refine tk 0 (.int .i64 k) rfl hHeld (fun W' hSw => ?_) ?_
            · obtain ⟨h0, h1, h2⟩ := hSw
              go_simp
            refine tk 1 (.int .i64 ((k : Int) + 1)) rfl hHeld (fun W' hSw => ?_) ?_
            · obtain ⟨h0, h1, h2⟩ := hSw
              go_simp
            refine tk 2 (.slice (some ⟨b, off, none⟩) zs.length c) rfl hHeld (fun W' hSw => ?_) ?_
            · obtain ⟨h0, h1, h2⟩ := hSw
              go_simp
            refine tk 3 (.int .i64 zs.length) rfl hHeld (fun W' hSw => ?_) ?_
            · obtain ⟨h0, h1, h2⟩ := hSw
              go_simp
            refine tk 4 (.bool true) rfl hHeld (fun W' hSw => ?_) ?_
            · obtain ⟨h0, h1, h2⟩ := hSw
              go_simp
            refine tk 5 (.bool true) rfl hHeld (fun W' hSw => ?_) ?_
            · obtain ⟨h0, h1, h2⟩ := hSw
              go_simp
            refine tk 6 (.slice (some ⟨b, off, none⟩) zs.length c) rfl hHeld (fun W' hSw => ?_) ?_
            · obtain ⟨h0, h1, h2⟩ := hSw
              go_simp
            refine tk 7 (.int .i64 k) rfl hHeld (fun W' hSw => ?_) ?_
            · obtain ⟨h0, h1, h2⟩ := hSw
              go_simp
            refine tk 8 (.pointer (some ⟨b, off + k, none⟩)) rfl hHeld (fun W' hSw => ?_) ?_
            · obtain ⟨h0, h1, h2⟩ := hSw
              go_simp
            refine tk 9 (.string zk) rfl hHeld (fun W' hSw => ?_) ?_
            · obtain ⟨h0, h1, h2⟩ := hSw
              go_simp
            refine tk 10 (.slice (some ⟨b, off, none⟩) zs.length c) rfl hHeld (fun W' hSw => ?_) ?_
            · obtain ⟨h0, h1, h2⟩ := hSw
              go_simp
            refine tk 11 (.int .i64 k) rfl hHeld (fun W' hSw => ?_) ?_
            · obtain ⟨h0, h1, h2⟩ := hSw
              go_simp
            refine tk 12 (.int .i64 ((k : Int) + 1)) rfl hHeld (fun W' hSw => ?_) ?_
            · obtain ⟨h0, h1, h2⟩ := hSw
              go_simp
            refine tk 13 (.pointer (some ⟨b, off + (k + 1), none⟩)) rfl hHeld (fun W' hSw => ?_) ?_
            · obtain ⟨h0, h1, h2⟩ := hSw
              go_simp
            refine tk 14 (.string zk1) rfl hHeld (fun W' hSw => ?_) ?_
            · obtain ⟨h0, h1, h2⟩ := hSw
              go_simp
            refine rd1 15 rfl (fun K hK => ?_)
            go_simp
            ((with_reducible refine (HH2.out _ HB9.out.drew).mono ?_))
            rintro e W9 ⟨rfl, b8⟩
            have b9 : Below w2.heap.size w2 W9 := HB9.out.drew.trans b8
            go_simp
            refine hK.out _ _ (HS9.out _ b9) (fun hHeld => ?_)
            clear hK K
            refine rd1 16 rfl (fun K hK => ?_)
            go_simp
            refine hK.out _ _ (hHeld) (fun _ => ?_)
            clear hK K
            refine wpAnyH_done (by kernel_rfl) ?_ _
            all_goals
              cases hd with
              | true =>
                have HQ := Lib.hid (HT.out fun _ => hsp2.out)
                clear HT hsp2 HE HTk Hno
                go_wp2_with fail
                go_meet
                rw [HQ.out]
                exact ⟨rfl, own_below HOw.out b9, HZw.out.below (w := w) b9, HBw.out.trans (b9.mono HBw.out.size)⟩
              | false =>
                have HNx : Hid (∀ j, i + 1 ≤ j → j < k + 1 → stopP zs j = false) := Lib.hid fun j h1 h2 => by
                  by_cases e : j = k
                  · rw [e]; exact hsp2.out
                  · exact Hno.out j h1 (by omega)
                clear HT hsp2 Hno
                replace HOw := Lib.hid (own_below HOw.out b9)
                replace HZw := Lib.hid (HZw.out.below (w := w) b9)
                replace HBw := Lib.hid (HBw.out.trans (b9.mono HBw.out.size))
                obtain ⟨t90, t91, t92⟩ := HS9.out _ b9
                clear s90 s91 s92 t91 t92 HS9 HB9 HH2
                go_wp2_with fail
                ((with_reducible refine (HTk.out _).mono ?_))
                rintro e w5 ⟨rfl, rfl⟩
                go_wp2_with (at_builtin; refine wpList_append_own _ rfl _ _ 22 rfl (w.heap.size + 1) 9 i0 _ 1 16 Tryz.underlying22 hi0 hz0 hz1 hz2 rfl (by decide) _ _ _ rfl (HOw.out.alloc _) ⟨W9.heap.size, 0, none⟩ 1 1 [.string yk] rfl rfl ?c1 ?c2 ?c3 ?c4 ?c5 ?_)
                case c1 =>
                  intro j u hj
                  match j, hj with
                  | 0, hj => simp at hj; subst hj; simp [Addr.add]
                case c2 => intro u hu; simp at hu; subst hu; rfl
                case c3 => unfold maxLen; omega
                case c4 => omega
                case c5 => have := HBw.out.size; have := HZw.out.lt; simp; omega
                intro v' w6 hown3 hgrow _
                have HZ6 : Hid (ZB w6 w.heap.size) := Lib.hid (Blk.grown (Blk.alloc HZw.out _) hgrow (fun e => by have := (HOw.out.lt _ e.symm).1; omega))
                have HB6 : Hid (Below w.heap.size w w6) := Lib.hid ((HBw.out.alloc HBw.out.size _).grown hgrow (by simp; exact Nat.le_succ_of_le HBw.out.size) (fun g hg => by have := (HOw.out.lt g hg).1; omega))
                clear hgrow
                go_wp2_with fail
                go_roundw
                case rel => exact ⟨k + 1, by go_num, by omega, by omega, by rw [show k + 1 - i = k - i + 1 by omega, HE.out]; exact hown3, HZ6.out, HB6.out, HNx⟩
                case measure => simp [intOf]; omega
          · have d1 : decide ((k : Int) + 1 < (zs.length : Int)) = false := decide_eq_false (by omega)
            have d2 : decide (k + 1 < zs.length) = false := decide_eq_false hk2
            have HNx : Hid (∀ j, i + 1 ≤ j → j < k + 1 → stopP zs j = false) := Lib.hid fun j h1 h2 => by
              by_cases e : j = k
              · rw [e, hsp.out, hkk.out, decide_eq_true h0, hhd.out, d2]; rfl
              · exact Hno.out j h1 (by omega)
            clear hsp hhd hkk h0 HF HT Hno HHk
            go_wp2_with fail
            ((with_reducible refine (HM1.out _).mono ?_))
            rintro e w2 ⟨A1, c1, A2, c2, rfl, b1⟩
            have hz1' := b1.size
            have HOw := Lib.hid (own_below HOr.out b1)
            have HZw := Lib.hid (HZr.out.below (w := w) b1)
            have HBw := Lib.hid (hbw.trans (b1.mono hzr))
            have hc3 : w2.cell? ⟨b, off + k, none⟩ = some (.string (ln zs k)) := (HBw.out.cell (p := ⟨b, off + k, none⟩) hb).trans (HCell.out k hlt)
            clear b1 hc0
            generalize ln zs k = zk at *
            go_wp2_with fail
            go_quiet (fail)
            replace HOw := Lib.hid (own_drewN HOw.out nq)
            replace HZw : Hid (ZB (w2.drewN nq) w.heap.size) := Lib.hid HZw.out
            replace HBw := Lib.hid (below_drewN HBw.out nq)
            replace hc3 : (w2.drewN nq).cell? ⟨b, off + k, none⟩ = some (.string zk) := hc3
            generalize w2.drewN nq = W5 at *
            go_wp2_with fail
            ((with_reducible refine (HTk.out _).mono ?_))
            rintro e w5 ⟨rfl, rfl⟩
            go_wp2_with (at_builtin; refine wpList_append_own _ rfl _ _ 22 rfl (w.heap.size + 1) 9 i0 _ 1 16 Tryz.underlying22 hi0 hz0 hz1 hz2 rfl (by decide) _ _ _ rfl (HOw.out.alloc _) ⟨W5.heap.size, 0, none⟩ 1 1 [.string yk] rfl rfl ?c1 ?c2 ?c3 ?c4 ?c5 ?_)
            case c1 =>
              intro j u hj
              match j, hj with
              | 0, hj => simp at hj; subst hj; simp [Addr.add]
            case c2 => intro u hu; simp at hu; subst hu; rfl
            case c3 => unfold maxLen; omega
            case c4 => omega
            case c5 => have := HBw.out.size; have := HZw.out.lt; simp; omega
            intro v' w6 hown3 hgrow _
            have HZ6 : Hid (ZB w6 w.heap.size) := Lib.hid (Blk.grown (Blk.alloc HZw.out _) hgrow (fun e => by have := (HOw.out.lt _ e.symm).1; omega))
            have HB6 : Hid (Below w.heap.size w w6) := Lib.hid ((HBw.out.alloc HBw.out.size _).grown hgrow (by simp; exact Nat.le_succ_of_le HBw.out.size) (fun g hg => by have := (HOw.out.lt g hg).1; omega))
            clear hgrow
            go_wp2_with fail
            go_roundw
            case rel => exact ⟨k + 1, by go_num, by omega, by omega, by rw [show k + 1 - i = k - i + 1 by omega, HE.out]; exact hown3, HZ6.out, HB6.out, HNx⟩
            case measure => simp [intOf]; omega
        · have z1 : (((m.kind : Nat) : Int) == 0) = false := kF (by omega)
          have z2 : ((m.kind : Nat) == 0) = false := by rw [beq_eq_false_iff_ne]; exact h0
          have HQ := Lib.hid (HT.out fun _ => by rw [hsp.out, hkk.out, decide_eq_false h0]; rfl)
          clear h0 hkk HT hsp hhd HE HTk HHk Hno
          have hfd := HF.out
          go_wp2_with fail
          ((with_reducible refine (HM1.out _).mono ?_))
          rintro e w2 ⟨A1, c1, A2, c2, rfl, b1⟩
          have hz1' := b1.size
          go_wp2_with fail
          go_meet
          rw [HQ.out]
          exact ⟨rfl, own_below HOr.out b1, HZr.out.below (w := w) b1, hbw.trans (b1.mono hzr)⟩
      · have HQ := Lib.hid (HT.out fun h => absurd h hlt)
        clear HM hZ HT Hno hown HTr HHd HSt HPs
        go_wp2_with fail
        go_meet
        rw [HQ.out]
        exact ⟨rfl, HOr.out, HZr.out, hbw⟩
  case rest =>
  obtain ⟨rfl, hown, hZ, hbw⟩ := hcut
  have hzr := hbw.size
  have hzl := Blk.lt hZ
  have HZr := Lib.hid hZ
  obtain ⟨A9, c9, rfl, hc1, hc2⟩ := own_cap hown
  have HJ := Lib.hid (join_any (paraK zs i (paraTo zs i)) A9 c9 wc.heap.size ⟨#[10]⟩ wc (by rw [HPl.out]; exact Reads.of_own hown) (Nat.le_refl _) (by rw [HPl.out]; exact hc1) (by rw [HPl.out]; omega) (Nat.le_trans (sizes_bd 100000 _ HSz.out) (by rw [HPl.out]; exact Nat.le_trans (Nat.mul_le_mul_right _ (by omega : paraTo zs i - i ≤ 10000)) (by decide))) (by decide) (by decide))
  rw [HPl.out] at HJ
  have HPB : Hid (paraB zs i = leafB 1 (mk (joinL ⟨#[10]⟩ (paraK zs i (paraTo zs i))))) := Lib.hid rfl
  have HSr := Lib.hid fun W => n_source (mk (joinL ⟨#[10]⟩ (paraK zs i (paraTo zs i)))) W
  clear hown hZ HZ0 HB0 HP1 HPs HSt HF HM HTr HHd HSz HPl
  generalize mk (joinL ⟨#[10]⟩ (paraK zs i (paraTo zs i))) = X at *
  go_wp2_with fail
  ((with_reducible refine (HJ.out).mono ?_))
  rintro e w2 ⟨rfl, b2⟩
  have HZ2 := Lib.hid (HZr.out.below (w := w) b2)
  have HB2 := Lib.hid (hbw.trans (b2.mono hzr))
  have hz2' := b2.size
  clear b2 HJ
  go_wp2_with fail
  ((with_reducible refine (HSr.out _).mono ?_))
  rintro e w3 ⟨v, rfl, hsrc, b3⟩
  obtain ⟨Av, nv, cv, rfl⟩ := srcV_form hsrc
  have HZ3 := Lib.hid (HZ2.out.below (w := w) b3)
  have HB3 := Lib.hid (HB2.out.trans (b3.mono HB2.out.size))
  have HSV := Lib.hid hsrc
  obtain ⟨k0, k1, k2, k3, k4, k5, k6, k7, k8, k9, k10, x0, x1, x2, x3, x4, x5, x6, x7, x8, x9, x10⟩ := ZB.facts HZ3.out
  clear hsrc b3 HSr
  go_wp2_with fail
  refine paraAt_ret (blk11 HZ3.out _ _ _ _ _ _ _ _ _ _ _) rfl rfl rfl ⟨⟨_, rfl, ?_⟩, below11 HB3.out (Nat.le_refl _) _ _ _ _ _ _ _ _ _ _ _⟩
  rw [HPB.out]
  exact repB_leaf (srcV_far HSV.out (grown11 _ _ _ _ _ _ _ _ _ _ _ _ _) (by omega) (by omega))

end Go.Proofs.YtpoafhgbhnblmaaGreatDoor
namespace Go.Proofs.YtpoafhgbhnblmaaGreatDoor
open Go.RowKit Go.Pub
/-- The loop's state; gR: the row's block, W3: the world that the loop began in. -/
def RoRel (cs : List ByteArray) (n gR : Nat) (w W3 : World) (v14 : Value) (wr : World) : Prop :=
  ∃ (k : Nat) (vK : Value) (its : List BkT), v14 = .int .i64 k ∧ k ≤ n ∧ Hid (its.length = k) ∧ Hid (its = (cs.take k).map (leafB 12)) ∧ Blk wr gR 46 (liC 11 0 vK) ∧ ZB wr w.heap.size ∧ Hid (KOwn wr (gR + 1) (fun _ => False) vK its) ∧ Below gR W3 wr ∧ Below w.heap.size w wr
theorem srcV_low {w : World} {B B' : Nat} {v : Value} {s : ByteArray} (h : SrcV w (Rg B w) v s) (hB : B' ≤ B) : SrcV w (Rg B' w) v s :=
  h.keep (fun _ _ => rfl) fun g hg => ⟨Nat.le_trans hB hg.1, hg.2⟩
set_option maxRecDepth 100000 in
set_option maxHeartbeats 2000000 in
theorem n_row (z : ByteArray) (n B : Nat) (MM : Int) (w : World) (hz : z.size ≤ 100000) (hn : n ≤ 32) (hm : w.cell? ⟨0, 0, none⟩ = some (.int .i64 MM)) (hB : B ≤ w.heap.size) :
    Calls Tryz.prog 121 #[.string z, .int .i64 n] w fun e w' => (∃ v, e = .returned (.agg v) ∧ RepB w' (Rg B w') v (rowT z n)) ∧ Below w.heap.size w w' := by
  obtain ⟨i0, hi0, hz0, hz1, hz2⟩ := info_parts block_info
  have hwp : 0 < w.heap.size := World.block_lt_of_cell? _ _ hm
  have HZ0 := Lib.hid (Blk.new w 46 zbC)
  have HB0 : Hid (∀ o, Below w.heap.size w (w.alloc o)) := Lib.hid fun o => (Below.refl _ w).alloc (Nat.le_refl _) _
  have hcn : colN (n : Int) = n := by unfold colN; omega
  have HCe := Lib.hid fun W (h : W.cell? ⟨0, 0, none⟩ = some (.int .i64 MM)) => t_cellsP z MM W (by omega) h
  have hcl : (cellsB (bytesL z)).length ≤ 10000000 := by rw [cellsB_len]; have := partsL_len (bytesL z); rw [bytesL_length] at this; omega
  have HCL : Hid (∀ (A : Option Addr) (c : Nat) (W : World), Reads W W.heap.size 1 A (cellsB (bytesL z)).length (strs (cellsB (bytesL z))) → Calls Tryz.prog 174 #[.slice A (cellsB (bytesL z)).length c, .int .i64 n] W fun e W' => ∃ v, e = .returned v ∧ W'.ownsRow W.heap.size 9 1 v n (strs (fitL (cellsB (bytesL z)) n)) ∧ Below W.heap.size W W') := Lib.hid fun A c W h => by
    have := t_fit2 (cellsB (bytesL z)) A c W.heap.size n W h (Nat.le_refl _) (by omega) (by omega) hcl
    rwa [hcn] at this
  have hfl := fitL_len (cellsB (bytesL z)) n
  have HRT : Hid (rowT z n = kidB 11 ((fitL (cellsB (bytesL z)) n).map (leafB 12))) := Lib.hid rfl
  clear hcn hcl
  unfold CellsPost at HCe
  generalize hcs : fitL (cellsB (bytesL z)) n = cs at *
  generalize cellsB (bytesL z) = zs at *
  clear hcs
  have HZ0' := HZ0
  unfold zbC at HZ0 HZ0'
  have hm0 := ((HB0.out (.cells #[.int .i64 0, .int .i64 0, .string ⟨#[]⟩, .string ⟨#[]⟩, .string ⟨#[]⟩, .string ⟨#[]⟩, .string ⟨#[]⟩, .slice none 0 0, .slice none 0 0, .slice none 0 0, .slice none 0 0] 46)).cell (p := ⟨0, 0, none⟩) hwp).trans hm
  have HM0 := Lib.hid hm0
  clear hm0 hm HZ0'
  go_enter Tryz.func121, Tryz.ntmps121
  go_wp2_with fail
  ((with_reducible refine (HCe.out _ HM0.out).mono ?_))
  rintro e w1 ⟨A1, c1, rfl, hown1, b1⟩
  have HR1 := Lib.hid (Reads.of_own hown1)
  have HZ1 := Lib.hid (show ZB w1 w.heap.size from Blk.below HZ0.out b1 (by simp))
  have HB1 := Lib.hid ((HB0.out (.cells #[.int .i64 0, .int .i64 0, .string ⟨#[]⟩, .string ⟨#[]⟩, .string ⟨#[]⟩, .string ⟨#[]⟩, .string ⟨#[]⟩, .slice none 0 0, .slice none 0 0, .slice none 0 0, .slice none 0 0] 46)).trans (b1.mono (by simp)))
  clear hown1 b1 HCe HM0 HZ0 HB0
  go_wp2_with fail
  ((with_reducible refine (HCL.out A1 c1 _ HR1.out).mono ?_))
  rintro e w2 ⟨v5, rfl, hown2, b2⟩
  obtain ⟨A5, c5, rfl⟩ := own_slice hown2
  have HZ2 := Lib.hid (HZ1.out.below (w := w) b2)
  have HB2 := Lib.hid (HB1.out.trans (b2.mono HB1.out.size))
  have HO2 := Lib.hid (Reads.of_own hown2)
  have hz2' := HB2.out.size
  clear hown2 b2 HCL HR1 HZ1 HB1
  go_upto_region 3 with fail
  generalize hW3 : w2.alloc _ = W3
  obtain ⟨gR, hgR0⟩ : ∃ gR, gR = w2.heap.size := ⟨_, rfl⟩
  have HBk0 : Hid (Blk W3 gR 46 (liC 11 0 (.slice none 0 0))) := Lib.hid (by rw [← hW3, hgR0]; exact Blk.new w2 _ _)
  have HZ3 : Hid (ZB W3 w.heap.size) := Lib.hid (by rw [← hW3]; exact Blk.alloc HZ2.out _)
  have HB3 : Hid (Below w.heap.size w W3) := Lib.hid (by rw [← hW3]; exact HB2.out.alloc HB2.out.size _)
  have HO3 : Hid (Reads W3 gR 1 A5 cs.length (strs cs)) := Lib.hid (by rw [← hW3, hgR0, hfl]; exact HO2.out.alloc (Nat.le_refl _) _)
  have hgw : w.heap.size < gR := by have := Blk.lt HZ2.out; omega
  have hg3 : gR < W3.heap.size := HBk0.out.lt
  rw [← hgR0]
  clear hW3 hgR0 HZ2 HB2 HO2 hz2'
  have HRel0 : Hid (RoRel cs n gR w W3 (.int .i64 (0 : Nat)) W3) := Lib.hid ⟨0, _, [], rfl, Nat.zero_le _, Lib.hid rfl, Lib.hid rfl, HBk0.out, HZ3.out, Lib.hid (KOwn.nil _ _ _), Below.refl _ _, HB3.out⟩
  go_wp2_with fail
  go_loopw [14] (fun v14 wr => RoRel cs n gR w W3 v14 wr) (fun v14 _ => n - (intOf v14).toNat)
  case atStart => exact HRel0.out
  case round =>
    clear HRel0 HBk0 HZ3
    obtain ⟨k, vK, its, rfl, hk, hil, Hits, hBk, hZ, HKO, hbW, hbw⟩ := hrel
    have hzr := hbw.size
    have hgR := hBk.lt
    have hil2 : its.length ≤ n := by rw [hil.out]; exact hk
    obtain ⟨AK, cK, rfl⟩ := HKO.out.own
    obtain ⟨l0, l1, l2, l3, l4, l5, l6, l7, l8, l9, l10, j0, j1, j2, j3, j4, j5, j6, j7, j8, j9, j10⟩ := li_facts hBk
    by_cases hlt : k < n
    · obtain ⟨bS, oS, rfl, hbS, hcell⟩ := reads_get HO3.out (by omega)
      have hkl : k < cs.length := by omega
      have hcc := hcell k hkl
      have hc5 : wr.cell? ⟨bS, oS + k, none⟩ = some (.string cs[k]) := (hbW.cell (p := ⟨bS, oS + k, none⟩) hbS).trans hcc
      have HSr := Lib.hid fun W => n_source cs[k] W
      obtain ⟨S, vs, hS, hkk, hown⟩ := HKO.out
      have hv7 := hown.lt
      have HKK := Lib.hid hkk
      have HSS := Lib.hid hS
      have HF9 : Hid (∀ W, Below wr.heap.size wr W → W.cell? ⟨gR, 10, none⟩ = some (.slice AK its.length cK) ∧ W.cell? ⟨bS, oS + k, none⟩ = some (.string cs[k]) ∧ (∀ o, (W.alloc o).cell? ⟨gR, 10, none⟩ = some (.slice AK its.length cK)) ∧ gR < W.heap.size) := Lib.hid fun W h => by
        have h1 := (hBk.below h hgR).cell 10
        have h2 : gR < W.heap.size := (hBk.below h hgR).lt
        exact ⟨h1, (h.cell (p := ⟨bS, oS + k, none⟩) (by show bS < _; omega)).trans hc5, fun o => (World.cell?_alloc_lt W o _ h2).trans h1, h2⟩
      have HRel : Hid (∀ (g cap : Nat) (w3 : World), Blk w3 gR 46 (liC 11 0 (.slice AK its.length cK)) → ZB w3 w.heap.size → KOwn w3 (gR + 1) (fun _ => False) (.slice (some ⟨g, 0, none⟩) (its.length + 1) cap) (its ++ [leafB 12 cs[k]]) → Below gR W3 w3 → Below w.heap.size w w3 → RoRel cs n gR w W3 (.int .i64 ((k : Int) + 1)) (w3.setCell ⟨gR, 10, none⟩ (.slice (some ⟨g, 0, none⟩) (its.length + 1) cap))) := Lib.hid fun g cap w3 h1 h2 h3 h4 h5 =>
        ⟨k + 1, _, its ++ [leafB 12 cs[k]], by go_num, by omega, Lib.hid (by rw [List.length_append, hil.out]; rfl), Lib.hid (by rw [List.take_succ_eq_append_getElem hkl, List.map_append, ← Hits.out]; rfl), h1.set_ 10 _, Blk.far h2 (by simp; omega) _, Lib.hid (h3.far (only_store (only_refl w3 (some gR)) 10 _) (by omega)), h4.setCell (p := ⟨gR, 10, none⟩) (Nat.le_refl _) _, h5.setCell (p := ⟨gR, 10, none⟩) (by show _ ≤ gR; omega) _⟩
      have hab : ∀ (Av : Option Addr) (nv cv : Nat), AnyB #[.int .i64 12, .int .i64 0, .string ⟨#[]⟩, .string ⟨#[]⟩, .string ⟨#[]⟩, .string ⟨#[]⟩, .string ⟨#[]⟩, .slice none 0 0, .slice none 0 0, .slice Av nv cv, .slice none 0 0] := fun Av nv cv => ⟨_, _, _, _, _, _, _, _, _, _, _, _, _, _, _, _, _, _, _, rfl⟩
      have HAB := Lib.hid hab
      clear hab hkk hS hcc hcell HKO Hits l0 l1 l2 l3 l4 l5 l6 l7 l8 l9 j0 j1 j2 j3 j4 j5 j6 j7 j8 j9 j10
      generalize cs[k] = y at *
      go_wp2_with fail
      refine wp_region_held_drew (S := fun _ => True) (by kernel_rfl) trivial (fun hHeld => ?_)
      refine tk 0 (.pointer (some ⟨gR, 10, none⟩)) rfl hHeld (fun W' hSw => ?_) ?_
      · go_simp
      refine tk 2 (.slice (some ⟨bS, oS, none⟩) n c5) rfl hHeld (fun W' hSw => ?_) ?_
      · go_simp
      refine tk 3 (.int .i64 k) rfl hHeld (fun W' hSw => ?_) ?_
      · go_simp
      refine tk 4 (.pointer (some ⟨bS, oS + k, none⟩)) rfl hHeld (fun W' hSw => ?_) ?_
      · go_simp
      refine wpAnyH_ready (rs := [1, 5]) (by kernel_rfl) (by simp) (AllReadyH.cons rfl (fun K hK => ?_) (AllReadyH.cons rfl (fun K hK => ?_) AllReadyH.nil))
      go_simp
      refine hK.out _ _ trivial (fun hHeld => ?_)
      clear hK K
      refine rd1 5 rfl (fun K hK => ?_)
      go_simp
      refine hK.out _ _ trivial (fun hHeld => ?_)
      clear hK K
      refine rd1 6 rfl (fun K hK => ?_)
      go_simp
      ((with_reducible refine (HSr.out _).mono ?_))
      rintro e w9 ⟨v, rfl, hsrc, b8⟩
      have b9 : Below wr.heap.size wr w9 := (Below.refl wr.heap.size wr).drew.trans b8
      obtain ⟨Av, nv, cv, rfl⟩ := srcV_form hsrc
      obtain ⟨f10, f11, f12, f13⟩ := HF9.out _ b9
      have hk11 := f12 (.cells #[.int .i64 12, .int .i64 0, .string ⟨#[]⟩, .string ⟨#[]⟩, .string ⟨#[]⟩, .string ⟨#[]⟩, .string ⟨#[]⟩, .slice none 0 0, .slice none 0 0, .slice Av nv cv, .slice none 0 0] 46)
      have hz9 := b9.size
      go_simp
      refine hK.out _ _ trivial (fun hHeld => ?_)
      clear hK K
      refine rd1 7 rfl (fun K hK => ?_)
      go_simp
      refine hK.out _ _ trivial (fun hHeld => ?_)
      clear hK K
      refine rd1 8 rfl (fun K hK => ?_)
      go_simp
      refine hK.out _ _ trivial (fun hHeld => ?_)
      clear hK K
      rotate_left
      go_simp
      refine hK.out _ _ trivial (fun hHeld => ?_)
      clear hK K
      refine wpAnyH_ready (rs := [1, 6]) (by kernel_rfl) (by simp) (AllReadyH.cons rfl (fun K hK => ?_) (AllReadyH.cons rfl (fun K hK => ?_) AllReadyH.nil))
      go_simp
      refine hK.out _ _ trivial (fun hHeld => ?_)
      clear hK K
      refine rd1 6 rfl (fun K hK => ?_)
      go_simp
      ((with_reducible refine (HSr.out _).mono ?_))
      rintro e w9 ⟨v, rfl, hsrc, b8⟩
      have b9 : Below wr.heap.size wr w9 := (Below.refl wr.heap.size wr).drew.trans b8
      obtain ⟨Av, nv, cv, rfl⟩ := srcV_form hsrc
      obtain ⟨f10, f11, f12, f13⟩ := HF9.out _ b9
      have hk11 := f12 (.cells #[.int .i64 12, .int .i64 0, .string ⟨#[]⟩, .string ⟨#[]⟩, .string ⟨#[]⟩, .string ⟨#[]⟩, .string ⟨#[]⟩, .slice none 0 0, .slice none 0 0, .slice Av nv cv, .slice none 0 0] 46)
      have hz9 := b9.size
      go_simp
      refine hK.out _ _ trivial (fun hHeld => ?_)
      clear hK K
      refine rd1 7 rfl (fun K hK => ?_)
      go_simp
      refine hK.out _ _ trivial (fun hHeld => ?_)
      clear hK K
      refine rd1 8 rfl (fun K hK => ?_)
      go_simp
      refine hK.out _ _ trivial (fun hHeld => ?_)
      clear hK K
      rotate_left
      go_simp
      ((with_reducible refine (HSr.out _).mono ?_))
      rintro e w9 ⟨v, rfl, hsrc, b8⟩
      have b9 : Below wr.heap.size wr w9 := (Below.refl wr.heap.size wr).drew.trans b8
      obtain ⟨Av, nv, cv, rfl⟩ := srcV_form hsrc
      obtain ⟨f10, f11, f12, f13⟩ := HF9.out _ b9
      have hk11 := f12 (.cells #[.int .i64 12, .int .i64 0, .string ⟨#[]⟩, .string ⟨#[]⟩, .string ⟨#[]⟩, .string ⟨#[]⟩, .string ⟨#[]⟩, .slice none 0 0, .slice none 0 0, .slice Av nv cv, .slice none 0 0] 46)
      have hz9 := b9.size
      go_simp
      refine hK.out _ _ trivial (fun hHeld => ?_)
      clear hK K
      refine tk 7 (.agg #[.int .i64 12, .int .i64 0, .string ⟨#[]⟩, .string ⟨#[]⟩, .string ⟨#[]⟩, .string ⟨#[]⟩, .string ⟨#[]⟩, .slice none 0 0, .slice none 0 0, .slice Av nv cv, .slice none 0 0]) rfl hHeld (fun W' hSw => ?_) ?_
      · go_simp
      refine wpAnyH_ready (rs := [1, 8]) (by kernel_rfl) (by simp) (AllReadyH.cons rfl (fun K hK => ?_) (AllReadyH.cons rfl (fun K hK => ?_) AllReadyH.nil))
      go_simp
      refine hK.out _ _ trivial (fun hHeld => ?_)
      clear hK K
      refine rd1 8 rfl (fun K hK => ?_)
      go_simp
      refine hK.out _ _ trivial (fun hHeld => ?_)
      clear hK K
      rotate_left
      go_simp
      refine hK.out _ _ trivial (fun hHeld => ?_)
      clear hK K
      refine rd1 1 rfl (fun K hK => ?_)
      go_simp
      refine hK.out _ _ trivial (fun hHeld => ?_)
      clear hK K
      all_goals
        refine rd1 9 rfl (fun K hK => ?_)
        refine step_append_lies _ rfl (.tmp 18) (.tmp 25) 25 rfl (gR + 1) 46 i0 _ 11 192 Tryz.underlying25 hi0 hz0 hz1 hz2 rfl (by decide) _ _ _ rfl ((own_below hown b9).alloc _) ⟨w9.heap.size, 0, none⟩ 1 1 #[.int .i64 12, .int .i64 0, .string ⟨#[]⟩, .string ⟨#[]⟩, .string ⟨#[]⟩, .string ⟨#[]⟩, .string ⟨#[]⟩, .slice none 0 0, .slice none 0 0, .slice Av nv cv, .slice none 0 0].toList rfl rfl ?c1 (HAB.out _ _ _).one (by decide) ?c3 ?c4 ?c5 (w9.heap.size + 1) ?c6 ?_
        case c1 => exact World.news_of_block (t := 46) (fr := (0, 0)) (cs := #[.int .i64 12, .int .i64 0, .string ⟨#[]⟩, .string ⟨#[]⟩, .string ⟨#[]⟩, .string ⟨#[]⟩, .string ⟨#[]⟩, .slice none 0 0, .slice none 0 0, .slice Av nv cv, .slice none 0 0]) (heap_alloc_new w9 _)
        case c3 => unfold maxLen; omega
        case c4 => omega
        case c5 => simp; omega
        case c6 => simp
        intro g7 cap7 w3 hown3 hgrow hlies hlt3
        refine hK.out _ _ trivial (fun hHeld => ?_)
        clear hK K
        have HKO3 := Lib.hid (KOwn.push (E := fun _ => False) HSS.out HKK.out b9 (fun k h => (hv7 k h).2) (fun k h => h.elim) (by omega) hz9 (repB_leaf (kind := 12) (srcV_low hsrc (Nat.le_refl _))) hown3 hgrow hlies (Nat.le_succ _))
        have HBk3 : Hid (Blk w3 gR 46 (liC 11 0 (.slice AK its.length cK))) := Lib.hid ((Blk.alloc (hBk.below b9 hgR) _).grown hgrow (fun e => by have := (hv7 _ e.symm).1; omega))
        have HZ3 : Hid (ZB w3 w.heap.size) := Lib.hid (Blk.grown (Blk.alloc (hZ.below (w := w) b9) _) hgrow (fun e => by have := (hv7 _ e.symm).1; omega))
        have HB3 : Hid (Below gR W3 w3) := Lib.hid (((hbW.trans (b9.mono (by omega))).alloc (by omega) _).grown hgrow (by simp; omega) (fun k e => by have := (hv7 k e).1; omega))
        have HW3 : Hid (Below w.heap.size w w3) := Lib.hid (((hbw.trans (b9.mono (by omega))).alloc (by omega) _).grown hgrow (by simp; omega) (fun k e => by have := (hv7 k e).1; omega))
        obtain ⟨l0, l1, l2, l3, l4, l5, l6, l7, l8, l9, l10, j0, j1, j2, j3, j4, j5, j6, j7, j8, j9, j10⟩ := li_facts HBk3.out
        have hg3 := HBk3.out.lt
        clear l0 l1 l2 l3 l4 l5 l6 l7 l8 l9 j0 j1 j2 j3 j4 j5 j6 j7 j8 j9
        refine rd1 10 rfl (fun K hK => ?_)
        go_simp
        refine hK.out _ _ trivial (fun hHeld => ?_)
        clear hK K
        refine rd1 11 rfl (fun K hK => ?_)
        go_simp
        refine hK.out _ _ trivial (fun hHeld => ?_)
        clear hK K
        refine wpAnyH_done (by kernel_rfl) ?_ _
        go_wp2_with fail
        go_roundw
        case rel => exact HRel.out _ _ _ HBk3.out HZ3.out HKO3.out HB3.out HW3.out
        case measure => simp [intOf]; omega
    · obtain rfl : k = n := by omega
      have HKf := Lib.hid (show Hid (its = cs.map (leafB 12)) from Lib.hid (by rw [Hits.out, List.take_of_length_le (by omega)]))
      have HBkr := Lib.hid hBk
      have HZr := Lib.hid hZ
      have HBr := Lib.hid hbw
      obtain ⟨k0, k1, k2, k3, k4, k5, k6, k7, k8, k9, k10, y0, y1, y2, y3, y4, y5, y6, y7, y8, y9, y10⟩ := ZB.facts hZ
      clear Hits hBk hZ hbw hbW j0 j1 j2 j3 j4 j5 j6 j7 j8 j9 j10
      go_wp2_with fail
      refine rowOf_ret (blk11 HZr.out _ _ _ _ _ _ _ _ _ _ _) rfl rfl ⟨⟨_, rfl, ?_⟩, below11 HBr.out (Nat.le_refl _) _ _ _ _ _ _ _ _ _ _ _⟩
      rw [HRT.out, ← HKf.out.out]
      have hlow : B ≤ gR + 1 := by omega
      have hfar : w.heap.size < gR + 1 := by omega
      exact repB_mk (kind := 11) (level := 0) (att := emptyA) (AttR.empty _ _ _ _) (srcV_none _ _) ((KOwn.kids (HKO.out.far (grown11 _ _ _ _ _ _ _ _ _ _ _ _ _) hfar)).low hlow)

end Go.Proofs.YtpoafhgbhnblmaaGreatDoor
namespace Go.Proofs.YtpoafhgbhnblmaaGreatDoor
open Go.RowKit Go.Pub
theorem tableTo_bd (zs : List ByteArray) (i : Nat) (hi : i + 1 < zs.length) : i + 2 ≤ tableTo zs i ∧ tableTo zs i ≤ zs.length := by
  have := seek_spec (fun j => !decide (kindOf zs j = 0)) zs.length (i + 2) (by omega)
  exact ⟨this.1, this.2.1⟩
def rowsK (zs : List ByteArray) (i n k : Nat) : List BkT := rowT (ln zs i) n :: (cutL zs (i + 2) k).map fun z => rowT z n
theorem rowsK_succ (zs : List ByteArray) (i n k : Nat) (h : i + 2 ≤ k) (hk : k < zs.length) : rowsK zs i n (k + 1) = rowsK zs i n k ++ [rowT (ln zs k) n] := by
  unfold rowsK
  rw [cutL_succ zs (i + 2) k h hk, List.map_append, List.cons_append]
  rfl
theorem rowsK_len (zs : List ByteArray) (i n k : Nat) (h : i + 2 ≤ k) (hk : k ≤ zs.length) : (rowsK zs i n k).length = k - i - 1 := by
  unfold rowsK; rw [List.length_cons, List.length_map, cutL_len _ _ _ h hk]; omega
def TbRel (zs : List ByteArray) (i n : Nat) (w : World) (v11 v12 : Value) (wr : World) : Prop :=
  ∃ k : Nat, v12 = .int .i64 k ∧ i + 2 ≤ k ∧ k ≤ zs.length ∧ Hid (KOwn wr (w.heap.size + 1) (fun _ => False) v11 (rowsK zs i n k)) ∧ ZB wr w.heap.size ∧ Below w.heap.size w wr ∧ Hid (∀ j, i + 2 ≤ j → j < k → kindOf zs j = 0)
/-- The first block of a row that was just laid. -/
theorem KOwn.lit {W : World} {B base : Nat} {vb : Array Value} {b : BkT} (hb : RepB W (Rg B W) vb b) (hB : base ≤ B) (hBw : base ≤ W.heap.size) : KOwn (W.alloc (.cells vb 46)) base (fun _ => False) (.slice (some ⟨W.heap.size, 0, none⟩) 1 1) [b] := by
  refine ⟨Rg B W, [vb], fun g hg => ⟨Nat.le_trans hB hg.1, by simp; exact Nat.lt_succ_of_lt hg.2, ?_, fun h => h⟩, .cons _ _ _ _ (hb.keep (fun g hg => Below.heap_alloc W _ g hg.2) fun _ h => h) .nil, ?_⟩
  · intro e
    have : W.heap.size = g := by simpa [Value.ownBlock] using e
    have := hg.2
    omega
  · have h := World.ownsRow_lit (base := base) (size := 11) (e := 46) W vb 1 hBw (by decide) hb.size
    simpa using h
set_option maxRecDepth 100000 in
set_option maxHeartbeats 2000000 in
theorem n_table (d : Nat) (hd : d ≤ 15) (zs : List ByteArray) (A : Option Addr) (c i B : Nat) (MM : Int) (w : World) (hL : LinesAt w A zs MM) (hi : i + 1 < zs.length) (hB : B ≤ w.heap.size) (r : List UInt8) (hr : alignR (bytesL (ln zs (i + 1))) = some r) :
    Calls Tryz.prog 78 #[.slice A zs.length c, .int .i64 i, .int .i64 d] w
      (BkPost B (if decide (d + 2 ≤ 15) = true then some (tableB zs i r, tableTo zs i) else none) w) := by
  have hlen := hL.len
  have hrl := alnR_len hr
  obtain ⟨i0, hi0, hz0, hz1, hz2⟩ := info_parts block_info
  obtain ⟨b, off, rfl, hb, hcell⟩ := hL.get (by omega)
  have HCell := Lib.hid hcell
  have HLi := Lib.hid hL
  obtain ⟨PR, hPR⟩ : ∃ PR, PR = if decide (d + 2 ≤ 15) = true then some (tableB zs i r, tableTo zs i) else none := ⟨_, rfl⟩
  rw [← hPR]
  have HPR := Lib.hid hPR
  clear hPR
  have HZ0 := Lib.hid (Blk.new w 46 zbC)
  unfold zbC at HZ0
  have HB0 : Hid (∀ o, Below w.heap.size w (w.alloc o)) := Lib.hid fun o => (Below.refl _ w).alloc (Nat.le_refl _) _
  by_cases hd2 : d + 2 ≤ 15
  case neg =>
    have d1 : decide (15 < (d : Int) + 2) = true := decide_eq_true (by omega)
    obtain ⟨k0, k1, k2, k3, k4, k5, k6, k7, k8, k9, k10, y0, y1, y2, y3, y4, y5, y6, y7, y8, y9, y10⟩ := ZB.facts HZ0.out
    clear hL hcell
    go_enter Tryz.func78, Tryz.ntmps78
    go_wp2_with fail
    exact tableAt_ret HZ0.out rfl rfl rfl rfl (bk_none (by rw [HPR.out, if_neg (by rw [decide_eq_true_eq]; exact hd2)]) ⟨_, _, _, _, _, _, _, _, _, _, _, _, _, _, _, _, _, _, _, rfl⟩ (HB0.out _))
  have d1 : decide (15 < (d : Int) + 2) = false := decide_eq_false (by omega)
  have HPR2 : Hid (PR = some (tableB zs i r, tableTo zs i)) := Lib.hid (by rw [HPR.out, if_pos (decide_eq_true hd2)])
  have HAl : Hid (∀ W, Calls Tryz.prog 119 #[.string (ln zs (i + 1))] W fun e w' => e = .returned (.tuple #[.string (mk r), .bool true]) ∧ Below W.heap.size W w') := Lib.hid fun W => (t_align (ln zs (i + 1)) W (Nat.le_trans (ln_size hL.sz _) (by decide))).mono fun e w' h => by
    rw [hr] at h; exact h
  have hms : (mk r).size = r.length := mk_size r
  have HRow : Hid (∀ (j B : Nat) (W : World), W.cell? ⟨0, 0, none⟩ = some (.int .i64 MM) → B ≤ W.heap.size → Calls Tryz.prog 121 #[.string (ln zs j), .int .i64 (mk r).size] W fun e w' => (∃ v, e = .returned (.agg v) ∧ RepB w' (Rg B w') v (rowT (ln zs j) (mk r).size)) ∧ Below W.heap.size W w') := Lib.hid fun j B W h hB => n_row (ln zs j) (mk r).size B MM W (ln_size hL.sz j) (by omega) h hB
  have HM : Hid (∀ j W, Calls Tryz.prog 38 #[.string (ln zs j)] W fun e w' => ∃ A c D d, e = .returned (.agg ((markM (ln zs j)).cells (.slice A (markM (ln zs j)).att.cl.length c) (.slice D (markM (ln zs j)).att.pr.length d))) ∧ Below W.heap.size W w') := Lib.hid fun j W => (m_of (ln zs j) W (Nat.le_trans (ln_size hL.sz j) (by decide))).mono fun e w' => mkpost_val
  have htb := tableTo_bd zs i hi
  have HTB : Hid (tableB zs i r = .mk 10 0 (mk r) ⟨#[]⟩ ⟨#[]⟩ ⟨#[]⟩ emptyA ⟨#[]⟩ (rowsK zs i (mk r).size (tableTo zs i))) := Lib.hid (by rw [hms]; rfl)
  have HR0 : Hid (rowsK zs i (mk r).size (i + 2) = [rowT (ln zs i) (mk r).size]) := Lib.hid (by unfold rowsK cutL; simp)
  have HRs := Lib.hid fun k => rowsK_succ zs i (mk r).size k
  have HRl := Lib.hid fun k => rowsK_len zs i (mk r).size k
  have HSt : Hid (∀ k, i + 2 ≤ k → k ≤ zs.length → (∀ j, i + 2 ≤ j → j < k → kindOf zs j = 0) → (k < zs.length → kindOf zs k ≠ 0) → tableTo zs i = k) := Lib.hid fun k h1 h2 h3 h4 => seek_eq _ _ _ _ h1 h2 (fun j a b => by rw [h3 j a b]; rfl) (fun h => by rw [decide_eq_false (h4 h)]; rfl)
  have HFd := Lib.hid mark_field
  have hc1 : ∀ o, (w.alloc o).cell? ⟨b, off + (i + 1), none⟩ = some (.string (ln zs (i + 1))) := fun o => ((HB0.out o).cell (p := ⟨b, off + (i + 1), none⟩) hb).trans (hcell (i + 1) hi)
  have HC1 := Lib.hid hc1
  clear hL hcell hr hms hc1 HPR
  go_enter Tryz.func78, Tryz.ntmps78
  have hc1 := HC1.out (.cells #[.int .i64 0, .int .i64 0, .string ⟨#[]⟩, .string ⟨#[]⟩, .string ⟨#[]⟩, .string ⟨#[]⟩, .string ⟨#[]⟩, .slice none 0 0, .slice none 0 0, .slice none 0 0, .slice none 0 0] 46)
  go_wp2_with fail
  ((with_reducible refine (HAl.out _).mono ?_))
  rintro e w1 ⟨rfl, b1⟩
  have HZ1 := Lib.hid (show ZB w1 w.heap.size from Blk.below HZ0.out b1 (by simp))
  have HB1 := Lib.hid ((HB0.out (.cells #[.int .i64 0, .int .i64 0, .string ⟨#[]⟩, .string ⟨#[]⟩, .string ⟨#[]⟩, .string ⟨#[]⟩, .string ⟨#[]⟩, .slice none 0 0, .slice none 0 0, .slice none 0 0, .slice none 0 0] 46)).trans (b1.mono (by simp)))
  have hz1' := HZ1.out.lt
  have hc2 := (HB1.out.cell (p := ⟨b, off + i, none⟩) hb).trans (HCell.out i (by omega))
  have HRw1 := Lib.hid (HRow.out i (w.heap.size + 1) w1 (HLi.out.below HB1.out).cell hz1')
  clear b1 HAl hc1 HC1 HB0 HZ0
  go_wp2_with fail
  ((with_reducible refine (HRw1.out).mono ?_))
  rintro e w2 ⟨⟨v, rfl, hrep⟩, b2⟩
  have HZ2 := Lib.hid (HZ1.out.below (w := w) b2)
  have HB2 := Lib.hid (HB1.out.trans (b2.mono HB1.out.size))
  have hz2' := HZ2.out.lt
  have HK2 := Lib.hid (KOwn.lit (base := w.heap.size + 1) hrep (Nat.le_refl _) hz2')
  obtain ⟨f0, f1, f2, f3, f4, f5, f6, D9, n9, c9, D10, n10, c10, D11, n11, c11, D12, n12, c12, rfl⟩ := hrep.form
  clear hrep b2 hc2 HRw1 HZ1 HB1
  go_upto_block 0 with fail
  generalize hW3 : w2.alloc _ = W3
  have HZ3 : Hid (ZB W3 w.heap.size) := Lib.hid (by rw [← hW3]; exact Blk.alloc HZ2.out _)
  have HB3 : Hid (Below w.heap.size w W3) := Lib.hid (by rw [← hW3]; exact HB2.out.alloc HB2.out.size _)
  have HK3 : Hid (KOwn W3 (w.heap.size + 1) (fun _ => False) (.slice (some ⟨w2.heap.size, 0, none⟩) 1 1) (rowsK zs i (mk r).size (i + 2))) := Lib.hid (by rw [← hW3, HR0.out]; exact HK2.out)
  clear hW3 HK2 HZ2 HB2 hz2' hz1'
  generalize w2.heap.size = g2 at *
  go_cut [11, 12] (fun s11 s12 wx => s12 = .int .i64 (tableTo zs i) ∧ KOwn wx (w.heap.size + 1) (fun _ => False) s11 (rowsK zs i (mk r).size (tableTo zs i)) ∧ ZB wx w.heap.size ∧ Below w.heap.size w wx)
  case first =>
    go_wp2_with fail
    go_loopw [11, 12] (fun v11 v12 wr => TbRel zs i (mk r).size w v11 v12 wr) (fun _ v12 _ => zs.length - (intOf v12).toNat)
    case atStart => exact ⟨i + 2, by go_num, Nat.le_refl _, by omega, HK3.out, HZ3.out, HB3.out, Lib.hid fun j h1 h2 => absurd h2 (by omega)⟩
    case round =>
      clear HZ3 HB3 HK3
      obtain ⟨k, rfl, hk1, hk, HKO, hZ, hbw, Hno⟩ := hrel
      have hzr := hbw.size
      have hzl := Blk.lt hZ
      have HZr := Lib.hid hZ
      have HT : Hid ((k < zs.length → kindOf zs k ≠ 0) → tableTo zs i = k) := Lib.hid (HSt.out k hk1 hk Hno.out)
      obtain ⟨AK, cK, rfl⟩ := HKO.out.own
      have hrkl := HRl.out k hk1 hk
      have hrk : (rowsK zs i (mk r).size k).length ≤ 10000 := by omega
      clear hrkl
      by_cases hlt : k < zs.length
      · have hc0 : wr.cell? ⟨b, off + k, none⟩ = some (.string (ln zs k)) := (hbw.cell (p := ⟨b, off + k, none⟩) hb).trans (HCell.out k hlt)
        have HM1 := Lib.hid fun W => HM.out k W
        have hkk : Hid (kindOf zs k = (markM (ln zs k)).kind) := Lib.hid rfl
        have HE := Lib.hid (HRs.out k hk1 hlt)
        clear HM hZ HSt HRs HRl
        generalize markM (ln zs k) = m at *
        unfold MkL.cells at HM1
        have hfd := HFd.out
        by_cases h0 : m.kind = 0
        · have z1 : (((m.kind : Nat) : Int) == 0) = true := kT (by omega)
          have z2 : ((m.kind : Nat) == 0) = true := by rw [beq_iff_eq]; exact h0
          have HNx : Hid (∀ j, i + 2 ≤ j → j < k + 1 → kindOf zs j = 0) := Lib.hid fun j h1 h2 => by
            by_cases e : j = k
            · rw [e, hkk.out]; exact h0
            · exact Hno.out j h1 (by omega)
          clear h0 hkk HT Hno
          go_wp2_with fail
          ((with_reducible refine (HM1.out _).mono ?_))
          rintro e w3 ⟨A1, c1, A2, c2, rfl, b1⟩
          have hc3 : w3.cell? ⟨b, off + k, none⟩ = some (.string (ln zs k)) := ((hbw.trans (b1.mono hzr)).cell (p := ⟨b, off + k, none⟩) hb).trans (HCell.out k hlt)
          have HRw := Lib.hid (HRow.out k wr.heap.size w3 (HLi.out.below (hbw.trans (b1.mono hzr))).cell b1.size)
          have hz3 := b1.size
          clear hc0
          go_wp2_with fail
          ((with_reducible refine (HRw.out).mono ?_))
          rintro e w4 ⟨⟨v, rfl, hrep⟩, b4⟩
          have b14 := b1.trans (b4.mono hz3)
          have hz4 := b14.size
          have hab := hrep.form
          obtain ⟨e0, e1, e2, e3, e4, e5, e6, E9, m9, d9, E10, m10, d10, E11, m11, d11, E12, m12, d12, rfl⟩ := hrep.form
          obtain ⟨S, vs, hS, hkk, hown⟩ := HKO.out
          have hv7 := hown.lt
          have HKK := Lib.hid hkk
          have HSS := Lib.hid hS
          have HREP := Lib.hid hrep
          have HB14 := Lib.hid b14
          have hown4 := own_below hown b14
          clear hkk hS hown HKO hrep b1 b4 b14 hc3 HRw
          go_wp2_with (at_builtin; refine wpList_append_lies _ rfl _ _ 25 rfl (w.heap.size + 1) 46 i0 _ 11 192 Tryz.underlying25 hi0 hz0 hz1 hz2 rfl (by decide) _ _ _ rfl (hown4.alloc _) ⟨w4.heap.size, 0, none⟩ 1 1 _ rfl hab.len ?c1 hab.one (by decide) ?c3 ?c4 ?c5 (w4.heap.size + 1) ?c6 ?_)
          case c3 => unfold maxLen; omega
          case c4 => omega
          case c5 => simp; omega
          case c6 => simp
          intro g7 cap7 w5 hown5 hgrow hlies hlt5
          have HKO5 := Lib.hid (KOwn.push (E := fun _ => False) HSS.out HKK.out HB14.out (fun k h => (hv7 k h).2) (fun k h => h.elim) (by omega) HB14.out.size HREP.out hown5 hgrow hlies (Nat.le_succ _))
          have HZ5 : Hid (ZB w5 w.heap.size) := Lib.hid (Blk.grown (Blk.alloc (HZr.out.below (w := w) HB14.out) _) hgrow (fun e => by have := (hv7 _ e.symm).1; omega))
          have HB5 : Hid (Below w.heap.size w w5) := Lib.hid (((hbw.trans (HB14.out.mono hzr)).alloc (by omega) _).grown hgrow (by simp; omega) (fun k e => by have := (hv7 k e).1; omega))
          clear hgrow hlies hown5 hown4 hab
          go_wp2_with fail
          go_roundw
          case rel => exact ⟨k + 1, by go_num, by omega, by omega, Lib.hid (by rw [HE.out]; exact HKO5.out), HZ5.out, HB5.out, HNx⟩
          case measure => simp [intOf]; omega
        · have z1 : (((m.kind : Nat) : Int) == 0) = false := kF (by omega)
          have z2 : ((m.kind : Nat) == 0) = false := by rw [beq_eq_false_iff_ne]; exact h0
          have HQ := Lib.hid (HT.out fun _ => by rw [hkk.out]; exact h0)
          clear h0 hkk HT Hno HE
          go_wp2_with fail
          ((with_reducible refine (HM1.out _).mono ?_))
          rintro e w3 ⟨A1, c1, A2, c2, rfl, b1⟩
          go_wp2_with fail
          go_meet
          rw [HQ.out]
          exact ⟨rfl, HKO.out.below b1, HZr.out.below (w := w) b1, hbw.trans (b1.mono hzr)⟩
      · have HQ := Lib.hid (HT.out fun h => absurd h hlt)
        clear HM hZ HT Hno HSt HRs HRl
        go_wp2_with fail
        go_meet
        rw [HQ.out]
        exact ⟨rfl, HKO.out, HZr.out, hbw⟩
  case rest =>
  obtain ⟨rfl, hko, hZ, hbw⟩ := hcut
  have HKO := Lib.hid hko
  have HZr := Lib.hid hZ
  have HBr := Lib.hid hbw
  obtain ⟨AK, cK, rfl⟩ := hko.own
  obtain ⟨k0, k1, k2, k3, k4, k5, k6, k7, k8, k9, k10, y0, y1, y2, y3, y4, y5, y6, y7, y8, y9, y10⟩ := ZB.facts hZ
  have hfar : w.heap.size < w.heap.size + 1 := Nat.lt_succ_self _
  have hlow : B ≤ w.heap.size + 1 := by omega
  clear hko hZ hbw HZ3 HB3 HK3 HM HRow HSt HRs HFd
  go_wp2_with fail
  exact tableAt_ret (blk11 HZr.out _ _ _ _ _ _ _ _ _ _ _) rfl rfl rfl rfl (bk_some (by rw [HPR2.out, HTB.out]) (repB_mk (kind := 10) (level := 0) (att := emptyA) (AttR.empty _ _ _ _) (srcV_none _ _) ((KOwn.kids (HKO.out.far (grown11 _ _ _ _ _ _ _ _ _ _ _ _ _) hfar)).low hlow)) (below11 HBr.out (Nat.le_refl _) _ _ _ _ _ _ _ _ _ _ _))

end Go.Proofs.YtpoafhgbhnblmaaGreatDoor
