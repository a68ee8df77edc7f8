/-
  Texts of the proof, put together (what this law reaches): NsG.
-/
import Derived.Test.YtpoafhgbhnblmaaGreatDoorX27
import Derived.Deep.CutBlock
import Derived.Deep.DeepCutAuto
set_option linter.unusedVariables false
set_option linter.unusedSimpArgs false
namespace Go.Proofs.YtpoafhgbhnblmaaGreatDoor
open Go.RowKit Go.Pub
theorem own_cap {w : World} {base size n : Nat} {e : TypeId} {v : Value} {xs : List Value} (h : w.ownsRow base e size v n xs) : ∃ A c, v = .slice A n c ∧ n ≤ c ∧ c ≤ maxLen := by
  rcases h.2 with ⟨rfl, rfl⟩ | ⟨g, cap, cur, rfl, _, _, h1, h2, _⟩
  · exact ⟨_, _, rfl, Nat.le_refl _, Nat.zero_le _⟩
  · exact ⟨_, _, rfl, h1, h2⟩
theorem strip_size (s : ByteArray) (n : Nat) : (stripB s n).size ≤ s.size := by unfold stripB; rw [ByteArray.size_extract]; omega
theorem cutL_mem {zs : List ByteArray} {i k : Nat} {z : ByteArray} (h : z ∈ cutL zs i k) : z ∈ zs := List.mem_of_mem_drop (List.mem_of_mem_take h)
/-- An item's lines are few and short, too. -/
theorem contL_ok (zs : List ByteArray) (i : Nat) (m : MkL) (hi : i < zs.length) (hM : ∀ z ∈ zs, z.size ≤ 100000) (hr : m.rest.size ≤ 100000) : (contL zs i m).1.length ≤ zs.length ∧ ∀ z ∈ (contL zs i m).1, z.size ≤ 100000 := by
  have hb := contTo_bd zs i m hi
  unfold contL
  by_cases hn : contNo zs i m = true
  · rw [if_pos hn]; exact ⟨Nat.zero_le _, fun z hz => absurd hz (by simp)⟩
  · rw [if_neg hn]
    refine ⟨?_, fun z hz => ?_⟩
    · rw [List.length_cons, List.length_map, cutL_len _ _ _ hb.1 hb.2]; omega
    · rcases List.mem_cons.1 hz with rfl | hz
      · exact hr
      · obtain ⟨y, hy, rfl⟩ := List.mem_map.1 hz
        exact Nat.le_trans (strip_size _ _) (hM y (cutL_mem hy))
/-- The first lines of an item. -/
def takeC (zs : List ByteArray) (i : Nat) (m : MkL) (k : Nat) : List ByteArray := m.rest :: ((cutL zs (i + 1) (contTo zs i m)).take k).map fun z => stripB z m.off
theorem takeC_len (zs : List ByteArray) (i : Nat) (m : MkL) (k : Nat) (h : i + 1 ≤ contTo zs i m) (h2 : contTo zs i m ≤ zs.length) (hk : i + 1 + k ≤ contTo zs i m) : (takeC zs i m k).length = k + 1 := by
  unfold takeC
  rw [List.length_cons, List.length_map, List.length_take, cutL_len _ _ _ h h2]
  omega
theorem takeC_succ (zs : List ByteArray) (i : Nat) (m : MkL) (k : Nat) (h2 : contTo zs i m ≤ zs.length) (hk : i + 1 + k < contTo zs i m) : strs (takeC zs i m (k + 1)) = strs (takeC zs i m k) ++ [.string (stripB (ln zs (i + 1 + k)) m.off)] := by
  have hl : (cutL zs (i + 1) (contTo zs i m)).length = contTo zs i m - (i + 1) := cutL_len _ _ _ (by omega) h2
  unfold takeC strs
  rw [List.take_succ_eq_append_getElem (by omega), List.map_append, List.map_cons, List.map_cons, List.map_append]
  rw [ln_at _ k (by omega), ln_cut zs _ _ _ hk]
  rfl
theorem takeC_all (zs : List ByteArray) (i : Nat) (m : MkL) (h2 : contTo zs i m ≤ zs.length) (h1 : i + 1 ≤ contTo zs i m) (hn : contNo zs i m = false) : contL zs i m = (takeC zs i m (contTo zs i m - (i + 1)), contTo zs i m) := by
  unfold contL takeC
  rw [if_neg (by rw [hn]; exact Bool.false_ne_true), List.take_of_length_le (by rw [cutL_len _ _ _ h1 h2]; exact Nat.le_refl _)]
/-- The mark's block, and nothing below changed. -/
def MkW (w : World) (MK : Array Value) (W : World) : Prop := Blk W w.heap.size 74 MK ∧ Below w.heap.size w W
theorem MkW.start (w : World) (MK : Array Value) : MkW w MK (w.alloc (.cells MK 74)) := ⟨Blk.new w _ _, (Below.refl _ w).alloc (Nat.le_refl _) _⟩
theorem MkW.next {w W W' : World} {MK : Array Value} (h : MkW w MK W) (hb : Below W.heap.size W W') : MkW w MK W' := ⟨h.1.below hb h.1.lt, h.2.trans (hb.mono h.2.size)⟩
def ContPost (r : List ByteArray × Nat) (MM : Int) (w : World) (e : Ending) (w' : World) : Prop := (∃ A c, e = .returned (.tuple #[.slice A r.1.length c, .int .i64 r.2]) ∧ r.1.length ≤ c ∧ c ≤ maxLen ∧ LinesAt w' A r.1 MM) ∧ Below w.heap.size w w'
def nbAt (zs : List ByteArray) (j : Nat) : Bool := !blankB (ln zs j)
def CoRel (zs : List ByteArray) (i : Nat) (m : MkL) (MK : Array Value) (w : World) (v8 v9 : Value) (wr : World) : Prop :=
  ∃ j : Nat, v9 = .int .i64 j ∧ v8 = .int .i64 (lastN (nbAt zs) (i + 1) (j - (i + 1)) : Nat) ∧ i + 1 ≤ j ∧ j ≤ zs.length ∧ MkW w MK wr ∧ Hid (∀ k, i + 1 ≤ k → k < j → contStop zs m k = false)
theorem contTo_at (zs : List ByteArray) (i j : Nat) (m : MkL) (h1 : i + 1 ≤ j) (h2 : j ≤ zs.length) (hno : ∀ k, i + 1 ≤ k → k < j → contStop zs m k = false) (hit : j < zs.length → contStop zs m j = true) : lastN (nbAt zs) (i + 1) (j - (i + 1)) = contTo zs i m := by
  unfold contTo
  rw [seek_eq (contStop zs m) zs.length (i + 1) j h1 h2 hno hit]
  rfl
theorem lastN_succ (q : Nat → Bool) (i j : Nat) (h : i ≤ j) : lastN q i (j + 1 - i) = if q j = true then j + 1 else lastN q i (j - i) := by
  rw [show j + 1 - i = (j - i) + 1 by omega]
  show (if q (i + (j - i)) = true then i + (j - i) + 1 else lastN q i (j - i)) = _
  rw [show i + (j - i) = j by omega]
def Co2Rel (zs : List ByteArray) (i : Nat) (m : MkL) (MK : Array Value) (w : World) (v10 v67 : Value) (wr : World) : Prop :=
  ∃ k : Nat, v67 = .int .i64 k ∧ i + 1 + k ≤ contTo zs i m ∧ wr.ownsRow (w.heap.size + 1) 9 1 v10 (k + 1) (strs (takeC zs i m k)) ∧ MkW w MK wr
set_option maxRecDepth 100000 in
set_option maxHeartbeats 4000000 in
theorem n_content (zs : List ByteArray) (A : Option Addr) (c i : Nat) (MM : Int) (m : MkL) (A9 : Option Addr) (n9 c9 : Nat) (A10 : Option Addr) (n10 c10 : Nat) (w : World) (hL : LinesAt w A zs MM) (hi : i < zs.length) (hc : zs.length ≤ c) (hcm : c ≤ maxLen) (ho : m.off ≤ 1000000) (hr : m.rest.size ≤ 100000) :
    Calls Tryz.prog 75 #[.slice A zs.length c, .int .i64 i, .agg (m.cells (.slice A9 n9 c9) (.slice A10 n10 c10))] w (ContPost (contL zs i m) MM w) := by
  have hbd := contTo_bd zs i m hi
  have hok := Lib.hid (contL_ok zs i m hi hL.sz hr)
  have hlen := hL.len
  obtain ⟨b, off, rfl, hb, hcell⟩ := hL.get (by omega)
  have HCell := Lib.hid hcell
  have HBl : Hid (∀ j W, Calls Tryz.prog 57 #[.string (ln zs j)] W fun e w' => e = .returned (.bool (blankB (ln zs j))) ∧ W = w') := Lib.hid fun j W => t_blank (ln zs j) W (Nat.le_trans (ln_size hL.sz j) (by decide))
  have HBr : Hid (∀ W, Calls Tryz.prog 57 #[.string m.rest] W fun e w' => e = .returned (.bool (blankB m.rest)) ∧ W = w') := Lib.hid fun W => t_blank m.rest W (by omega)
  have HIn : Hid (∀ j W, Calls Tryz.prog 58 #[.string (ln zs j)] W fun e w' => e = .returned (.int .i64 (indA (ln zs j) 0)) ∧ W = w') := Lib.hid fun j W => t_indent (ln zs j) W (Nat.le_trans (ln_size hL.sz j) (by decide))
  have HSt : Hid (∀ j W, Calls Tryz.prog 107 #[.string (ln zs j), .int .i64 (m.off : Nat)] W fun e w' => e = .returned (.string (stripB (ln zs j) m.off)) ∧ W = w') := Lib.hid fun j W => t_strip (ln zs j) m.off W (Nat.le_trans (ln_size hL.sz j) (by decide)) ho
  have HNo : Hid (contNo zs i m = (blankB m.rest && (decide (zs.length ≤ i + 1) || blankB (ln zs (i + 1))))) := Lib.hid rfl
  have HLi := Lib.hid hL
  have HW0 := Lib.hid (MkW.start w (m.cells (.slice A9 n9 c9) (.slice A10 n10 c10)))
  clear hL hcell
  by_cases hno : contNo zs i m = true
  · have HF : Hid (contL zs i m = ([], i + 1)) := Lib.hid (by unfold contL; rw [if_pos hno])
    have hbr : blankB m.rest = true := by rw [HNo.out, Bool.and_eq_true] at hno; exact hno.1
    rw [hbr] at HBr
    unfold MkL.cells
    by_cases h1 : zs.length ≤ i + 1
    · have d1 : decide ((zs.length : Int) ≤ (i : Int) + 1) = true := decide_eq_true (by omega)
      clear HNo hno hbr HBl HIn HSt
      go_enter Tryz.func75, Tryz.ntmps75
      go_wp2_with fail
      ((with_reducible refine (HBr.out _).mono ?_))
      rintro e w1 ⟨rfl, rfl⟩
      go_wp2_with fail
      go_ret2
      rw [HF.out]
      exact ⟨⟨_, _, rfl, Nat.le_refl _, Nat.zero_le _, ⟨Reads.none_, Nat.zero_le _, fun z hz => absurd hz (by simp), (HLi.out.below HW0.out.2).cell⟩⟩, HW0.out.2⟩
    · have d1 : decide ((zs.length : Int) ≤ (i : Int) + 1) = false := decide_eq_false (by omega)
      have hb1 : blankB (ln zs (i + 1)) = true := by
        rw [HNo.out, Bool.and_eq_true, Bool.or_eq_true] at hno
        rcases hno.2 with h | h
        · rw [decide_eq_true_eq] at h; omega
        · exact h
      have HB1 := Lib.hid fun W => HBl.out (i + 1) W
      rw [hb1] at HB1
      have hc1 := (HW0.out.2.cell (p := ⟨b, off + (i + 1), none⟩) hb).trans (HCell.out (i + 1) (by omega))
      unfold MkL.cells at hc1
      clear HNo hno hbr HBl HIn HSt hb1
      go_enter Tryz.func75, Tryz.ntmps75
      go_wp2_with fail
      ((with_reducible refine (HBr.out _).mono ?_))
      rintro e w1 ⟨rfl, rfl⟩
      go_wp2_with fail
      ((with_reducible refine (HB1.out _).mono ?_))
      rintro e w1 ⟨rfl, rfl⟩
      go_wp2_with fail
      go_ret2
      rw [HF.out]
      exact ⟨⟨_, _, rfl, Nat.le_refl _, Nat.zero_le _, ⟨Reads.none_, Nat.zero_le _, fun z hz => absurd hz (by simp), (HLi.out.below HW0.out.2).cell⟩⟩, HW0.out.2⟩
  have hno : contNo zs i m = false := by simpa using hno
  have HF := Lib.hid (takeC_all zs i m hbd.2 hbd.1 hno)
  have HNo2 : Hid ((blankB m.rest && (decide (zs.length ≤ i + 1) || blankB (ln zs (i + 1)))) = false) := Lib.hid (by rw [← HNo.out]; exact hno)
  clear HNo hno
  go_enter Tryz.func75, Tryz.ntmps75
  unfold MkL.cells
  go_upto_region 1 with fail
  go_cut [30] (fun s30 wx => s30 = .bool false ∧ MkW w (m.cells (.slice A9 n9 c9) (.slice A10 n10 c10)) wx)
  case first =>
    by_cases hbr : blankB m.rest = true
    · rw [hbr, Bool.true_and, Bool.or_eq_false_iff] at HNo2
      rw [hbr] at HBr
      have h1 : ¬ zs.length ≤ i + 1 := of_decide_eq_false HNo2.out.1
      have d1 : decide ((zs.length : Int) ≤ (i : Int) + 1) = false := decide_eq_false (by omega)
      have HB1 := Lib.hid fun W => HBl.out (i + 1) W
      rw [HNo2.out.2] at HB1
      have hc1 := (HW0.out.2.cell (p := ⟨b, off + (i + 1), none⟩) hb).trans (HCell.out (i + 1) (by omega))
      unfold MkL.cells at hc1
      clear HNo2 hbr HBl HIn HSt HF
      go_wp2_with fail
      ((with_reducible refine (HBr.out _).mono ?_))
      rintro e w1 ⟨rfl, rfl⟩
      go_wp2_with fail
      ((with_reducible refine (HB1.out _).mono ?_))
      rintro e w1 ⟨rfl, rfl⟩
      go_wp2_with fail
      go_meet
      exact ⟨rfl, HW0.out⟩
    · have hbr : blankB m.rest = false := by simpa using hbr
      rw [hbr] at HBr
      clear HNo2 hbr HBl HIn HSt HF
      go_wp2_with fail
      ((with_reducible refine (HBr.out _).mono ?_))
      rintro e w1 ⟨rfl, rfl⟩
      go_wp2_with fail
      go_meet
      exact ⟨rfl, HW0.out⟩
  case rest =>
  obtain ⟨rfl, hW⟩ := hcut
  have HW := Lib.hid hW
  clear hW HW0 HNo2 HBr
  go_upto_block 0 with fail
  go_cut [8] (fun s8 wx => s8 = .int .i64 (contTo zs i m) ∧ MkW w (m.cells (.slice A9 n9 c9) (.slice A10 n10 c10)) wx)
  case first =>
    go_wp2_with fail
    go_loopw [8, 9] (fun v8 v9 wr => CoRel zs i m (m.cells (.slice A9 n9 c9) (.slice A10 n10 c10)) w v8 v9 wr) (fun _ v9 _ => zs.length - (intOf v9).toNat)
    case atStart => exact ⟨i + 1, by go_num, by rw [Nat.sub_self]; rfl, Nat.le_refl _, by omega, HW.out, Lib.hid fun k h1 h2 => absurd h2 (by omega)⟩
    case round =>
      clear HW
      obtain ⟨j, rfl, rfl, hj1, hj, hWr, Hno⟩ := hrel
      have HWr := Lib.hid hWr
      by_cases hlt : j < zs.length
      · have hc0 := (hWr.2.cell (p := ⟨b, off + j, none⟩) hb).trans (HCell.out j hlt)
        have HB1 := Lib.hid fun W => HBl.out j W
        have HI1 := Lib.hid fun W => HIn.out j W
        have HCs : Hid (contStop zs m j = (!blankB (ln zs j) && decide (indA (ln zs j) 0 < m.off))) := Lib.hid rfl
        have HLs := Lib.hid (lastN_succ (nbAt zs) (i + 1) j hj1)
        have HAt := Lib.hid (contTo_at zs i j m hj1 hj Hno.out)
        have hnb : Hid (nbAt zs j = !blankB (ln zs j)) := Lib.hid rfl
        have hil := indA_le (ln zs j)
        obtain ⟨k0, k1, k2, k3, k4, k5, k6, k7, k8, k9, k10, y0, y1, y2, y3, y4, y5, y6, y7, y8, y9, y10⟩ := mk_facts hWr.1
        clear hWr HBl HIn HSt HF k0 k1 k2 k4 k5 k6 k7 k8 k9 k10 y0 y1 y2 y3 y4 y5 y6 y7 y8 y9 y10
        generalize indA (ln zs j) 0 = ind at *
        generalize ln zs j = z at *
        cases hbz : blankB z with
        | true =>
          rw [hbz] at HB1 HCs hnb
          have HNx : Hid (∀ k, i + 1 ≤ k → k < j + 1 → contStop zs m k = false) := Lib.hid fun k h1 h2 => by
            by_cases e : k = j
            · rw [e, HCs.out]; rfl
            · exact Hno.out k h1 (by omega)
          have HLx : Hid (lastN (nbAt zs) (i + 1) (j + 1 - (i + 1)) = lastN (nbAt zs) (i + 1) (j - (i + 1))) := Lib.hid (by rw [HLs.out, hnb.out]; rfl)
          clear HCs HLs hnb HAt Hno hbz HI1
          generalize lastN (nbAt zs) (i + 1) (j - (i + 1)) = t at *
          go_wp2_with fail
          ((with_reducible refine (HB1.out _).mono ?_))
          rintro e w1 ⟨rfl, rfl⟩
          go_wp2_with fail
          go_roundw
          case rel => exact ⟨j + 1, by go_num, by rw [HLx.out], by omega, by omega, HWr.out, HNx⟩
          case measure => simp [intOf]; omega
        | false =>
          rw [hbz] at HB1 HCs hnb
          by_cases hst : ind < m.off
          · have z1 : decide ((ind : Int) < (m.off : Int)) = true := decide_eq_true (by omega)
            have z2 : decide (ind < m.off) = true := decide_eq_true hst
            have HT := Lib.hid (HAt.out fun _ => by rw [HCs.out, decide_eq_true hst]; rfl)
            clear HCs HLs hnb HAt Hno hbz hst
            generalize lastN (nbAt zs) (i + 1) (j - (i + 1)) = t at *
            go_wp2_with fail
            ((with_reducible refine (HB1.out _).mono ?_))
            rintro e w1 ⟨rfl, rfl⟩
            go_wp2_with fail
            go_quiet ((go_at_call 58; exact quiet_left (HI1.out _)))
            go_wp2_with fail
            go_meet
            exact ⟨by rw [HT.out], Blk.drewN HWr.out.1 _, below_drewN HWr.out.2 _⟩
          · have z1 : decide ((ind : Int) < (m.off : Int)) = false := decide_eq_false (by omega)
            have z2 : decide (ind < m.off) = false := decide_eq_false hst
            have HNx : Hid (∀ k, i + 1 ≤ k → k < j + 1 → contStop zs m k = false) := Lib.hid fun k h1 h2 => by
              by_cases e : k = j
              · rw [e, HCs.out, decide_eq_false hst]; rfl
              · exact Hno.out k h1 (by omega)
            have HLx : Hid (lastN (nbAt zs) (i + 1) (j + 1 - (i + 1)) = j + 1) := Lib.hid (by rw [HLs.out, hnb.out]; rfl)
            clear HCs HLs hnb HAt Hno hbz hst
            generalize lastN (nbAt zs) (i + 1) (j - (i + 1)) = t at *
            go_wp2_with fail
            ((with_reducible refine (HB1.out _).mono ?_))
            rintro e w1 ⟨rfl, rfl⟩
            go_wp2_with fail
            go_quiet ((go_at_call 58; exact quiet_left (HI1.out _)))
            go_wp2_with fail
            go_roundw
            case rel => exact ⟨j + 1, by go_num, by rw [HLx.out]; go_num, by omega, by omega, ⟨Blk.drewN HWr.out.1 _, below_drewN HWr.out.2 _⟩, HNx⟩
            case measure => simp [intOf]; omega
      · have HT := Lib.hid (contTo_at zs i j m hj1 hj Hno.out (fun h => absurd h hlt))
        obtain rfl : j = zs.length := by omega
        clear hWr HF HBl HIn HSt Hno
        generalize lastN (nbAt zs) (i + 1) (zs.length - (i + 1)) = t at *
        go_wp2_with fail
        go_meet
        exact ⟨by rw [HT.out], HWr.out⟩
  case rest =>
  obtain ⟨rfl, hW⟩ := hcut
  have HW := Lib.hid hW
  obtain ⟨i0, hi0, hz0, hz1, hz2⟩ := info_parts strInfo
  obtain ⟨k0, k1, k2, k3, k4, k5, k6, k7, k8, k9, k10, y0, y1, y2, y3, y4, y5, y6, y7, y8, y9, y10⟩ := mk_facts hW.1
  have hwz : w.heap.size < wc.heap.size := hW.1.lt
  have HT0 : Hid (strs (takeC zs i m 0) = [.string m.rest]) := Lib.hid rfl
  have HTl := Lib.hid fun k => takeC_len zs i m k hbd.1 hbd.2
  have HTs := Lib.hid fun k => takeC_succ zs i m k hbd.2
  have HCR : Hid (∀ (k : Nat) (v10 v67 : Value) (wr : World), v67 = .int .i64 k → i + 1 + k ≤ contTo zs i m → wr.ownsRow (w.heap.size + 1) 9 1 v10 (k + 1) (strs (takeC zs i m k)) → MkW w (m.cells (.slice A9 n9 c9) (.slice A10 n10 c10)) wr → Co2Rel zs i m (m.cells (.slice A9 n9 c9) (.slice A10 n10 c10)) w v10 v67 wr) := Lib.hid fun k _ _ _ h1 h2 h3 h4 => ⟨k, h1, h2, h3, h4⟩
  clear hW HIn HBl k0 k1 k2 k4 k6 k7 k8 k9 k10 y0 y1 y2 y3 y4 y5 y6 y7 y8 y9 y10
  obtain ⟨tt, htt⟩ : ∃ tt, tt = contTo zs i m := ⟨_, rfl⟩
  rw [← htt] at hbd HF HTl HTs HCR ⊢
  have HTT := Lib.hid htt
  clear htt
  unfold maxLen at hcm
  have HO0 : Hid ((wc.alloc (.cells #[.string m.rest] 9)).ownsRow (w.heap.size + 1) 9 1 (.slice (some ⟨wc.heap.size, 0, none⟩) 1 1) 1 (strs (takeC zs i m 0))) := Lib.hid (World.ownsRow_lit wc #[.string m.rest] 1 hwz (by decide) rfl)
  have HW1 : Hid (∀ o, MkW w (m.cells (.slice A9 n9 c9) (.slice A10 n10 c10)) (wc.alloc o)) := Lib.hid fun o => HW.out.next ((Below.refl _ _).alloc (Nat.le_refl _) _)
  by_cases hci : c = i + 1
  · have htt : tt = i + 1 := by omega
    go_wp2_with fail
    go_loopw [10, 67] (fun v10 v67 wr => Co2Rel zs i m (m.cells (.slice A9 n9 c9) (.slice A10 n10 c10)) w v10 v67 wr) (fun _ v67 _ => tt - (intOf v67).toNat)
    case atStart => exact HCR.out 0 _ _ _ rfl (by omega) HO0.out (HW1.out _)
    case round =>
      obtain ⟨k, rfl, hk, hown, hWr⟩ := hrel
      rw [← HTT.out] at hk
      obtain rfl : k = 0 := by omega
      have HOW := Lib.hid hown
      have HWr := Lib.hid hWr
      clear hown hWr HO0 HW1 HCR HW k3 k5
      go_wp2_with fail
      go_ret2
      rw [HF.out]
      have hto : tt - (i + 1) = 0 := by omega
      rw [hto]
      rw [hto] at HF
      have hlen1 := HTl.out 0 (by omega)
      obtain ⟨A, cc, rfl, hc1, hc2⟩ := own_cap HOW.out
      rw [HF.out] at hok
      refine ⟨⟨A, cc, by rw [hlen1]; rfl, by rw [hlen1]; exact hc1, hc2, ⟨?_, Nat.le_trans hok.out.1 hlen, hok.out.2, (HLi.out.below HWr.out.2).cell⟩⟩, HWr.out.2⟩
      rw [hlen1]; exact Reads.of_own HOW.out
  · go_wp2_with fail
    go_loopw [10, 67] (fun v10 v67 wr => Co2Rel zs i m (m.cells (.slice A9 n9 c9) (.slice A10 n10 c10)) w v10 v67 wr) (fun _ v67 _ => tt - (intOf v67).toNat)
    case atStart => exact HCR.out 0 _ _ _ rfl (by omega) HO0.out (HW1.out _)
    case round =>
      clear HO0 HW1 HW
      obtain ⟨k, rfl, hk, hown, hWr⟩ := hrel
      rw [← HTT.out] at hk
      have HWr := Lib.hid hWr
      have hrz := hWr.2.size
      have hlz := hWr.1.lt
      by_cases hlt : i + 1 + k < tt
      · have hc0 : wr.cell? ⟨b, off + (i + 1) + k, none⟩ = some (.string (ln zs (i + 1 + k))) := (hWr.2.cell (p := ⟨b, off + (i + 1) + k, none⟩) hb).trans (by rw [Nat.add_assoc off]; exact HCell.out (i + 1 + k) (by omega))
        obtain ⟨p0, p1, p2, p3, p4, p5, p6, p7, p8, p9, p10, x0, x1, x2, x3, x4, x5, x6, x7, x8, x9, x10⟩ := mk_facts hWr.1
        have HS1 := Lib.hid fun W => HSt.out (i + 1 + k) W
        have HE := Lib.hid (HTs.out k hlt)
        clear hWr HSt p0 p1 p2 p4 p5 p6 p7 p8 p9 p10 x0 x1 x2 x3 x4 x5 x6 x7 x8 x9 x10
        generalize stripB (ln zs (i + 1 + k)) m.off = y at *
        generalize ln zs (i + 1 + k) = z at *
        go_wp2_with fail
        ((with_reducible refine (HS1.out _).mono ?_))
        rintro e w1 ⟨rfl, rfl⟩
        go_wp2_with (at_builtin; refine wpList_append_own _ rfl _ _ 22 rfl (w.heap.size + 1) 9 i0 _ 1 16 Tryz.underlying22 hi0 hz0 hz1 hz2 rfl (by decide) _ _ _ rfl (hown.alloc _) ⟨wr.heap.size, 0, none⟩ 1 1 [.string y] rfl rfl ?c1 ?c2 ?c3 ?c4 ?c5 ?_)
        case c1 =>
          intro j u hj
          match j, hj with
          | 0, hj => simp at hj; subst hj; simp [Addr.add]
        case c2 => intro u hu; simp at hu; subst hu; rfl
        case c3 => unfold maxLen; omega
        case c4 => omega
        case c5 => simp; omega
        intro v' w2 hown3 hgrow _
        have hnx : Below wr.heap.size wr w2 ∨ True := .inr trivial
        have HW2 : Hid (MkW w (m.cells (.slice A9 n9 c9) (.slice A10 n10 c10)) w2) := Lib.hid ⟨(Blk.alloc HWr.out.1 _).grown hgrow (fun e => by have := (hown.lt _ e.symm).1; omega), (HWr.out.2.alloc hrz _).grown hgrow (by simp; omega) (fun k hk => by have := (hown.lt k hk).1; omega)⟩
        clear hown hgrow hnx
        go_wp2_with fail
        go_roundw
        case rel => exact HCR.out (k + 1) _ _ _ (by go_num) (by omega) (by rw [HE.out]; exact hown3) HW2.out
        case measure => simp [intOf]; omega
      · obtain rfl : tt = i + 1 + k := by omega
        have HOW := Lib.hid hown
        clear hown hWr HCR k3 k5 HTs
        go_wp2_with fail
        go_ret2
        rw [HF.out]
        have hto : i + 1 + k - (i + 1) = k := by omega
        rw [hto]
        rw [hto] at HF
        have hlen1 := HTl.out k (by omega)
        obtain ⟨A, cc, rfl, hc1, hc2⟩ := own_cap HOW.out
        rw [HF.out] at hok
        refine ⟨⟨A, cc, by rw [hlen1]; rfl, by rw [hlen1]; exact hc1, hc2, ⟨?_, Nat.le_trans hok.out.1 hlen, hok.out.2, (HLi.out.below HWr.out.2).cell⟩⟩, HWr.out.2⟩
        rw [hlen1]; exact Reads.of_own HOW.out

end Go.Proofs.YtpoafhgbhnblmaaGreatDoor
