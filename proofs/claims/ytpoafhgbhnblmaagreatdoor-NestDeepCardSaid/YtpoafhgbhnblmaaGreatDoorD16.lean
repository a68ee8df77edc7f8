/-
  Texts of the proof, put together (what this law reaches): NsE, NsG, NsF, NsEC, NsH, NsI.
-/
import Derived.Test.YtpoafhgbhnblmaaGreatDoorD15
import Derived.Great.BuildSlice
import Derived.StillTailTactics
import Derived.Deep.CutRange
import Derived.Deep.DeepCutAuto
import Derived.Deep.RegionHeld3
import Derived.Deep.CutBlock
set_option linter.unusedVariables false
set_option linter.unusedSimpArgs false
namespace Go.Proofs.YtpoafhgbhnblmaaGreatDoor
open Go.RowKit Go.Pub
theorem n_source (s : ByteArray) (w : World) : Calls Tryz.prog 69 #[.string s] w fun e w' => ∃ v, e = .returned v ∧ SrcV w' (Rg w.heap.size w') v s ∧ Below w.heap.size w w' := by
  by_cases h : s.size = 0
  · obtain rfl : s = ⟨#[]⟩ := ByteArray.ext (Array.eq_empty_of_size_eq_zero h)
    go_enter Tryz.func69, Tryz.ntmps69
    go_wp2_with fail
    go_ret
    exact ⟨_, rfl, by unfold SrcV; rw [if_pos h]; rfl, Below.refl _ _⟩
  · have y1 : (s.toList == []) = false := by
      have h' : s ≠ ⟨#[]⟩ := fun e => h (by rw [e]; rfl)
      rw [← show (⟨#[]⟩ : ByteArray).toList = [] by decide +kernel]
      exact (Lib.bytes_beq_false_iff _ _).2 h'
    have y2 : s.toList.isEmpty = false := by
      cases e : s.toList with
      | nil => rw [e] at y1; cases y1
      | cons _ _ => rfl
    go_enter Tryz.func69, Tryz.ntmps69
    go_wp2_with fail
    go_ret
    refine ⟨_, rfl, ?_, (Below.refl _ w).alloc (Nat.le_refl _) _⟩
    unfold SrcV
    rw [if_neg h]
    exact ⟨_, _, rfl, ReadsS.block (cs := (textC s).toArray) (Blk.new w _ _) ⟨Nat.le_refl _, by simp⟩ rfl (by decide)⟩
theorem n_between (zs : List ByteArray) (A : Option Addr) (c i k : Nat) (MM : Int) (w : World) (hL : LinesAt w A zs MM) (hi : i + 1 ≤ k) (hk : k ≤ zs.length) (hc : zs.length ≤ c) (hcm : c ≤ maxLen) :
    Calls Tryz.prog 73 #[.slice A zs.length c, .int .i64 i, .int .i64 k] w fun e w' => e = .returned (.string (mk (joinN (cutL zs (i + 1) k)))) ∧ Below w.heap.size w w' := by
  unfold maxLen at hcm
  obtain ⟨b, off, rfl, hb, hcell⟩ := hL.get (by omega)
  have hlen := hL.len
  have HJ := Lib.hid fun (A' : Option Addr) (c' : Nat) (h : A' = some ⟨b, off + (i + 1), none⟩ ∨ k = i + 1) => l_join (cutL zs (i + 1) k) A' c' w.heap.size w (hL.cut' (i + 1) k hi hk A' h).rd (Nat.le_refl _) (hL.cut' (i + 1) k hi hk A' h).len (hL.cut' (i + 1) k hi hk A' h).sz
  have hcl := cutL_len zs (i + 1) k hi hk
  rw [hcl] at HJ
  generalize joinN (cutL zs (i + 1) k) = J at *
  clear hcell hL hcl
  go_enter Tryz.func73, Tryz.ntmps73
  go_wp2_with fail
  all_goals
    ((with_reducible refine (HJ.out _ _ (by first | exact .inl rfl | exact .inr (by omega))).mono ?_))
    rintro e w1 ⟨rfl, b1⟩
    go_wp2_with fail
    go_ret
    exact ⟨rfl, b1⟩
end Go.Proofs.YtpoafhgbhnblmaaGreatDoor
namespace Go.Proofs.YtpoafhgbhnblmaaGreatDoor
open Go.RowKit Go.Pub
theorem own_cap {w : World} {base size n : Nat} {e : TypeId} {v : Value} {xs : List Value} (h : w.ownsRow base e size v n xs) : ∃ A c, v = .slice A n c ∧ n ≤ c ∧ c ≤ maxLen := by
  rcases h.2 with ⟨rfl, rfl⟩ | ⟨g, cap, cur, rfl, _, _, h1, h2, _⟩
  · exact ⟨_, _, rfl, Nat.le_refl _, Nat.zero_le _⟩
  · exact ⟨_, _, rfl, h1, h2⟩
theorem strip_size (s : ByteArray) (n : Nat) : (stripB s n).size ≤ s.size := by unfold stripB; rw [ByteArray.size_extract]; omega
theorem cutL_mem {zs : List ByteArray} {i k : Nat} {z : ByteArray} (h : z ∈ cutL zs i k) : z ∈ zs := List.mem_of_mem_drop (List.mem_of_mem_take h)
/-- An item's lines are few and short, too. -/
theorem contL_ok (zs : List ByteArray) (i : Nat) (m : MkL) (hi : i < zs.length) (hM : ∀ z ∈ zs, z.size ≤ 100000) (hr : m.rest.size ≤ 100000) : (contL zs i m).1.length ≤ zs.length ∧ ∀ z ∈ (contL zs i m).1, z.size ≤ 100000 := by
  have hb := contTo_bd zs i m hi
  unfold contL
  by_cases hn : contNo zs i m = true
  · rw [if_pos hn]; exact ⟨Nat.zero_le _, fun z hz => absurd hz (by simp)⟩
  · rw [if_neg hn]
    refine ⟨?_, fun z hz => ?_⟩
    · rw [List.length_cons, List.length_map, cutL_len _ _ _ hb.1 hb.2]; omega
    · rcases List.mem_cons.1 hz with rfl | hz
      · exact hr
      · obtain ⟨y, hy, rfl⟩ := List.mem_map.1 hz
        exact Nat.le_trans (strip_size _ _) (hM y (cutL_mem hy))
/-- The first lines of an item. -/
def takeC (zs : List ByteArray) (i : Nat) (m : MkL) (k : Nat) : List ByteArray := m.rest :: ((cutL zs (i + 1) (contTo zs i m)).take k).map fun z => stripB z m.off
theorem takeC_len (zs : List ByteArray) (i : Nat) (m : MkL) (k : Nat) (h : i + 1 ≤ contTo zs i m) (h2 : contTo zs i m ≤ zs.length) (hk : i + 1 + k ≤ contTo zs i m) : (takeC zs i m k).length = k + 1 := by
  unfold takeC
  rw [List.length_cons, List.length_map, List.length_take, cutL_len _ _ _ h h2]
  omega
theorem takeC_succ (zs : List ByteArray) (i : Nat) (m : MkL) (k : Nat) (h2 : contTo zs i m ≤ zs.length) (hk : i + 1 + k < contTo zs i m) : strs (takeC zs i m (k + 1)) = strs (takeC zs i m k) ++ [.string (stripB (ln zs (i + 1 + k)) m.off)] := by
  have hl : (cutL zs (i + 1) (contTo zs i m)).length = contTo zs i m - (i + 1) := cutL_len _ _ _ (by omega) h2
  unfold takeC strs
  rw [List.take_succ_eq_append_getElem (by omega), List.map_append, List.map_cons, List.map_cons, List.map_append]
  rw [ln_at _ k (by omega), ln_cut zs _ _ _ hk]
  rfl
theorem takeC_all (zs : List ByteArray) (i : Nat) (m : MkL) (h2 : contTo zs i m ≤ zs.length) (h1 : i + 1 ≤ contTo zs i m) (hn : contNo zs i m = false) : contL zs i m = (takeC zs i m (contTo zs i m - (i + 1)), contTo zs i m) := by
  unfold contL takeC
  rw [if_neg (by rw [hn]; exact Bool.false_ne_true), List.take_of_length_le (by rw [cutL_len _ _ _ h1 h2]; exact Nat.le_refl _)]
/-- The mark's block, and nothing below changed. -/
def MkW (w : World) (MK : Array Value) (W : World) : Prop := Blk W w.heap.size 74 MK ∧ Below w.heap.size w W
theorem MkW.start (w : World) (MK : Array Value) : MkW w MK (w.alloc (.cells MK 74)) := ⟨Blk.new w _ _, (Below.refl _ w).alloc (Nat.le_refl _) _⟩
theorem MkW.next {w W W' : World} {MK : Array Value} (h : MkW w MK W) (hb : Below W.heap.size W W') : MkW w MK W' := ⟨h.1.below hb h.1.lt, h.2.trans (hb.mono h.2.size)⟩
def ContPost (r : List ByteArray × Nat) (MM : Int) (w : World) (e : Ending) (w' : World) : Prop := (∃ A c, e = .returned (.tuple #[.slice A r.1.length c, .int .i64 r.2]) ∧ r.1.length ≤ c ∧ c ≤ maxLen ∧ LinesAt w' A r.1 MM) ∧ Below w.heap.size w w'
def nbAt (zs : List ByteArray) (j : Nat) : Bool := !blankB (ln zs j)
def CoRel (zs : List ByteArray) (i : Nat) (m : MkL) (MK : Array Value) (w : World) (v8 v9 : Value) (wr : World) : Prop :=
  ∃ j : Nat, v9 = .int .i64 j ∧ v8 = .int .i64 (lastN (nbAt zs) (i + 1) (j - (i + 1)) : Nat) ∧ i + 1 ≤ j ∧ j ≤ zs.length ∧ MkW w MK wr ∧ Hid (∀ k, i + 1 ≤ k → k < j → contStop zs m k = false)
theorem contTo_at (zs : List ByteArray) (i j : Nat) (m : MkL) (h1 : i + 1 ≤ j) (h2 : j ≤ zs.length) (hno : ∀ k, i + 1 ≤ k → k < j → contStop zs m k = false) (hit : j < zs.length → contStop zs m j = true) : lastN (nbAt zs) (i + 1) (j - (i + 1)) = contTo zs i m := by
  unfold contTo
  rw [seek_eq (contStop zs m) zs.length (i + 1) j h1 h2 hno hit]
  rfl
theorem lastN_succ (q : Nat → Bool) (i j : Nat) (h : i ≤ j) : lastN q i (j + 1 - i) = if q j = true then j + 1 else lastN q i (j - i) := by
  rw [show j + 1 - i = (j - i) + 1 by omega]
  show (if q (i + (j - i)) = true then i + (j - i) + 1 else lastN q i (j - i)) = _
  rw [show i + (j - i) = j by omega]
def Co2Rel (zs : List ByteArray) (i : Nat) (m : MkL) (MK : Array Value) (w : World) (v10 v67 : Value) (wr : World) : Prop :=
  ∃ k : Nat, v67 = .int .i64 k ∧ i + 1 + k ≤ contTo zs i m ∧ wr.ownsRow (w.heap.size + 1) 9 1 v10 (k + 1) (strs (takeC zs i m k)) ∧ MkW w MK wr
set_option maxRecDepth 100000 in
set_option maxHeartbeats 4000000 in
theorem n_content (zs : List ByteArray) (A : Option Addr) (c i : Nat) (MM : Int) (m : MkL) (A9 : Option Addr) (n9 c9 : Nat) (A10 : Option Addr) (n10 c10 : Nat) (w : World) (hL : LinesAt w A zs MM) (hi : i < zs.length) (hc : zs.length ≤ c) (hcm : c ≤ maxLen) (ho : m.off ≤ 1000000) (hr : m.rest.size ≤ 100000) :
    Calls Tryz.prog 75 #[.slice A zs.length c, .int .i64 i, .agg (m.cells (.slice A9 n9 c9) (.slice A10 n10 c10))] w (ContPost (contL zs i m) MM w) := by
  have hbd := contTo_bd zs i m hi
  have hok := Lib.hid (contL_ok zs i m hi hL.sz hr)
  have hlen := hL.len
  obtain ⟨b, off, rfl, hb, hcell⟩ := hL.get (by omega)
  have HCell := Lib.hid hcell
  have HBl : Hid (∀ j W, Calls Tryz.prog 57 #[.string (ln zs j)] W fun e w' => e = .returned (.bool (blankB (ln zs j))) ∧ W = w') := Lib.hid fun j W => t_blank (ln zs j) W (Nat.le_trans (ln_size hL.sz j) (by decide))
  have HBr : Hid (∀ W, Calls Tryz.prog 57 #[.string m.rest] W fun e w' => e = .returned (.bool (blankB m.rest)) ∧ W = w') := Lib.hid fun W => t_blank m.rest W (by omega)
  have HIn : Hid (∀ j W, Calls Tryz.prog 58 #[.string (ln zs j)] W fun e w' => e = .returned (.int .i64 (indA (ln zs j) 0)) ∧ W = w') := Lib.hid fun j W => t_indent (ln zs j) W (Nat.le_trans (ln_size hL.sz j) (by decide))
  have HSt : Hid (∀ j W, Calls Tryz.prog 107 #[.string (ln zs j), .int .i64 (m.off : Nat)] W fun e w' => e = .returned (.string (stripB (ln zs j) m.off)) ∧ W = w') := Lib.hid fun j W => t_strip (ln zs j) m.off W (Nat.le_trans (ln_size hL.sz j) (by decide)) ho
  have HNo : Hid (contNo zs i m = (blankB m.rest && (decide (zs.length ≤ i + 1) || blankB (ln zs (i + 1))))) := Lib.hid rfl
  have HLi := Lib.hid hL
  have HW0 := Lib.hid (MkW.start w (m.cells (.slice A9 n9 c9) (.slice A10 n10 c10)))
  clear hL hcell
  by_cases hno : contNo zs i m = true
  · have HF : Hid (contL zs i m = ([], i + 1)) := Lib.hid (by unfold contL; rw [if_pos hno])
    have hbr : blankB m.rest = true := by rw [HNo.out, Bool.and_eq_true] at hno; exact hno.1
    rw [hbr] at HBr
    unfold MkL.cells
    by_cases h1 : zs.length ≤ i + 1
    · have d1 : decide ((zs.length : Int) ≤ (i : Int) + 1) = true := decide_eq_true (by omega)
      clear HNo hno hbr HBl HIn HSt
      go_enter Tryz.func75, Tryz.ntmps75
      go_wp2_with fail
      ((with_reducible refine (HBr.out _).mono ?_))
      rintro e w1 ⟨rfl, rfl⟩
      go_wp2_with fail
      go_ret2
      rw [HF.out]
      exact ⟨⟨_, _, rfl, Nat.le_refl _, Nat.zero_le _, ⟨Reads.none_, Nat.zero_le _, fun z hz => absurd hz (by simp), (HLi.out.below HW0.out.2).cell⟩⟩, HW0.out.2⟩
    · have d1 : decide ((zs.length : Int) ≤ (i : Int) + 1) = false := decide_eq_false (by omega)
      have hb1 : blankB (ln zs (i + 1)) = true := by
        rw [HNo.out, Bool.and_eq_true, Bool.or_eq_true] at hno
        rcases hno.2 with h | h
        · rw [decide_eq_true_eq] at h; omega
        · exact h
      have HB1 := Lib.hid fun W => HBl.out (i + 1) W
      rw [hb1] at HB1
      have hc1 := (HW0.out.2.cell (p := ⟨b, off + (i + 1), none⟩) hb).trans (HCell.out (i + 1) (by omega))
      unfold MkL.cells at hc1
      clear HNo hno hbr HBl HIn HSt hb1
      go_enter Tryz.func75, Tryz.ntmps75
      go_wp2_with fail
      ((with_reducible refine (HBr.out _).mono ?_))
      rintro e w1 ⟨rfl, rfl⟩
      go_wp2_with fail
      ((with_reducible refine (HB1.out _).mono ?_))
      rintro e w1 ⟨rfl, rfl⟩
      go_wp2_with fail
      go_ret2
      rw [HF.out]
      exact ⟨⟨_, _, rfl, Nat.le_refl _, Nat.zero_le _, ⟨Reads.none_, Nat.zero_le _, fun z hz => absurd hz (by simp), (HLi.out.below HW0.out.2).cell⟩⟩, HW0.out.2⟩
  have hno : contNo zs i m = false := by simpa using hno
  have HF := Lib.hid (takeC_all zs i m hbd.2 hbd.1 hno)
  have HNo2 : Hid ((blankB m.rest && (decide (zs.length ≤ i + 1) || blankB (ln zs (i + 1)))) = false) := Lib.hid (by rw [← HNo.out]; exact hno)
  clear HNo hno
  go_enter Tryz.func75, Tryz.ntmps75
  unfold MkL.cells
  go_upto_region 1 with fail
  go_cut [30] (fun s30 wx => s30 = .bool false ∧ MkW w (m.cells (.slice A9 n9 c9) (.slice A10 n10 c10)) wx)
  case first =>
    by_cases hbr : blankB m.rest = true
    · rw [hbr, Bool.true_and, Bool.or_eq_false_iff] at HNo2
      rw [hbr] at HBr
      have h1 : ¬ zs.length ≤ i + 1 := of_decide_eq_false HNo2.out.1
      have d1 : decide ((zs.length : Int) ≤ (i : Int) + 1) = false := decide_eq_false (by omega)
      have HB1 := Lib.hid fun W => HBl.out (i + 1) W
      rw [HNo2.out.2] at HB1
      have hc1 := (HW0.out.2.cell (p := ⟨b, off + (i + 1), none⟩) hb).trans (HCell.out (i + 1) (by omega))
      unfold MkL.cells at hc1
      clear HNo2 hbr HBl HIn HSt HF
      go_wp2_with fail
      ((with_reducible refine (HBr.out _).mono ?_))
      rintro e w1 ⟨rfl, rfl⟩
      go_wp2_with fail
      ((with_reducible refine (HB1.out _).mono ?_))
      rintro e w1 ⟨rfl, rfl⟩
      go_wp2_with fail
      go_meet
      exact ⟨rfl, HW0.out⟩
    · have hbr : blankB m.rest = false := by simpa using hbr
      rw [hbr] at HBr
      clear HNo2 hbr HBl HIn HSt HF
      go_wp2_with fail
      ((with_reducible refine (HBr.out _).mono ?_))
      rintro e w1 ⟨rfl, rfl⟩
      go_wp2_with fail
      go_meet
      exact ⟨rfl, HW0.out⟩
  case rest =>
  obtain ⟨rfl, hW⟩ := hcut
  have HW := Lib.hid hW
  clear hW HW0 HNo2 HBr
  go_upto_block 0 with fail
  go_cut [8] (fun s8 wx => s8 = .int .i64 (contTo zs i m) ∧ MkW w (m.cells (.slice A9 n9 c9) (.slice A10 n10 c10)) wx)
  case first =>
    go_wp2_with fail
    go_loopw [8, 9] (fun v8 v9 wr => CoRel zs i m (m.cells (.slice A9 n9 c9) (.slice A10 n10 c10)) w v8 v9 wr) (fun _ v9 _ => zs.length - (intOf v9).toNat)
    case atStart => exact ⟨i + 1, by go_num, by rw [Nat.sub_self]; rfl, Nat.le_refl _, by omega, HW.out, Lib.hid fun k h1 h2 => absurd h2 (by omega)⟩
    case round =>
      clear HW
      obtain ⟨j, rfl, rfl, hj1, hj, hWr, Hno⟩ := hrel
      have HWr := Lib.hid hWr
      by_cases hlt : j < zs.length
      · have hc0 := (hWr.2.cell (p := ⟨b, off + j, none⟩) hb).trans (HCell.out j hlt)
        have HB1 := Lib.hid fun W => HBl.out j W
        have HI1 := Lib.hid fun W => HIn.out j W
        have HCs : Hid (contStop zs m j = (!blankB (ln zs j) && decide (indA (ln zs j) 0 < m.off))) := Lib.hid rfl
        have HLs := Lib.hid (lastN_succ (nbAt zs) (i + 1) j hj1)
        have HAt := Lib.hid (contTo_at zs i j m hj1 hj Hno.out)
        have hnb : Hid (nbAt zs j = !blankB (ln zs j)) := Lib.hid rfl
        have hil := indA_le (ln zs j)
        obtain ⟨k0, k1, k2, k3, k4, k5, k6, k7, k8, k9, k10, y0, y1, y2, y3, y4, y5, y6, y7, y8, y9, y10⟩ := mk_facts hWr.1
        clear hWr HBl HIn HSt HF k0 k1 k2 k4 k5 k6 k7 k8 k9 k10 y0 y1 y2 y3 y4 y5 y6 y7 y8 y9 y10
        generalize indA (ln zs j) 0 = ind at *
        generalize ln zs j = z at *
        cases hbz : blankB z with
        | true =>
          rw [hbz] at HB1 HCs hnb
          have HNx : Hid (∀ k, i + 1 ≤ k → k < j + 1 → contStop zs m k = false) := Lib.hid fun k h1 h2 => by
            by_cases e : k = j
            · rw [e, HCs.out]; rfl
            · exact Hno.out k h1 (by omega)
          have HLx : Hid (lastN (nbAt zs) (i + 1) (j + 1 - (i + 1)) = lastN (nbAt zs) (i + 1) (j - (i + 1))) := Lib.hid (by rw [HLs.out, hnb.out]; rfl)
          clear HCs HLs hnb HAt Hno hbz HI1
          generalize lastN (nbAt zs) (i + 1) (j - (i + 1)) = t at *
          go_wp2_with fail
          ((with_reducible refine (HB1.out _).mono ?_))
          rintro e w1 ⟨rfl, rfl⟩
          go_wp2_with fail
          go_roundw
          case rel => exact ⟨j + 1, by go_num, by rw [HLx.out], by omega, by omega, HWr.out, HNx⟩
          case measure => simp [intOf]; omega
        | false =>
          rw [hbz] at HB1 HCs hnb
          by_cases hst : ind < m.off
          · have z1 : decide ((ind : Int) < (m.off : Int)) = true := decide_eq_true (by omega)
            have z2 : decide (ind < m.off) = true := decide_eq_true hst
            have HT := Lib.hid (HAt.out fun _ => by rw [HCs.out, decide_eq_true hst]; rfl)
            clear HCs HLs hnb HAt Hno hbz hst
            generalize lastN (nbAt zs) (i + 1) (j - (i + 1)) = t at *
            go_wp2_with fail
            ((with_reducible refine (HB1.out _).mono ?_))
            rintro e w1 ⟨rfl, rfl⟩
            go_wp2_with fail
            go_quiet ((go_at_call 58; exact quiet_left (HI1.out _)))
            go_wp2_with fail
            go_meet
            exact ⟨by rw [HT.out], Blk.drewN HWr.out.1 _, below_drewN HWr.out.2 _⟩
          · have z1 : decide ((ind : Int) < (m.off : Int)) = false := decide_eq_false (by omega)
            have z2 : decide (ind < m.off) = false := decide_eq_false hst
            have HNx : Hid (∀ k, i + 1 ≤ k → k < j + 1 → contStop zs m k = false) := Lib.hid fun k h1 h2 => by
              by_cases e : k = j
              · rw [e, HCs.out, decide_eq_false hst]; rfl
              · exact Hno.out k h1 (by omega)
            have HLx : Hid (lastN (nbAt zs) (i + 1) (j + 1 - (i + 1)) = j + 1) := Lib.hid (by rw [HLs.out, hnb.out]; rfl)
            clear HCs HLs hnb HAt Hno hbz hst
            generalize lastN (nbAt zs) (i + 1) (j - (i + 1)) = t at *
            go_wp2_with fail
            ((with_reducible refine (HB1.out _).mono ?_))
            rintro e w1 ⟨rfl, rfl⟩
            go_wp2_with fail
            go_quiet ((go_at_call 58; exact quiet_left (HI1.out _)))
            go_wp2_with fail
            go_roundw
            case rel => exact ⟨j + 1, by go_num, by rw [HLx.out]; go_num, by omega, by omega, ⟨Blk.drewN HWr.out.1 _, below_drewN HWr.out.2 _⟩, HNx⟩
            case measure => simp [intOf]; omega
      · have HT := Lib.hid (contTo_at zs i j m hj1 hj Hno.out (fun h => absurd h hlt))
        obtain rfl : j = zs.length := by omega
        clear hWr HF HBl HIn HSt Hno
        generalize lastN (nbAt zs) (i + 1) (zs.length - (i + 1)) = t at *
        go_wp2_with fail
        go_meet
        exact ⟨by rw [HT.out], HWr.out⟩
  case rest =>
  obtain ⟨rfl, hW⟩ := hcut
  have HW := Lib.hid hW
  obtain ⟨i0, hi0, hz0, hz1, hz2⟩ := info_parts strInfo
  obtain ⟨k0, k1, k2, k3, k4, k5, k6, k7, k8, k9, k10, y0, y1, y2, y3, y4, y5, y6, y7, y8, y9, y10⟩ := mk_facts hW.1
  have hwz : w.heap.size < wc.heap.size := hW.1.lt
  have HT0 : Hid (strs (takeC zs i m 0) = [.string m.rest]) := Lib.hid rfl
  have HTl := Lib.hid fun k => takeC_len zs i m k hbd.1 hbd.2
  have HTs := Lib.hid fun k => takeC_succ zs i m k hbd.2
  have HCR : Hid (∀ (k : Nat) (v10 v67 : Value) (wr : World), v67 = .int .i64 k → i + 1 + k ≤ contTo zs i m → wr.ownsRow (w.heap.size + 1) 9 1 v10 (k + 1) (strs (takeC zs i m k)) → MkW w (m.cells (.slice A9 n9 c9) (.slice A10 n10 c10)) wr → Co2Rel zs i m (m.cells (.slice A9 n9 c9) (.slice A10 n10 c10)) w v10 v67 wr) := Lib.hid fun k _ _ _ h1 h2 h3 h4 => ⟨k, h1, h2, h3, h4⟩
  clear hW HIn HBl k0 k1 k2 k4 k6 k7 k8 k9 k10 y0 y1 y2 y3 y4 y5 y6 y7 y8 y9 y10
  obtain ⟨tt, htt⟩ : ∃ tt, tt = contTo zs i m := ⟨_, rfl⟩
  rw [← htt] at hbd HF HTl HTs HCR ⊢
  have HTT := Lib.hid htt
  clear htt
  unfold maxLen at hcm
  have HO0 : Hid ((wc.alloc (.cells #[.string m.rest] 9)).ownsRow (w.heap.size + 1) 9 1 (.slice (some ⟨wc.heap.size, 0, none⟩) 1 1) 1 (strs (takeC zs i m 0))) := Lib.hid (World.ownsRow_lit wc #[.string m.rest] 1 hwz (by decide) rfl)
  have HW1 : Hid (∀ o, MkW w (m.cells (.slice A9 n9 c9) (.slice A10 n10 c10)) (wc.alloc o)) := Lib.hid fun o => HW.out.next ((Below.refl _ _).alloc (Nat.le_refl _) _)
  by_cases hci : c = i + 1
  · have htt : tt = i + 1 := by omega
    go_wp2_with fail
    go_loopw [10, 67] (fun v10 v67 wr => Co2Rel zs i m (m.cells (.slice A9 n9 c9) (.slice A10 n10 c10)) w v10 v67 wr) (fun _ v67 _ => tt - (intOf v67).toNat)
    case atStart => exact HCR.out 0 _ _ _ rfl (by omega) HO0.out (HW1.out _)
    case round =>
      obtain ⟨k, rfl, hk, hown, hWr⟩ := hrel
      rw [← HTT.out] at hk
      obtain rfl : k = 0 := by omega
      have HOW := Lib.hid hown
      have HWr := Lib.hid hWr
      clear hown hWr HO0 HW1 HCR HW k3 k5
      go_wp2_with fail
      go_ret2
      rw [HF.out]
      have hto : tt - (i + 1) = 0 := by omega
      rw [hto]
      rw [hto] at HF
      have hlen1 := HTl.out 0 (by omega)
      obtain ⟨A, cc, rfl, hc1, hc2⟩ := own_cap HOW.out
      rw [HF.out] at hok
      refine ⟨⟨A, cc, by rw [hlen1]; rfl, by rw [hlen1]; exact hc1, hc2, ⟨?_, Nat.le_trans hok.out.1 hlen, hok.out.2, (HLi.out.below HWr.out.2).cell⟩⟩, HWr.out.2⟩
      rw [hlen1]; exact Reads.of_own HOW.out
  · go_wp2_with fail
    go_loopw [10, 67] (fun v10 v67 wr => Co2Rel zs i m (m.cells (.slice A9 n9 c9) (.slice A10 n10 c10)) w v10 v67 wr) (fun _ v67 _ => tt - (intOf v67).toNat)
    case atStart => exact HCR.out 0 _ _ _ rfl (by omega) HO0.out (HW1.out _)
    case round =>
      clear HO0 HW1 HW
      obtain ⟨k, rfl, hk, hown, hWr⟩ := hrel
      rw [← HTT.out] at hk
      have HWr := Lib.hid hWr
      have hrz := hWr.2.size
      have hlz := hWr.1.lt
      by_cases hlt : i + 1 + k < tt
      · have hc0 : wr.cell? ⟨b, off + (i + 1) + k, none⟩ = some (.string (ln zs (i + 1 + k))) := (hWr.2.cell (p := ⟨b, off + (i + 1) + k, none⟩) hb).trans (by rw [Nat.add_assoc off]; exact HCell.out (i + 1 + k) (by omega))
        obtain ⟨p0, p1, p2, p3, p4, p5, p6, p7, p8, p9, p10, x0, x1, x2, x3, x4, x5, x6, x7, x8, x9, x10⟩ := mk_facts hWr.1
        have HS1 := Lib.hid fun W => HSt.out (i + 1 + k) W
        have HE := Lib.hid (HTs.out k hlt)
        clear hWr HSt p0 p1 p2 p4 p5 p6 p7 p8 p9 p10 x0 x1 x2 x3 x4 x5 x6 x7 x8 x9 x10
        generalize stripB (ln zs (i + 1 + k)) m.off = y at *
        generalize ln zs (i + 1 + k) = z at *
        go_wp2_with fail
        ((with_reducible refine (HS1.out _).mono ?_))
        rintro e w1 ⟨rfl, rfl⟩
        go_wp2_with (at_builtin; refine wpList_append_own _ rfl _ _ 22 rfl (w.heap.size + 1) 9 i0 _ 1 16 Tryz.underlying22 hi0 hz0 hz1 hz2 rfl (by decide) _ _ _ rfl (hown.alloc _) ⟨wr.heap.size, 0, none⟩ 1 1 [.string y] rfl rfl ?c1 ?c2 ?c3 ?c4 ?c5 ?_)
        case c1 =>
          intro j u hj
          match j, hj with
          | 0, hj => simp at hj; subst hj; simp [Addr.add]
        case c2 => intro u hu; simp at hu; subst hu; rfl
        case c3 => unfold maxLen; omega
        case c4 => omega
        case c5 => simp; omega
        intro v' w2 hown3 hgrow _
        have hnx : Below wr.heap.size wr w2 ∨ True := .inr trivial
        have HW2 : Hid (MkW w (m.cells (.slice A9 n9 c9) (.slice A10 n10 c10)) w2) := Lib.hid ⟨(Blk.alloc HWr.out.1 _).grown hgrow (fun e => by have := (hown.lt _ e.symm).1; omega), (HWr.out.2.alloc hrz _).grown hgrow (by simp; omega) (fun k hk => by have := (hown.lt k hk).1; omega)⟩
        clear hown hgrow hnx
        go_wp2_with fail
        go_roundw
        case rel => exact HCR.out (k + 1) _ _ _ (by go_num) (by omega) (by rw [HE.out]; exact hown3) HW2.out
        case measure => simp [intOf]; omega
      · obtain rfl : tt = i + 1 + k := by omega
        have HOW := Lib.hid hown
        clear hown hWr HCR k3 k5 HTs
        go_wp2_with fail
        go_ret2
        rw [HF.out]
        have hto : i + 1 + k - (i + 1) = k := by omega
        rw [hto]
        rw [hto] at HF
        have hlen1 := HTl.out k (by omega)
        obtain ⟨A, cc, rfl, hc1, hc2⟩ := own_cap HOW.out
        rw [HF.out] at hok
        refine ⟨⟨A, cc, by rw [hlen1]; rfl, by rw [hlen1]; exact hc1, hc2, ⟨?_, Nat.le_trans hok.out.1 hlen, hok.out.2, (HLi.out.below HWr.out.2).cell⟩⟩, HWr.out.2⟩
        rw [hlen1]; exact Reads.of_own HOW.out

end Go.Proofs.YtpoafhgbhnblmaaGreatDoor
namespace Go.Proofs.YtpoafhgbhnblmaaGreatDoor
open Go.RowKit Go.Pub
theorem block_info : (Tryz.prog.info? 46).map (fun i => (i.zero, i.size, i.bytes)) = some (some (.agg #[.int .i64 0, .int .i64 0, .string ⟨#[]⟩, .string ⟨#[]⟩, .string ⟨#[]⟩, .string ⟨#[]⟩, .string ⟨#[]⟩, .slice none 0 0, .slice none 0 0, .slice none 0 0, .slice none 0 0]), 11, 192) := by kernel_rfl
theorem range_info : (Tryz.prog.info? 34).map (fun i => (i.zero, i.size, i.bytes)) = some (some (.agg #[.int .i64 0, .int .i64 0]), 2, 16) := by kernel_rfl
/-- What a caller of blockAt may lean on. -/
def AtP (n d : Nat) (zs : List ByteArray) (A : Option Addr) (c : Nat) (MM : Int) : Prop :=
  ∀ (i B : Nat) (W : World) (A9 : Option Addr) (c9 : Nat) (A10 : Option Addr) (c10 : Nat), i < zs.length → blankB (ln zs i) = false → B ≤ W.heap.size → LinesAt W A zs MM → AttR W (Rg B W) (markM (ln zs i)).att A9 A10 →
    Calls Tryz.prog 39 #[.slice A zs.length c, .int .i64 i, .agg ((markM (ln zs i)).cells (.slice A9 (markM (ln zs i)).att.cl.length c9) (.slice A10 (markM (ln zs i)).att.pr.length c10)), .int .i64 d] W (BkPost B (atN n zs i (markM (ln zs i))) W)
/-- The loop's state. -/
def BlRel (n : Nat) (zs : List ByteArray) (w : World) (v7 v8 v9 : Value) (wr : World) : Prop :=
  ∃ (i : Nat) (bs : List BkT) (rs : List (Nat × Nat)), v9 = .int .i64 i ∧ i ≤ zs.length ∧ Hid (KOwn wr w.heap.size (fun g => v8.ownBlock = some g) v7 bs) ∧ wr.ownsRow w.heap.size 34 2 v8 rs.length (rngs rs) ∧ bs.length ≤ i ∧ rs.length ≤ i ∧ Below w.heap.size w wr ∧
    Hid (blocksN n zs = (restT (atN n zs) zs i).map fun p => (bs ++ p.1, rs ++ p.2))
theorem KOwn.own {w : World} {base : Nat} {E : Nat → Prop} {v : Value} {bs : List BkT} (h : KOwn w base E v bs) : ∃ A c, v = .slice A bs.length c := by
  obtain ⟨S, vs, hS, hk, ho⟩ := h
  exact own_slice ho
theorem blocks_step (n : Nat) (zs : List ByteArray) (i : Nat) (h : i < zs.length) (hb : blankB (ln zs i) = false) : restT (atN n zs) zs i =
    match atN n zs i (markM (ln zs i)) with
    | none => none
    | some (b, tq) => (restT (atN n zs) zs tq).map fun r => (b :: r.1, (i, tq) :: r.2) :=
  restT_step _ _ (fun i r h e => (atN_bd n zs i r h e).1) i h hb
theorem rngs_snoc (rs : List (Nat × Nat)) (i t : Nat) : rngs rs ++ [.int .i64 (i : Nat), .int .i64 (t : Nat)] = rngs (rs ++ [(i, t)]) := by
  unfold rngs; rw [List.flatMap_append]; rfl
end Go.Proofs.YtpoafhgbhnblmaaGreatDoor
namespace Go.Proofs.YtpoafhgbhnblmaaGreatDoor
open Go.RowKit Go.Pub
theorem closeI_hit (zs : List ByteArray) (m : MkL) (i k : Nat) (hi : i ≤ k) (hk : k < zs.length) (hno : ∀ j, i ≤ j → j < k → closeP zs m j = false) (h : closeP zs m k = true) : closeI zs m i = k ∧ closeA zs m i = (closesM (ln zs k) m.kind m.n m.ch).1 := by
  have e : closeI zs m i = k := seek_eq _ _ _ _ hi (by omega) hno fun _ => h
  exact ⟨e, by unfold closeA; rw [e, if_pos hk]⟩
theorem closeI_none (zs : List ByteArray) (m : MkL) (i : Nat) (hi : i ≤ zs.length) (hno : ∀ j, i ≤ j → j < zs.length → closeP zs m j = false) : closeI zs m i = zs.length ∧ closeA zs m i = emptyA := by
  have e : closeI zs m i = zs.length := seek_eq _ _ _ _ hi (Nat.le_refl _) hno fun h => absurd h (Nat.lt_irrefl _)
  exact ⟨e, by unfold closeA; rw [e, if_neg (Nat.lt_irrefl _)]⟩
theorem at_facts {W : World} {g : Nat} {x y z : Value} (h : Blk W g 43 #[x, y, z]) : W.cell? ⟨g, 0, none⟩ = some x ∧ W.cell? ⟨g, 1, none⟩ = some y ∧ W.cell? ⟨g, 2, none⟩ = some z ∧ W.frozen? ⟨g, 0, none⟩ = false ∧ W.frozen? ⟨g, 1, none⟩ = false ∧ W.frozen? ⟨g, 2, none⟩ = false := ⟨h.cell 0, h.cell 1, h.cell 2, h.frozen 0, h.frozen 1, h.frozen 2⟩
def ClRel (zs : List ByteArray) (m : MkL) (MK : Array Value) (i : Nat) (w : World) (v8 : Value) (wr : World) : Prop :=
  ∃ k : Nat, v8 = .int .i64 k ∧ i + 1 ≤ k ∧ k ≤ zs.length ∧ CW w MK wr ∧ Hid (∀ j, i + 1 ≤ j → j < k → closeP zs m j = false)
def ClsPost (t : Nat) (a : AttrL) (w : World) (e : Ending) (w' : World) : Prop := (∃ vC vP, e = .returned (.tuple #[.int .i64 t, .agg #[.string a.id, vC, vP]]) ∧ OwnA w' w.heap.size a vC vP) ∧ Below w.heap.size w w'
set_option maxRecDepth 100000 in
set_option maxHeartbeats 4000000 in
theorem n_closing (zs : List ByteArray) (A : Option Addr) (c i : Nat) (MM : Int) (m : MkL) (A9 : Option Addr) (n9 c9 : Nat) (A10 : Option Addr) (n10 c10 : Nat) (w : World) (hL : LinesAt w A zs MM) (hi : i < zs.length) :
    Calls Tryz.prog 72 #[.slice A zs.length c, .int .i64 i, .agg (m.cells (.slice A9 n9 c9) (.slice A10 n10 c10))] w (ClsPost (closeI zs m (i + 1)) (closeA zs m (i + 1)) w) := by
  have hlen := hL.len
  obtain ⟨b, off, rfl, hb, hcell⟩ := hL.get (by omega)
  have HCell := Lib.hid hcell
  have HC : Hid (∀ k W, Calls Tryz.prog 117 #[.string (ln zs k), .agg (m.cells (.slice A9 n9 c9) (.slice A10 n10 c10))] W (ClPost (closesM (ln zs k) m.kind m.n m.ch) W)) := Lib.hid fun k W => m_closes (ln zs k) m.kind m.n m.off m.ch m.info m.rest m.dest m.title m.att.id A9 n9 c9 A10 n10 c10 W (Nat.le_trans (ln_size hL.sz k) (by decide))
  have HS := Lib.hid (cw_start w (m.cells (.slice A9 n9 c9) (.slice A10 n10 c10)))
  have HP : Hid (∀ k, closeP zs m k = (closesM (ln zs k) m.kind m.n m.ch).2) := Lib.hid fun k => rfl
  have HH := Lib.hid fun k => closeI_hit zs m (i + 1) k
  have HN := Lib.hid (closeI_none zs m (i + 1) (by omega))
  clear hL hcell
  go_enter Tryz.func72, Tryz.ntmps72
  unfold MkL.cells
  go_wp2_with fail
  go_loopw [8] (fun v8 wr => ClRel zs m (m.cells (.slice A9 n9 c9) (.slice A10 n10 c10)) i w v8 wr) (fun v8 _ => zs.length - (intOf v8).toNat)
  case atStart => exact ⟨i + 1, by go_num, Nat.le_refl _, by omega, HS.out, Lib.hid fun j h1 h2 => absurd h2 (by omega)⟩
  case round =>
    clear HS
    obtain ⟨k, rfl, hk1, hk, HCW, Hno⟩ := hrel
    have HW := Lib.hid HCW
    by_cases hlt : k < zs.length
    · have hbw := HCW.bel
      have hc0 : wr.cell? ⟨b, off + k, none⟩ = some (.string (ln zs k)) := (hbw.cell (p := ⟨b, off + k, none⟩) hb).trans (HCell.out k hlt)
      obtain ⟨k0, k1, k2, k3, k4, k5, k6, k7, k8, k9, k10, y0, y1, y2, y3, y4, y5, y6, y7, y8, y9, y10⟩ := mk_facts HCW.mrk
      have hwz : w.heap.size + 1 < wr.heap.size := HCW.at_.lt
      have HS : Hid (∀ W, Below (w.heap.size + 2) wr W → (W.cell? ⟨b, off + k, none⟩ = some (.string (ln zs k)) ∧ W.cell? ⟨w.heap.size, 0, none⟩ = some (.int .i64 m.kind) ∧ W.cell? ⟨w.heap.size, 1, none⟩ = some (.int .i64 m.n) ∧ W.cell? ⟨w.heap.size, 2, none⟩ = some (.string m.ch) ∧ W.cell? ⟨w.heap.size, 3, none⟩ = some (.int .i64 m.off) ∧ W.cell? ⟨w.heap.size, 4, none⟩ = some (.string m.info) ∧ W.cell? ⟨w.heap.size, 5, none⟩ = some (.string m.rest) ∧ W.cell? ⟨w.heap.size, 6, none⟩ = some (.string m.dest) ∧ W.cell? ⟨w.heap.size, 7, none⟩ = some (.string m.title) ∧ W.cell? ⟨w.heap.size, 8, none⟩ = some (.string m.att.id) ∧ W.cell? ⟨w.heap.size, 9, none⟩ = some (.slice A9 n9 c9) ∧ W.cell? ⟨w.heap.size, 10, none⟩ = some (.slice A10 n10 c10) ∧ Below (w.heap.size + 2) wr W)) := Lib.hid fun W hW => by
        obtain ⟨k0, k1, k2, k3, k4, k5, k6, k7, k8, k9, k10, y0, y1, y2, y3, y4, y5, y6, y7, y8, y9, y10⟩ := mk_facts (HCW.mrk.below hW (by omega))
        exact ⟨(hW.cell (p := ⟨b, off + k, none⟩) (by show b < _; omega)).trans hc0, k0, k1, k2, k3, k4, k5, k6, k7, k8, k9, k10, hW⟩
      have HB0 : Hid (Below (w.heap.size + 2) wr wr) := Lib.hid (Below.refl _ _)
      have hPk := HP.out k
      have s0 := HS.out wr HB0.out
      have HSz : Hid (∀ W, (W.cell? ⟨b, off + k, none⟩ = some (.string (ln zs k)) ∧ W.cell? ⟨w.heap.size, 0, none⟩ = some (.int .i64 m.kind) ∧ W.cell? ⟨w.heap.size, 1, none⟩ = some (.int .i64 m.n) ∧ W.cell? ⟨w.heap.size, 2, none⟩ = some (.string m.ch) ∧ W.cell? ⟨w.heap.size, 3, none⟩ = some (.int .i64 m.off) ∧ W.cell? ⟨w.heap.size, 4, none⟩ = some (.string m.info) ∧ W.cell? ⟨w.heap.size, 5, none⟩ = some (.string m.rest) ∧ W.cell? ⟨w.heap.size, 6, none⟩ = some (.string m.dest) ∧ W.cell? ⟨w.heap.size, 7, none⟩ = some (.string m.title) ∧ W.cell? ⟨w.heap.size, 8, none⟩ = some (.string m.att.id) ∧ W.cell? ⟨w.heap.size, 9, none⟩ = some (.slice A9 n9 c9) ∧ W.cell? ⟨w.heap.size, 10, none⟩ = some (.slice A10 n10 c10) ∧ Below (w.heap.size + 2) wr W) → w.heap.size + 2 ≤ W.heap.size) := Lib.hid fun W h => by have := h.2.2.2.2.2.2.2.2.2.2.2.2.size; omega
      have HAl : Hid (∀ W o, (W.cell? ⟨b, off + k, none⟩ = some (.string (ln zs k)) ∧ W.cell? ⟨w.heap.size, 0, none⟩ = some (.int .i64 m.kind) ∧ W.cell? ⟨w.heap.size, 1, none⟩ = some (.int .i64 m.n) ∧ W.cell? ⟨w.heap.size, 2, none⟩ = some (.string m.ch) ∧ W.cell? ⟨w.heap.size, 3, none⟩ = some (.int .i64 m.off) ∧ W.cell? ⟨w.heap.size, 4, none⟩ = some (.string m.info) ∧ W.cell? ⟨w.heap.size, 5, none⟩ = some (.string m.rest) ∧ W.cell? ⟨w.heap.size, 6, none⟩ = some (.string m.dest) ∧ W.cell? ⟨w.heap.size, 7, none⟩ = some (.string m.title) ∧ W.cell? ⟨w.heap.size, 8, none⟩ = some (.string m.att.id) ∧ W.cell? ⟨w.heap.size, 9, none⟩ = some (.slice A9 n9 c9) ∧ W.cell? ⟨w.heap.size, 10, none⟩ = some (.slice A10 n10 c10) ∧ Below (w.heap.size + 2) wr W) → ((W.alloc o).cell? ⟨b, off + k, none⟩ = some (.string (ln zs k)) ∧ (W.alloc o).cell? ⟨w.heap.size, 0, none⟩ = some (.int .i64 m.kind) ∧ (W.alloc o).cell? ⟨w.heap.size, 1, none⟩ = some (.int .i64 m.n) ∧ (W.alloc o).cell? ⟨w.heap.size, 2, none⟩ = some (.string m.ch) ∧ (W.alloc o).cell? ⟨w.heap.size, 3, none⟩ = some (.int .i64 m.off) ∧ (W.alloc o).cell? ⟨w.heap.size, 4, none⟩ = some (.string m.info) ∧ (W.alloc o).cell? ⟨w.heap.size, 5, none⟩ = some (.string m.rest) ∧ (W.alloc o).cell? ⟨w.heap.size, 6, none⟩ = some (.string m.dest) ∧ (W.alloc o).cell? ⟨w.heap.size, 7, none⟩ = some (.string m.title) ∧ (W.alloc o).cell? ⟨w.heap.size, 8, none⟩ = some (.string m.att.id) ∧ (W.alloc o).cell? ⟨w.heap.size, 9, none⟩ = some (.slice A9 n9 c9) ∧ (W.alloc o).cell? ⟨w.heap.size, 10, none⟩ = some (.slice A10 n10 c10) ∧ Below (w.heap.size + 2) wr (W.alloc o))) := Lib.hid fun W o h => HS.out _ (h.2.2.2.2.2.2.2.2.2.2.2.2.alloc (by have := h.2.2.2.2.2.2.2.2.2.2.2.2.size; omega) o)
      have HCk : Hid (∀ W, (W.cell? ⟨b, off + k, none⟩ = some (.string (ln zs k)) ∧ W.cell? ⟨w.heap.size, 0, none⟩ = some (.int .i64 m.kind) ∧ W.cell? ⟨w.heap.size, 1, none⟩ = some (.int .i64 m.n) ∧ W.cell? ⟨w.heap.size, 2, none⟩ = some (.string m.ch) ∧ W.cell? ⟨w.heap.size, 3, none⟩ = some (.int .i64 m.off) ∧ W.cell? ⟨w.heap.size, 4, none⟩ = some (.string m.info) ∧ W.cell? ⟨w.heap.size, 5, none⟩ = some (.string m.rest) ∧ W.cell? ⟨w.heap.size, 6, none⟩ = some (.string m.dest) ∧ W.cell? ⟨w.heap.size, 7, none⟩ = some (.string m.title) ∧ W.cell? ⟨w.heap.size, 8, none⟩ = some (.string m.att.id) ∧ W.cell? ⟨w.heap.size, 9, none⟩ = some (.slice A9 n9 c9) ∧ W.cell? ⟨w.heap.size, 10, none⟩ = some (.slice A10 n10 c10) ∧ Below (w.heap.size + 2) wr W) → Calls Tryz.prog 117 #[.string (ln zs k), .agg #[.int .i64 m.kind, .int .i64 m.n, .string m.ch, .int .i64 m.off, .string m.info, .string m.rest, .string m.dest, .string m.title, .string m.att.id, .slice A9 n9 c9, .slice A10 n10 c10]] W fun e W' => (∃ A1 c1 A2 c2, e = .returned (.tuple #[.agg #[.string (closesM (ln zs k) m.kind m.n m.ch).1.id, .slice A1 (closesM (ln zs k) m.kind m.n m.ch).1.cl.length c1, .slice A2 (closesM (ln zs k) m.kind m.n m.ch).1.pr.length c2], .bool (closesM (ln zs k) m.kind m.n m.ch).2]) ∧ OwnA W' W.heap.size (closesM (ln zs k) m.kind m.n m.ch).1 (.slice A1 (closesM (ln zs k) m.kind m.n m.ch).1.cl.length c1) (.slice A2 (closesM (ln zs k) m.kind m.n m.ch).1.pr.length c2)) ∧ Below (w.heap.size + 2) wr W' ∧ Below W.heap.size W W') := Lib.hid fun W hW => (HC.out k W).mono fun e W' ⟨⟨vC, vP, h1, h2⟩, h3⟩ => by
        have hb := hW.2.2.2.2.2.2.2.2.2.2.2.2
        have hsz := hb.size
        obtain ⟨A1, c1, rfl⟩ := own_slice h2.cls
        obtain ⟨A2, c2, rfl⟩ := own_slice h2.prs
        exact ⟨⟨A1, c1, A2, c2, h1, h2⟩, hb.trans (h3.mono (by omega)), h3⟩
      clear HCW hc0 k0 k1 k2 k3 k4 k5 k6 k7 k8 k9 k10 y0 y1 y2 y3 y4 y5 y6 y7 y8 y9 y10 hbw HC HP
      generalize hRR : closesM (ln zs k) (m.kind : Int) (m.n : Int) m.ch = R at *
      have HRR := Lib.hid hRR
      clear hRR
      go_upto_region 4 with fail
      go_cut [9, 10] from 13 to 30 (fun s9 s10 wx => ∃ g A1 c1 A2 c2, s9 = .pointer (some ⟨g, 0, none⟩) ∧ s10 = .bool R.2 ∧ w.heap.size + 2 ≤ g ∧ Blk wx g 43 #[.string R.1.id, .slice A1 R.1.cl.length c1, .slice A2 R.1.pr.length c2] ∧ OwnA wx (w.heap.size + 2) R.1 (.slice A1 R.1.cl.length c1) (.slice A2 R.1.pr.length c2) ∧ Below (w.heap.size + 2) wr wx)
      case first =>
        have hu : undef = Value.tuple #[] := rfl
        obtain ⟨k11, k0, k1, k2, k3, k4, k5, k6, k7, k8, k9, k10, _⟩ := s0
        obtain ⟨x11, x0, x1, x2, x3, x4, x5, x6, x7, x8, x9, x10, _⟩ := HS.out _ (HB0.out.alloc (HSz.out _ (HS.out _ HB0.out)) (.cells #[.string ⟨#[]⟩, .slice none 0 0, .slice none 0 0] 43))
        go_region_with (first
            | (go_at_call 117; (with_reducible refine (HCk.out _ (HS.out _ HB0.out.drew)).mono ?_); rintro e W9 ⟨⟨A1, c1, A2, c2, rfl, ho⟩, b9, b8⟩)
            | (go_at_call 117; (with_reducible refine (HCk.out _ (HS.out _ (HB0.out.alloc (HSz.out _ (HS.out _ HB0.out)) _).drew)).mono ?_); rintro e W9 ⟨⟨A1, c1, A2, c2, rfl, ho⟩, b9, b8⟩; (have q : Blk W9 wr.heap.size 43 #[.string ⟨#[]⟩, .slice none 0 0, .slice none 0 0] := Blk.below (w := (wr.alloc (.cells #[.string ⟨#[]⟩, .slice none 0 0, .slice none 0 0] 43)).drew) (Blk.new wr _ _) b8 (by simp)); obtain ⟨q0, q1, q2, z0, z1, z2⟩ := at_facts q))
        all_goals
          go_wp2_with fail
          go_meet
          have hzz := HSz.out _ (HS.out _ b9)
          first
          | exact ⟨W9.heap.size, A1, c1, A2, c2, rfl, rfl, hzz, Blk.new W9 _ _, ownA_low (ho.below ((Below.refl _ _).alloc (Nat.le_refl _) _)) (by simp; omega), b9.alloc hzz _⟩
          | exact ⟨wr.heap.size, A1, c1, A2, c2, rfl, rfl, by omega, blk3 q rfl _ _ _, ownA_low (ownA_far ho (grown3 W9 wr.heap.size _ _ _) (by simp)) (by simp; omega), below3 b9 (by omega) _ _ _⟩
      case rest =>
        obtain ⟨g, A1, c1, A2, c2, rfl, rfl, hg, hblk, ho, hb2⟩ := hcut
        clear HCk HSz HAl HS s0 HB0
        have HX : Hid (CW w (m.cells (.slice A9 n9 c9) (.slice A10 n10 c10)) wc) := Lib.hid ⟨HW.out.mrk.below hb2 (by omega), HW.out.at_.below hb2 (by omega), HW.out.bel.trans (hb2.mono (by omega))⟩
        have HO := Lib.hid ho
        obtain ⟨q0, q1, q2, z0, z1, z2⟩ := at_facts hblk
        cases hR2 : R.2 with
        | true =>
          have HF := Lib.hid (HH.out k hk1 hlt Hno.out (hPk.trans hR2))
          obtain ⟨p0, p1, p2, v0, v1, v2⟩ := at_facts HX.out.at_
          have hzl := HX.out.at_.lt
          have HBel := Lib.hid HX.out.bel
          have HAt := Lib.hid HX.out.at_
          clear ho hb2 hblk HW Hno HH HN hPk HX
          go_wp2_with fail
          go_region
          all_goals
            go_wp2_with fail
            rw [HF.out.1, HF.out.2, HRR.out]
            exact closing_ret (Blk.drewN (blk3 HAt.out rfl _ _ _) 1) rfl rfl rfl ⟨⟨_, _, rfl, ownA_low ((ownA_far HO.out (grown3 wc (w.heap.size + 1) _ _ _) (by omega)).below (below_drewN (Below.refl _ _) 1)) (by omega)⟩, below_drewN (below3 HBel.out (Nat.le_succ _) _ _ _) 1⟩
        | false =>
          have HNx : Hid (∀ j, i + 1 ≤ j → j < k + 1 → closeP zs m j = false) := Lib.hid fun j h1 h2 => by
            by_cases e : j = k
            · rw [e, hPk]; exact hR2
            · exact Hno.out j h1 (by omega)
          clear ho hb2 hblk HW HO q0 q1 q2 z0 z1 z2 hPk Hno
          go_wp2_with fail
          go_roundw
          case rel => exact ⟨k + 1, by go_num, by omega, by omega, HX.out, HNx⟩
          case measure => simp [intOf]; omega
    · obtain rfl : k = zs.length := by omega
      have HF := Lib.hid (HN.out Hno.out)
      obtain ⟨p0, p1, p2, v0, v1, v2⟩ := at_facts HCW.at_
      have hzl := HCW.at_.lt
      clear HN HH Hno HCW
      go_wp2_with fail
      rw [HF.out.1, HF.out.2]
      exact closing_ret (blk3 HW.out.at_ rfl _ _ _) rfl rfl rfl ⟨⟨_, _, rfl, ownA_empty _ _ (below3 HW.out.bel (Nat.le_succ _) _ _ _).size⟩, below3 HW.out.bel (Nat.le_succ _) _ _ _⟩

end Go.Proofs.YtpoafhgbhnblmaaGreatDoor
namespace Go.Proofs.YtpoafhgbhnblmaaGreatDoor
open Go.RowKit Go.Pub
/-- The blocks at a depth, for a caller within nest. -/
def RecP (rec : List ByteArray → Option (List BkT)) (d : Nat) (MM : Int) : Prop :=
  ∀ (zs : List ByteArray) (A : Option Addr) (c : Nat) (W : World), LinesAt W A zs MM → zs.length ≤ c → c ≤ maxLen → Calls Tryz.prog 30 #[.slice A zs.length c, .int .i64 d] W fun e w' =>
    (match rec zs with
     | none => e = .returned bkErr
     | some bs => ∃ A1 c1 A2 n2 c2, e = .returned (.tuple #[.slice A1 bs.length c1, .slice A2 n2 c2, .int .i64 0]) ∧ KidsV w' (Rg W.heap.size w') (.slice A1 bs.length c1) bs) ∧ Below W.heap.size W w'
/-- The result's block, still empty. -/
def ZB (W : World) (g : Nat) : Prop := Blk W g 46 #[.int .i64 0, .int .i64 0, .string ⟨#[]⟩, .string ⟨#[]⟩, .string ⟨#[]⟩, .string ⟨#[]⟩, .string ⟨#[]⟩, .slice none 0 0, .slice none 0 0, .slice none 0 0, .slice none 0 0]
/-- A block out of its parts. -/
theorem repB_mk {w : World} {S : Nat → Prop} {kind level : Nat} {info text dest title : ByteArray} {att : AttrL} {line : ByteArray} {kids : List BkT} {A1 A2 : Option Addr} {c1 c2 : Nat} {vL vK : Value}
    (ha : AttR w S att A1 A2) (hl : SrcV w S vL line) (hk : KidsV w S vK kids) :
    RepB w S #[.int .i64 kind, .int .i64 level, .string info, .string text, .string dest, .string title, .string att.id, .slice A1 att.cl.length c1, .slice A2 att.pr.length c2, vL, vK] (.mk kind level info text dest title att line kids) := by
  obtain ⟨A, c, vs, rfl, h1, h2⟩ := hk
  exact .mk kind level info text dest title att line kids A1 A2 A c1 c2 c vL vs ha hl h1 h2
theorem srcV_none (w : World) (S : Nat → Prop) : SrcV w S (.slice none 0 0) ⟨#[]⟩ := by unfold SrcV; exact if_pos (show (⟨#[]⟩ : ByteArray).size = 0 from rfl) ▸ rfl
/-- A block that only holds others. -/
theorem repB_kid {w : World} {S : Nat → Prop} {kind : Nat} {kids : List BkT} {vK : Value} (hk : KidsV w S vK kids) : RepB w S #[.int .i64 kind, .int .i64 (0 : Nat), .string ⟨#[]⟩, .string ⟨#[]⟩, .string ⟨#[]⟩, .string ⟨#[]⟩, .string ⟨#[]⟩, .slice none 0 0, .slice none 0 0, .slice none 0 0, vK] (kidB kind kids) :=
  repB_mk (att := emptyA) (AttR.empty _ _ _ _) (srcV_none _ _) hk
theorem KidsV.far {w w' : World} {B B' g : Nat} {v : Value} {bs : List BkT} (h : KidsV w (Rg B w) v bs) (hg : w.grownBy w' (some g)) (hlt : g < B) (hB : B' ≤ B) : KidsV w' (Rg B' w') v bs :=
  h.keep (fun x hx => hg.block x hx.2 fun e => by injection e with e; have := hx.1; omega) fun x hx => ⟨by have := hx.1; omega, Nat.lt_of_lt_of_le hx.2 hg.size⟩
theorem ZB.facts {W : World} {g : Nat} (h : ZB W g) : W.cell? ⟨g, 0, none⟩ = some (.int .i64 0) ∧ W.cell? ⟨g, 1, none⟩ = some (.int .i64 0) ∧ W.cell? ⟨g, 2, none⟩ = some (.string ⟨#[]⟩) ∧ W.cell? ⟨g, 3, none⟩ = some (.string ⟨#[]⟩) ∧ W.cell? ⟨g, 4, none⟩ = some (.string ⟨#[]⟩) ∧ W.cell? ⟨g, 5, none⟩ = some (.string ⟨#[]⟩) ∧ W.cell? ⟨g, 6, none⟩ = some (.string ⟨#[]⟩) ∧ W.cell? ⟨g, 7, none⟩ = some (.slice none 0 0) ∧ W.cell? ⟨g, 8, none⟩ = some (.slice none 0 0) ∧ W.cell? ⟨g, 9, none⟩ = some (.slice none 0 0) ∧ W.cell? ⟨g, 10, none⟩ = some (.slice none 0 0) ∧ W.frozen? ⟨g, 0, none⟩ = false ∧ W.frozen? ⟨g, 1, none⟩ = false ∧ W.frozen? ⟨g, 2, none⟩ = false ∧ W.frozen? ⟨g, 3, none⟩ = false ∧ W.frozen? ⟨g, 4, none⟩ = false ∧ W.frozen? ⟨g, 5, none⟩ = false ∧ W.frozen? ⟨g, 6, none⟩ = false ∧ W.frozen? ⟨g, 7, none⟩ = false ∧ W.frozen? ⟨g, 8, none⟩ = false ∧ W.frozen? ⟨g, 9, none⟩ = false ∧ W.frozen? ⟨g, 10, none⟩ = false := mk_facts h
theorem ZB.below {w W W' : World} {g : Nat} (h : ZB W g) (hb : Below W.heap.size W W') : ZB W' g := Blk.below h hb (Blk.lt h)
/-- A block is handed back. -/
theorem bk_some {B : Nat} {r : Option (BkT × Nat)} {b : BkT} {t : Nat} {w w' : World} {v : Array Value} (hr : r = some (b, t)) (hv : RepB w' (Rg B w') v b) (hb : Below w.heap.size w w') : BkPost B r w (.returned (.tuple #[.agg v, .int .i64 t, .int .i64 0])) w' := by
  subst hr; exact ⟨hb, v, rfl, hv⟩
theorem bk_none {B : Nat} {r : Option (BkT × Nat)} {u : Int} {w w' : World} {v : Array Value} (hr : r = none) (hv : AnyB v) (hb : Below w.heap.size w w') : BkPost B r w (.returned (.tuple #[.agg v, .int .i64 u, .int .i64 11])) w' := by
  subst hr; exact ⟨hb, v, u, hv, rfl⟩
/-- The lines of a quotation so far. -/
def quoteK (zs : List ByteArray) (i k : Nat) : List ByteArray := (cutL zs i k).map fun z => (markM z).rest
theorem quoteK_len (zs : List ByteArray) (i k : Nat) (h : i ≤ k) (hk : k ≤ zs.length) : (quoteK zs i k).length = k - i := by unfold quoteK; rw [List.length_map, cutL_len _ _ _ h hk]
theorem cutL_succ (zs : List ByteArray) (i k : Nat) (h : i ≤ k) (hk : k < zs.length) : cutL zs i (k + 1) = cutL zs i k ++ [ln zs k] := by
  unfold cutL
  rw [show k + 1 - i = (k - i) + 1 by omega, List.take_succ_eq_append_getElem (by rw [List.length_drop]; omega)]
  congr 2
  rw [List.getElem_drop, ← ln_at zs k hk]
  congr 1
  omega
theorem quoteK_succ (zs : List ByteArray) (i k : Nat) (h : i ≤ k) (hk : k < zs.length) : strs (quoteK zs i (k + 1)) = strs (quoteK zs i k) ++ [.string (markM (ln zs k)).rest] := by
  unfold quoteK strs
  rw [cutL_succ zs i k h hk, List.map_append, List.map_append]
  rfl
theorem cutL_idx {zs : List ByteArray} {i k : Nat} {y : ByteArray} (h : y ∈ cutL zs i k) (hk : k ≤ zs.length) : ∃ j, i ≤ j ∧ j < k ∧ y = ln zs j := by
  obtain ⟨n, hn, rfl⟩ := List.mem_iff_getElem.1 h
  rcases Nat.lt_or_ge i k with hlt | hge
  · have hl := cutL_len zs i k (by omega) hk
    exact ⟨i + n, by omega, by omega, by rw [ln_at _ n hn, ln_cut zs i k n (by omega)]⟩
  · unfold cutL at hn
    rw [show k - i = 0 by omega] at hn
    simp at hn
theorem quoteIn_size (zs : List ByteArray) (i : Nat) (hi : i ≤ zs.length) (hM : ∀ z ∈ zs, z.size ≤ 100000) : ∀ z ∈ quoteIn zs i, z.size ≤ 100000 := by
  intro z hz
  unfold quoteIn at hz
  obtain ⟨y, hy, rfl⟩ := List.mem_map.1 hz
  obtain ⟨s1, s2, s3, s4⟩ := seek_spec (fun j => !decide (kindOf zs j = 4)) zs.length i hi
  obtain ⟨j, h1, h2, rfl⟩ := cutL_idx hy s2
  have h4 := s3 j h1 h2
  simp only [Bool.not_eq_false', decide_eq_true_eq] at h4
  exact Nat.le_trans (mark_rest (ln zs j) (.inl h4)).1 (ln_size hM j)
/-- The loop's state: the lines so far, the line. -/
def QuRel (zs : List ByteArray) (i : Nat) (w : World) (v9 v10 : Value) (wr : World) : Prop :=
  ∃ k : Nat, v10 = .int .i64 k ∧ i ≤ k ∧ k ≤ zs.length ∧ wr.ownsRow (w.heap.size + 1) 9 1 v9 (k - i) (strs (quoteK zs i k)) ∧ ZB wr w.heap.size ∧ Below w.heap.size w wr ∧ Hid (∀ j, i ≤ j → j < k → kindOf zs j = 4)
set_option maxRecDepth 100000 in
set_option maxHeartbeats 4000000 in
theorem n_quote (rec : List ByteArray → Option (List BkT)) (d : Nat) (hd : d ≤ 15) (zs : List ByteArray) (A : Option Addr) (c i B : Nat) (MM : Int) (w : World) (hR : RecP rec (d + 1) MM) (hL : LinesAt w A zs MM) (hi : i < zs.length) (hB : B ≤ w.heap.size) :
    Calls Tryz.prog 70 #[.slice A zs.length c, .int .i64 i, .int .i64 d] w (BkPost B ((rec (quoteIn zs i)).map fun k => (kidB 6 k, quoteTo zs i)) w) := by
  obtain ⟨i0, hi0, hz0, hz1, hz2⟩ := info_parts strInfo
  have hlen := hL.len
  obtain ⟨b, off, rfl, hb, hcell⟩ := hL.get (by omega)
  have HCell := Lib.hid hcell
  have HLi := Lib.hid hL
  have HM : Hid (∀ j W, Calls Tryz.prog 38 #[.string (ln zs j)] W fun e w' => ∃ A c D d, e = .returned (.agg ((markM (ln zs j)).cells (.slice A (markM (ln zs j)).att.cl.length c) (.slice D (markM (ln zs j)).att.pr.length d))) ∧ Below W.heap.size W w') := Lib.hid fun j W => (m_of (ln zs j) W (Nat.le_trans (ln_size hL.sz j) (by decide))).mono fun e w' => mkpost_val
  have HRec := Lib.hid hR
  have HZ0 := Lib.hid (Blk.new w 46 #[.int .i64 0, .int .i64 0, .string ⟨#[]⟩, .string ⟨#[]⟩, .string ⟨#[]⟩, .string ⟨#[]⟩, .string ⟨#[]⟩, .slice none 0 0, .slice none 0 0, .slice none 0 0, .slice none 0 0])
  have HB0 : Hid (∀ o, Below w.heap.size w (w.alloc o)) := Lib.hid fun o => (Below.refl _ w).alloc (Nat.le_refl _) _
  have hdi : ((d : Nat) : Int) ≤ 15 := by omega
  have HQz := Lib.hid (quoteIn_size zs i (by omega) hL.sz)
  clear hL hcell hR
  go_enter Tryz.func70, Tryz.ntmps70
  go_upto_block 0 with fail
  go_cut [9, 10] (fun s9 s10 wx => s10 = .int .i64 (quoteTo zs i) ∧ wx.ownsRow (w.heap.size + 1) 9 1 s9 (quoteTo zs i - i) (strs (quoteIn zs i)) ∧ ZB wx w.heap.size ∧ Below w.heap.size w wx)
  case first =>
    go_wp2_with fail
    go_loopw [9, 10] (fun v9 v10 wr => QuRel zs i w v9 v10 wr) (fun _ v10 _ => zs.length - (intOf v10).toNat)
    case atStart => exact ⟨i, rfl, Nat.le_refl _, by omega, by rw [Nat.sub_self, show strs (quoteK zs i i) = [] by unfold quoteK cutL strs; simp]; exact World.ownsRow_nil _ _ _ _, HZ0.out, HB0.out _, Lib.hid fun j h1 h2 => absurd h2 (by omega)⟩
    case round =>
      clear HZ0 HB0
      obtain ⟨k, rfl, hik, hk, hown, hZ, hbw, Hq⟩ := hrel
      have hzr := hbw.size
      have hzl := Blk.lt hZ
      have HZr := Lib.hid hZ
      have HT : Hid (∀ h : k < zs.length → kindOf zs k ≠ 4, quoteTo zs i = k) := Lib.hid fun h => seek_eq _ _ _ _ hik hk (fun j h1 h2 => by rw [Hq.out j h1 h2]; rfl) (fun hl => by rw [decide_eq_false (h hl)]; rfl)
      by_cases hlt : k < zs.length
      · have hc0 : wr.cell? ⟨b, off + k, none⟩ = some (.string (ln zs k)) := (hbw.cell (p := ⟨b, off + k, none⟩) hb).trans (HCell.out k hlt)
        have HM1 := Lib.hid fun W => HM.out k W
        have HE := Lib.hid (quoteK_succ zs i k hik hlt)
        have hkk : Hid (kindOf zs k = (markM (ln zs k)).kind) := Lib.hid rfl
        clear HM hZ
        generalize markM (ln zs k) = m at *
        unfold MkL.cells at HM1
        go_wp2_with fail
        ((with_reducible refine (HM1.out _).mono ?_))
        rintro e w1 ⟨A1, c1, A2, c2, rfl, b1⟩
        have hz1' := b1.size
        have hown1 := own_below hown b1
        by_cases h4 : m.kind = 4
        · have z1 : (((m.kind : Nat) : Int) != 4) = false := by rw [bne_eq_false_iff_eq]; omega
          have z2 : ((m.kind : Nat) != 4) = false := by rw [bne_eq_false_iff_eq]; exact h4
          have HQ2 : Hid (∀ j, i ≤ j → j < k + 1 → kindOf zs j = 4) := Lib.hid fun j h1 h2 => by
            by_cases e : j = k
            · rw [e, hkk.out]; exact h4
            · exact Hq.out j h1 (by omega)
          clear h4 hkk HT Hq hown
          go_wp2_with (at_builtin; refine wpList_append_own _ rfl _ _ 22 rfl (w.heap.size + 1) 9 i0 _ 1 16 Tryz.underlying22 hi0 hz0 hz1 hz2 rfl (by decide) _ _ _ rfl ((hown1.alloc _).alloc _) ⟨w1.heap.size + 1, 0, none⟩ 1 1 [.string m.rest] rfl rfl ?c1 ?c2 ?c3 ?c4 ?c5 ?_)
          case c1 =>
            intro j u hj
            match j, hj with
            | 0, hj => simp at hj; subst hj; simp [Addr.add]
          case c2 => intro u hu; simp at hu; subst hu; rfl
          case c3 => unfold maxLen; omega
          case c4 => omega
          case c5 => simp; omega
          intro v' w2 hown3 hgrow _
          have HZ2 : Hid (ZB w2 w.heap.size) := Lib.hid (Blk.grown (Blk.alloc (Blk.alloc (HZr.out.below (w := w) b1) _) _) hgrow (fun e => by have := (hown1.lt _ e.symm).1; omega))
          have HB2 : Hid (Below w.heap.size w w2) := Lib.hid ((((hbw.trans (b1.mono hzr)).alloc (by omega) _).alloc (by simp; omega) _).grown hgrow (by simp; omega) (fun g hg => by have := (hown1.lt g hg).1; omega))
          clear hown1 hgrow
          go_wp2_with fail
          go_roundw
          case rel => exact ⟨k + 1, by go_num, by omega, by omega, by rw [show k + 1 - i = k - i + 1 by omega, HE.out]; exact hown3, HZ2.out, HB2.out, HQ2⟩
          case measure => simp [intOf]; omega
        · have z1 : (((m.kind : Nat) : Int) != 4) = true := by rw [bne_iff_ne]; omega
          have z2 : ((m.kind : Nat) != 4) = true := by rw [bne_iff_ne]; exact h4
          have HQ := Lib.hid (HT.out fun _ => by rw [hkk.out]; exact h4)
          clear h4 hkk HT Hq hown
          go_wp2_with fail
          go_meet
          rw [HQ.out]
          refine ⟨rfl, ?_, Blk.alloc (HZr.out.below (w := w) b1) _, (hbw.trans (b1.mono hzr)).alloc (by omega) _⟩
          have := hown1.alloc (.cells #[.int .i64 m.kind, .int .i64 m.n, .string m.ch, .int .i64 m.off, .string m.info, .string m.rest, .string m.dest, .string m.title, .string m.att.id, .slice A1 m.att.cl.length c1, .slice A2 m.att.pr.length c2] 74)
          unfold quoteIn
          rw [HQ.out]
          exact this
      · have HQ := Lib.hid (HT.out fun h => absurd h hlt)
        clear HM hZ HT Hq
        go_wp2_with fail
        go_meet
        rw [HQ.out]
        refine ⟨rfl, ?_, HZr.out, hbw⟩
        unfold quoteIn
        rw [HQ.out]
        exact hown
  case rest =>
  obtain ⟨rfl, hown, hZ, hbw⟩ := hcut
  have hzr := hbw.size
  have hzl := Blk.lt hZ
  have HZr := Lib.hid hZ
  have hql : (quoteIn zs i).length = quoteTo zs i - i := by
    have := seek_spec (fun j => !decide (kindOf zs j = 4)) zs.length i (by omega)
    exact quoteK_len zs i _ this.1 this.2.1
  have hqs : quoteTo zs i ≤ zs.length := (seek_spec (fun j => !decide (kindOf zs j = 4)) zs.length i (by omega)).2.1
  obtain ⟨A9, c9, rfl, hc1, hc2⟩ := own_cap hown
  have HLq : Hid (LinesAt wc A9 (quoteIn zs i) MM) := Lib.hid (by
    refine ⟨by rw [hql]; exact Reads.of_own hown, by omega, fun z hz => ?_, (HLi.out.below hbw).cell⟩
    exact HQz.out z hz)
  have HC := Lib.hid (HRec.out (quoteIn zs i) A9 c9 wc HLq.out (by omega) hc2)
  rw [hql] at HC
  have hdd : (d : Int) + 1 = ((d + 1 : Nat) : Int) := by omega
  have HDD := Lib.hid hdd
  clear HZ0 HB0 HM HRec hown hZ hql hqs HLq hdd
  go_wp2_with fail
  rw [HDD.out]
  ((with_reducible refine (HC.out).mono ?_))
  rintro e w2 ⟨hp, b2⟩
  have HZ2 := Lib.hid (HZr.out.below (w := w) b2)
  have HB2 := Lib.hid (hbw.trans (b2.mono hzr))
  obtain ⟨k0, k1, k2, k3, k4, k5, k6, k7, k8, k9, k10, y0, y1, y2, y3, y4, y5, y6, y7, y8, y9, y10⟩ := ZB.facts HZ2.out
  cases hRc : rec (quoteIn zs i) with
  | none =>
    have HRc := Lib.hid hRc
    rw [hRc] at hp
    subst hp
    unfold bkErr
    clear HC hRc
    go_wp2_with fail
    exact quoteAt_ret (blk11 HZ2.out _ _ _ _ _ _ _ _ _ _ _) rfl rfl rfl rfl (bk_none (by rw [HRc.out]; rfl) ⟨_, _, _, _, _, _, _, _, _, _, _, _, _, _, _, _, _, _, _, rfl⟩ (below11 HB2.out (Nat.le_refl _) _ _ _ _ _ _ _ _ _ _ _))
  | some bs =>
    have HRc := Lib.hid hRc
    rw [hRc] at hp
    obtain ⟨A1, c1, A2, n2, c2, rfl, hk⟩ := hp
    have HK := Lib.hid hk
    clear HC hk hRc
    go_wp2_with fail
    exact quoteAt_ret (blk11 HZ2.out _ _ _ _ _ _ _ _ _ _ _) rfl rfl rfl rfl (bk_some (by rw [HRc.out]; rfl) (repB_kid (HK.out.far (grown11 _ _ _ _ _ _ _ _ _ _ _ _ _) hzl (by omega))) (below11 HB2.out (Nat.le_refl _) _ _ _ _ _ _ _ _ _ _ _))

end Go.Proofs.YtpoafhgbhnblmaaGreatDoor
namespace Go.Proofs.YtpoafhgbhnblmaaGreatDoor
open Go.RowKit Go.Pub
/-- The mark's block and the result's, still empty. -/
structure DW (w : World) (MK : Array Value) (W : World) : Prop where
  mrk : Blk W w.heap.size 74 MK
  res : ZB W (w.heap.size + 1)
  bel : Below w.heap.size w W
def zbC : Array Value := #[.int .i64 0, .int .i64 0, .string ⟨#[]⟩, .string ⟨#[]⟩, .string ⟨#[]⟩, .string ⟨#[]⟩, .string ⟨#[]⟩, .slice none 0 0, .slice none 0 0, .slice none 0 0, .slice none 0 0]
theorem dw_start (w : World) (MK : Array Value) : DW w MK ((w.alloc (.cells MK 74)).alloc (.cells zbC 46)) := by
  refine ⟨(Blk.new w _ _).alloc _, ?_, ((Below.refl _ w).alloc (Nat.le_refl _) _).alloc (by simp) _⟩
  have h := Blk.new (w.alloc (.cells MK 74)) 46 zbC
  unfold ZB
  simp at h
  exact h
theorem DW.next {w W W' : World} {MK : Array Value} (h : DW w MK W) (hb : Below W.heap.size W W') : DW w MK W' :=
  ⟨h.mrk.below hb h.mrk.lt, h.res.below (w := w) hb, h.bel.trans (hb.mono h.bel.size)⟩
theorem closeI_bd (zs : List ByteArray) (m : MkL) (i : Nat) (hi : i < zs.length) : i + 1 ≤ closeI zs m (i + 1) ∧ closeI zs m (i + 1) ≤ zs.length := by
  have := seek_spec (closeP zs m) zs.length (i + 1) (by omega)
  exact ⟨this.1, this.2.1⟩
theorem AttR.far {w w' : World} {B B' : Nat} {a : AttrL} {A1 A2 : Option Addr} (h : AttR w (Rg B w) a A1 A2) (hb : Below w.heap.size w w') (hB : B' ≤ B) : AttR w' (Rg B' w') a A1 A2 :=
  h.keep (fun x hx => hb.block x hx.2) fun x hx => ⟨by have := hx.1; omega, Nat.lt_of_lt_of_le hx.2 hb.size⟩
end Go.Proofs.YtpoafhgbhnblmaaGreatDoor
