/-
  The reference's ReadLabel (layer 5).
-/
import Derived.Test.YtepeaenbjgbnfaaDoorLinkR
set_option linter.unusedVariables false
set_option linter.unusedSimpArgs false
namespace Go.Pub
/-- The first byte from k on that is a closing bracket, or the end. -/
def brkA (s : ByteArray) (k : Nat) : Nat := k + brk (sfx s k)
theorem brkA_end (s : ByteArray) (k : Nat) (h : s.size ≤ k) : brkA s k = k := by unfold brkA; rw [sfx_nil s k h]; rfl
theorem brk_cons (c : UInt8) (l : List UInt8) : brk (c :: l) = if c == 93 then 0 else brk l + 1 := by
  unfold brk; rw [List.findIdx_cons]; cases c == 93 <;> rfl
theorem g93 (s : ByteArray) (k : Nat) : s.get! k = 93 ↔ bt s k = 93 := bt_u8 s k 93 (by decide)
theorem brkA_stop (s : ByteArray) (k : Nat) (h : k < s.size) (hc : bt s k = 93) : brkA s k = k := by
  unfold brkA; rw [sfx_cons s k h, brk_cons, (g93 s k).2 hc]; rfl
theorem brkA_step (s : ByteArray) (k : Nat) (h : k < s.size) (hc : bt s k ≠ 93) : brkA s k = brkA s (k + 1) := by
  unfold brkA; rw [sfx_cons s k h, brk_cons, if_neg (by rw [beq_iff_eq]; exact fun e => hc ((g93 s k).1 e))]; omega
theorem brackA (s : ByteArray) (i : Nat) (h : i < s.size) (hc : bt s i = 91) : brackR s i = if brkA s (i + 1) < s.size ∧ labelL (sub s (i + 1) (brkA s (i + 1))) ≠ [] then some (labelL (sub s (i + 1) (brkA s (i + 1))), brkA s (i + 1) + 1) else none := by
  unfold brackR
  rw [if_pos ⟨h, hc⟩]
  have e1 : (sfx s (i + 1)).take (brk (sfx s (i + 1))) = sub s (i + 1) (brkA s (i + 1)) := by
    unfold sub sfx brkA
    congr 1
    show _ = i + 1 + brk (sfx s (i + 1)) - (i + 1)
    unfold sfx
    omega
  have e2 : brk (sfx s (i + 1)) < (sfx s (i + 1)).length ↔ brkA s (i + 1) < s.size := by
    rw [sfx_len]; unfold brkA; omega
  have e3 : i + brk (sfx s (i + 1)) + 2 = brkA s (i + 1) + 1 := by unfold brkA; omega
  rw [e1, e3]
  by_cases hh : brkA s (i + 1) < s.size ∧ labelL (sub s (i + 1) (brkA s (i + 1))) ≠ []
  · rw [if_pos hh, if_pos ⟨e2.2 hh.1, hh.2⟩]
  · rw [if_neg hh, if_neg (fun e => hh ⟨e2.1 e.1, e.2⟩)]
end Go.Pub
namespace Go.Proofs.YtepeaenbjgbnfaaDoor
open Go.RowKit Go.Pub

theorem r_label_sub (s : ByteArray) (i k : Nat) (w : World) (hs : s.size ≤ 1000000) : Calls Tryd.prog 47 #[.string (s.extract i k)] w fun e w' => e = .returned (.string (mk (labelL (sub s i k)))) ∧ Below w.heap.size w w' := by
  have h := r_label (s.extract i k) w (by have : (s.extract i k).size ≤ s.size := by rw [ByteArray.size_extract]; omega
                                          omega)
  rw [bytesL_sub] at h
  exact h

theorem label_ret {W : World} {g : Nat} {x y z : Value} {P : Ending → World → Prop} {act : Act} (hr : Blk W g 42 #[x, y, z]) (h4 : act.tmps.getD 4 undef = .pointer (some ⟨g, 0, none⟩))
    (hd : act.defers = []) (hP : P (.returned (.agg #[x, y, z])) W) : bodyPost Tryd.prog Tryd.f28 P Exit.ret act W := by
  have c0 : W.cell? ⟨g, 0, none⟩ = some x := hr.cell 0
  have c1 : W.cell? ⟨g, 1, none⟩ = some y := hr.cell 1
  have c2 : W.cell? ⟨g, 2, none⟩ = some z := hr.cell 2
  refine bodyPost_ret (v := .agg #[x, y, z]) ?_ hd hP
  rw [Array.getD_eq_getD_getElem?] at h4
  simp [results, Tryd.results28, go_sem, h4, c0, c1, c2]

set_option maxRecDepth 100000 in
set_option maxHeartbeats 4000000 in
theorem r_readlabel_no (s : ByteArray) (i : Nat) (w : World) (hs : s.size ≤ 1000000) (hi : i ≤ s.size) (h : ¬ (i < s.size ∧ bt s i = 91)) :
    Calls Tryd.prog 28 #[.string s, .int .i64 i] w (RPartPost (brackR s i) w) := by
  have HR : Hid (brackR s i = none) := Lib.hid (by unfold brackR; rw [if_neg h])
  generalize brackR s i = R at *
  have zi : decide ((i : Int) < 0) = false := by simp
  by_cases hlt : i < s.size
  · have z0 : (((s[i].toNat : Nat) : Int) != 91) = true := by rw [get_bt s i hlt]; simp; omega
    have zj : decide (s.size ≤ i) = false := by simp; omega
    clear h
    go_enter Tryd.func28, Tryd.ntmps28
    go_wp2
    exact label_ret (Blk.new _ _ _) rfl rfl (rpart_none HR.out ((Below.refl _ _).alloc (Nat.le_refl _) _))
  · have zj : decide (s.size ≤ i) = true := by simp; omega
    clear h
    go_enter Tryd.func28, Tryd.ntmps28
    go_wp2
    exact label_ret (Blk.new _ _ _) rfl rfl (rpart_none HR.out ((Below.refl _ _).alloc (Nat.le_refl _) _))

set_option maxRecDepth 100000 in
set_option maxHeartbeats 8000000 in
theorem r_readlabel_yes (s : ByteArray) (i : Nat) (w : World) (hs : s.size ≤ 1000000) (hi : i < s.size) (h : bt s i = 91) :
    Calls Tryd.prog 28 #[.string s, .int .i64 i] w (RPartPost (brackR s i) w) := by
  have HR := Lib.hid (brackA s i hi h)
  generalize brackR s i = R at *
  have z0 : (((s[i].toNat : Nat) : Int) != 91) = false := by rw [get_bt s i hi, h]; rfl
  have zi : decide ((i : Int) < 0) = false := by simp
  have zj : decide (s.size ≤ i) = false := by simp; omega
  clear h
  go_enter Tryd.func28, Tryd.ntmps28
  go_wp2
  go_loopw [5] (fun a wr => ∃ k : Nat, i + 1 ≤ k ∧ k ≤ s.size ∧ a = .int .i64 k ∧ Hid (brkA s k = brkA s (i + 1)) ∧ Z3 wr w.heap.size ∧ Below w.heap.size w wr) (fun a _ => s.size - (intOf a).toNat)
  case atStart => exact ⟨i + 1, by omega, by omega, by go_num, Lib.hid rfl, Blk.new _ _ _, (Below.refl _ _).alloc (Nat.le_refl _) _⟩
  case round =>
    obtain ⟨k, hk1, hk, rfl, Hk, hB, hbw⟩ := hrel
    have hz := hbw.size
    have HB := Lib.hid hB
    have hgl := hB.lt
    clear hB
    by_cases hlt : k < s.size
    · by_cases hc : bt s k = 93
      · have y1 : (((s[k].toNat : Nat) : Int) != 93) = false := by rw [get_bt s k hlt, hc]; rfl
        have HK : Hid (R = if labelL (sub s (i + 1) k) ≠ [] then some (labelL (sub s (i + 1) k), k + 1) else none) := Lib.hid (by
          rw [HR.out, ← Hk.out, brkA_stop s k hlt hc]
          by_cases hh : labelL (sub s (i + 1) k) ≠ []
          · rw [if_pos ⟨hlt, hh⟩, if_pos hh]
          · rw [if_neg (fun e => hh e.2), if_neg hh])
        have HC := Lib.hid fun W => r_label_sub s (i + 1) k W hs
        clear hc HR
        generalize labelL (sub s (i + 1) k) = Lb at *
        cases Lb with
        | nil =>
          have HF : Hid (R = none) := Lib.hid (by rw [HK.out, if_neg (by simp)])
          have HC' : Hid (∀ W, Calls Tryd.prog 47 #[.string (s.extract (i + 1) k)] W fun e w' => e = .returned (.string ⟨#[]⟩) ∧ Below W.heap.size W w') := Lib.hid HC.out
          go_wp2_with fail
          ((with_reducible refine (HC'.out _).mono ?_))
          rintro e w1 ⟨rfl, b1⟩
          have HB1 := Lib.hid (show Z3 w1 w.heap.size from Blk.below HB.out b1 hgl)
          obtain ⟨c0, c1, c2, f0, f1, f2⟩ := Z3.facts HB1.out
          go_wp2
          exact label_ret (blk3 HB1.out rfl _ _ _) rfl rfl (rpart_none HF.out (below3 (hbw.trans (b1.mono hz)) (Nat.le_refl _) _ _ _))
        | cons c l =>
          have HF : Hid (R = some (c :: l, k + 1)) := Lib.hid (by rw [HK.out, if_pos (by simp)])
          have x1 : (mk (c :: l)).toList.isEmpty = false := by rw [Lib.toList_data]; rfl
          have x2 : (mk (c :: l)).toList = c :: l := by rw [Lib.toList_data]; rfl
          generalize hG : mk (c :: l) = G at *
          have HG := Lib.hid hG
          clear hG
          go_wp2_with fail
          ((with_reducible refine (HC.out _).mono ?_))
          rintro e w1 ⟨rfl, b1⟩
          have hz1 := b1.size
          have HB1 := Lib.hid (show Z3 w1 w.heap.size from Blk.below HB.out b1 hgl)
          have hgl1 := HB1.out.lt
          go_wp2_with fail
          ((with_reducible refine (HC.out _).mono ?_))
          rintro e w2 ⟨rfl, b2⟩
          have HB2 := Lib.hid (show Z3 w2 w.heap.size from Blk.below HB1.out b2 hgl1)
          obtain ⟨c0, c1, c2, f0, f1, f2⟩ := Z3.facts HB2.out
          go_wp2
          exact label_ret (blk3 HB2.out rfl _ _ _) rfl rfl (by rw [← HG.out]; exact rpart_some HF.out (by omega) (below3 ((hbw.trans (b1.mono hz)).trans (b2.mono (by omega))) (Nat.le_refl _) _ _ _))
      · have y1 : (((s[k].toNat : Nat) : Int) != 93) = true := by rw [get_bt s k hlt]; simp; omega
        have hst := Lib.hid (brkA_step s k hlt hc)
        clear hc
        go_wp2_with fail
        go_roundw
        case rel => exact ⟨k + 1, by omega, by omega, by go_num, Lib.hid (by rw [← hst.out]; exact Hk.out), HB.out, hbw⟩
        case measure => simp [intOf]; omega
    · have HF : Hid (R = none) := Lib.hid (by rw [HR.out, ← Hk.out, brkA_end s k (by omega), if_neg (fun e => hlt e.1)])
      have zk : decide (s.size ≤ k) = true := by simp; omega
      obtain ⟨c0, c1, c2, f0, f1, f2⟩ := Z3.facts HB.out
      go_wp2_with fail
      exact label_ret (blk3 HB.out rfl _ _ _) rfl rfl (rpart_none HF.out (below3 hbw (Nat.le_refl _) _ _ _))

theorem r_readlabel (s : ByteArray) (i : Nat) (w : World) (hs : s.size ≤ 1000000) (hi : i ≤ s.size) :
    Calls Tryd.prog 28 #[.string s, .int .i64 i] w (RPartPost (brackR s i) w) := by
  by_cases h : i < s.size ∧ bt s i = 91
  · exact r_readlabel_yes s i w hs h.1 h.2
  · exact r_readlabel_no s i w hs hi h
end Go.Proofs.YtepeaenbjgbnfaaDoor
