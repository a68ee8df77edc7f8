/-
  The reference's ReadDest.
-/
import Derived.Test.YtepeaenbjgbnfaaDoorLinkI
set_option linter.unusedVariables false
set_option linter.unusedSimpArgs false
namespace Go.Proofs.YtepeaenbjgbnfaaDoor
open Go.RowKit Go.Pub

theorem r_title (s : ByteArray) (i : Int) (w : World) (hs : s.size ≤ 1000000) :
    Calls Tryd.prog 24 #[.string s, .int .i64 i] w (RPartPost (titleR s i) w) := by
  by_cases h : 0 ≤ i ∧ i < s.size
  · obtain ⟨k, rfl⟩ := Int.eq_ofNat_of_zero_le h.1
    exact r_title_in s k w hs (by have := h.2; omega)
  · exact r_title_no s i w hs h

set_option maxRecDepth 100000 in
set_option maxHeartbeats 4000000 in
theorem r_dest_no (s : ByteArray) (i : Int) (w : World) (hs : s.size ≤ 1000000) (h : ¬ (0 ≤ i ∧ i < s.size)) :
    Calls Tryd.prog 23 #[.string s, .int .i64 i] w (RPartPost (destR s i) w) := by
  have HR : Hid (destR s i = none) := Lib.hid (by unfold destR; rw [if_neg h])
  generalize destR s i = R at *
  by_cases h0 : i < 0
  · have d0 : decide (i < 0) = true := by simpa using h0
    go_enter Tryd.func23, Tryd.ntmps23
    go_wp2
    exact dest_ret (Blk.new _ _ _) rfl rfl (rpart_none HR.out ((Below.refl _ _).alloc (Nat.le_refl _) _))
  · have d1 : decide ((s.size : Int) ≤ i) = true := by simp; omega
    go_enter Tryd.func23, Tryd.ntmps23
    go_wp2
    exact dest_ret (Blk.new _ _ _) rfl rfl (rpart_none HR.out ((Below.refl _ _).alloc (Nat.le_refl _) _))

set_option maxRecDepth 100000 in
set_option maxHeartbeats 4000000 in
theorem r_dest_ang (s : ByteArray) (i : Nat) (w : World) (hs : s.size ≤ 1000000) (hi : i < s.size) (h : bt s i = 60) :
    Calls Tryd.prog 23 #[.string s, .int .i64 i] w (RPartPost (destR s i) w) := by
  have HC : Hid (∀ W, Calls Tryd.prog 40 #[.string s, .int .i64 i, .int .u8 62, .int .u8 60] W (RPartPost (destR s i) W)) := Lib.hid fun W => by
    have e : destR s i = betw s i 62 60 := by unfold destR; rw [if_pos ⟨by omega, by omega⟩, Int.toNat_natCast, if_pos h]
    rw [e]; exact r_between s i 62 60 W hs hi (by decide) (by decide)
  generalize destR s i = R at *
  have z0 : (((s[i].toNat : Nat) : Int) == 60) = true := by rw [get_bt s i hi, h]; rfl
  have zi : decide ((i : Int) < 0) = false := by simp
  have zj : decide (s.size ≤ i) = false := by simp; omega
  clear h
  have HB0 : Hid (∀ n, Z3 ((w.alloc (.cells #[.string ⟨#[]⟩, .int .i64 0, .bool false] 42)).drewN n) w.heap.size) := Lib.hid fun n => (Blk.new w _ _).drewN n
  cases R
  all_goals
    go_enter Tryd.func23, Tryd.ntmps23
    go_wp2_with fail
    ((with_reducible refine (HC.out _).mono ?_))
    rintro e w1 ⟨he, b1⟩
    dsimp only [partVal] at he
    subst he
    have HB1 := Lib.hid (show Z3 w1 w.heap.size from Blk.below (HB0.out 0) b1 (by simp))
    obtain ⟨c0, c1, c2, f0, f1, f2⟩ := Z3.facts HB1.out
    go_wp2
    exact dest_ret (blk3 HB1.out rfl _ _ _) rfl rfl ⟨rfl, below3 (blw1 (n := 0) b1) (Nat.le_refl _) _ _ _⟩

def RDRel (s : ByteArray) (i : Nat) (w : World) (a b : Value) (wr : World) : Prop :=
  ∃ o k : Nat, o ≤ 8 ∧ i ≤ k ∧ k ≤ s.size ∧ a = .int .i64 k ∧ b = .int .i64 o ∧ Hid (destA s o k = destA s 0 i) ∧ Z3 wr w.heap.size ∧ Below w.heap.size w wr

set_option maxRecDepth 100000 in
set_option maxHeartbeats 8000000 in
theorem r_dest_plain (s : ByteArray) (i : Nat) (w : World) (hs : s.size ≤ 1000000) (hi : i < s.size) (h : bt s i ≠ 60) :
    Calls Tryd.prog 23 #[.string s, .int .i64 i] w (RPartPost (destR s i) w) := by
  have e : destR s i = (destA s 0 i).bind fun k => if k = i then none else some (unescL (sub s i k), k) := by unfold destR; rw [if_pos ⟨by omega, by omega⟩, Int.toNat_natCast, if_neg h]
  have HS : Hid (∀ k, k ≠ i → destA s 0 i = some k → destR s i = some (unescL (sub s i k), k)) := Lib.hid fun k hk hd => by rw [e, hd]; exact if_neg hk
  have HN : Hid (destA s 0 i = none → destR s i = none) := Lib.hid fun hd => by rw [e, hd]; rfl
  have HI : Hid (destA s 0 i = some i → destR s i = none) := Lib.hid fun hd => by rw [e, hd]; exact if_pos rfl
  clear e
  generalize destR s i = R at *
  have z0 : (((s[i].toNat : Nat) : Int) == 60) = false := by rw [get_bt s i hi, beq_eq_false_iff_ne]; omega
  have zi : decide ((i : Int) < 0) = false := by simp
  have zj : decide (s.size ≤ i) = false := by simp; omega
  clear h
  go_enter Tryd.func23, Tryd.ntmps23
  go_wp2
  go_loopw [5, 6] (fun a b wr => RDRel s i w a b wr) (fun a _ _ => s.size - (intOf a).toNat)
  case atStart => exact ⟨0, i, by omega, by omega, by omega, rfl, rfl, Lib.hid rfl, Blk.new _ _ _, (Below.refl _ _).alloc (Nat.le_refl _) _⟩
  case round =>
    obtain ⟨o, k, ho, hk1, hk, rfl, rfl, Hk, hB, hbw⟩ := hrel
    have hz := hbw.size
    have HB := Lib.hid hB
    have hgl := hB.lt
    clear hB
    by_cases hx : s.size ≤ k ∨ (k < s.size ∧ dstop s o k)
    · have hv : destA s o k = if o = 0 then some k else none := by
        rcases hx with hx | ⟨hx, hy⟩
        · exact destA_end s o k hx
        · exact destA_stop s o k hx hy
      have HV := Lib.hid hv
      clear hv
      have hw : s.size ≤ k ∨ (∃ hlt : k < s.size, (((s[k].toNat : Nat) : Int) != 32) = false) ∨ (∃ hlt : k < s.size, (((s[k].toNat : Nat) : Int) != 32) = true ∧ (((s[k].toNat : Nat) : Int) != 10) = false) ∨ (∃ hlt : k < s.size, (((s[k].toNat : Nat) : Int) != 32) = true ∧ (((s[k].toNat : Nat) : Int) != 10) = true ∧ (((s[k].toNat : Nat) : Int) != 41) = false ∧ o = 0) := by
        rcases hx with hx | ⟨hx, hy⟩
        · exact Or.inl hx
        · right
          rcases hy with hy | hy | ⟨hy, hz⟩
          · left; exact ⟨hx, by rw [get_bt s k hx, hy]; rfl⟩
          · right; left; exact ⟨hx, by rw [get_bt s k hx, hy]; exact ⟨rfl, rfl⟩⟩
          · right; right; exact ⟨hx, by rw [get_bt s k hx, hy]; exact ⟨rfl, rfl, rfl, hz⟩⟩
      clear hx
      by_cases e1 : k = i ∨ 0 < o
      · have HR : Hid (R = none) := Lib.hid (by
          by_cases h0 : o = 0
          · obtain rfl : k = i := by omega
            exact HI.out (by rw [← Hk.out, HV.out, if_pos h0])
          · exact HN.out (by rw [← Hk.out, HV.out, if_neg h0]))
        have hE : (((k : Int) == i) = true ∧ (k == i) = true) ∨ (((k : Int) == i) = false ∧ (k == i) = false ∧ 0 < o) := by
          by_cases h0 : k = i
          · left; rw [h0]; simp
          · right; exact ⟨by rw [beq_eq_false_iff_ne]; omega, by rw [beq_eq_false_iff_ne]; omega, by omega⟩
        clear e1
        obtain ⟨c0, c1, c2, f0, f1, f2⟩ := Z3.facts HB.out
        rcases hw with hw | ⟨hlt, y1⟩ | ⟨hlt, y1, y2⟩ | ⟨hlt, y1, y2, y3, rfl⟩
        all_goals
          rcases hE with ⟨x1, x3⟩ | ⟨x1, x3, x2⟩
          all_goals
            first
            | omega
            | (go_wp2
               exact dest_ret (blk3 HB.out rfl _ _ _) rfl rfl (rpart_none HR.out (below3 hbw (Nat.le_refl _) _ _ _)))
      · obtain rfl : o = 0 := by omega
        have HR : Hid (R = some (unescL (sub s i k), k)) := Lib.hid (HS.out k (by omega) (by rw [← Hk.out, HV.out, if_pos rfl]))
        have x1 : ((k : Int) == i) = false := by rw [beq_eq_false_iff_ne]; omega
        have x2 : (k == i) = false := by rw [beq_eq_false_iff_ne]; omega
        have HU := Lib.hid fun W => r_unescape_sub s i k W hs
        clear e1
        rcases hw with hw | ⟨hlt, y1⟩ | ⟨hlt, y1, y2⟩ | ⟨hlt, y1, y2, y3, _⟩
        all_goals
          go_wp2_with fail
          ((with_reducible refine (HU.out _).mono ?_))
          rintro e w1 ⟨rfl, b1⟩
          have HB1 := Lib.hid (show Z3 w1 w.heap.size from Blk.below HB.out b1 hgl)
          obtain ⟨c0, c1, c2, f0, f1, f2⟩ := Z3.facts HB1.out
          go_wp2
          exact dest_ret (blk3 HB1.out rfl _ _ _) rfl rfl (rpart_some HR.out rfl (below3 (hbw.trans (b1.mono hz)) (Nat.le_refl _) _ _ _))
    · have hlt : k < s.size := by omega
      have hns : ¬ dstop s o k := fun e => hx (Or.inr ⟨hlt, e⟩)
      clear hx
      have HC := Lib.hid fun W => r_escaped s k W hs hlt
      have hlt2 : ((s[k].toNat : Nat) : Int) < 256 := by rw [get_bt s k hlt]; have := bt_lt s k; omega
      have n32 : bt s k ≠ 32 := fun e => hns (Or.inl e)
      have n10 : bt s k ≠ 10 := fun e => hns (Or.inr (Or.inl e))
      have y1 : (((s[k].toNat : Nat) : Int) != 32) = true := by rw [get_bt s k hlt]; simp; omega
      have y2 : (((s[k].toNat : Nat) : Int) != 10) = true := by rw [get_bt s k hlt]; simp; omega
      by_cases hE : escAt s k = true
      · obtain ⟨hk2, h92⟩ := escAt_lt hE
        have y3 : (((s[k].toNat : Nat) : Int) != 41) = true := by rw [get_bt s k hlt]; simp; omega
        have hst : Hid (destA s o (k + 2) = destA s 0 i) := Lib.hid (by rw [← Hk.out]; exact (destA_esc s o k hE).symm)
        rw [hE] at HC
        clear hE n32 n10 hns h92
        go_wp2_with fail
        ((with_reducible refine (HC.out _).mono ?_))
        rintro e w1 ⟨rfl, b1⟩
        go_wp2
        go_roundw
        case rel => exact ⟨o, k + 2, by omega, by omega, by omega, by go_num, rfl, hst, HB.out.below b1 hgl, hbw.trans (b1.mono hz)⟩
        case measure => simp [intOf]; omega
      · rw [Bool.not_eq_true] at hE
        have HE := Lib.hid hE
        rw [hE] at HC
        clear hE
        by_cases c40 : bt s k = 40
        · have y3 : (((s[k].toNat : Nat) : Int) != 41) = true := by rw [get_bt s k hlt]; simp; omega
          have y3' : (((s[k].toNat : Nat) : Int) == 41) = false := by rw [get_bt s k hlt, beq_eq_false_iff_ne]; omega
          have y4 : (((s[k].toNat : Nat) : Int) == 40) = true := by rw [get_bt s k hlt, c40]; rfl
          have hst := destA_open s o k hlt c40
          have Hst := Lib.hid hst
          clear n32 n10 hns hst c40
          by_cases h8 : 8 ≤ o
          · obtain rfl : o = 8 := by omega
            have HR : Hid (R = none) := Lib.hid (HN.out (by rw [← Hk.out, Hst.out, if_pos h8]))
            go_wp2_with fail
            ((with_reducible refine (HC.out _).mono ?_))
            rintro e w1 ⟨rfl, b1⟩
            have HB1 := Lib.hid (show Z3 w1 w.heap.size from Blk.below HB.out b1 hgl)
            obtain ⟨c0, c1, c2, f0, f1, f2⟩ := Z3.facts HB1.out
            go_wp2
            exact dest_ret (blk3 HB1.out rfl _ _ _) rfl rfl (rpart_none HR.out (below3 (hbw.trans (b1.mono hz)) (Nat.le_refl _) _ _ _))
          · have hst : Hid (destA s (o + 1) (k + 1) = destA s 0 i) := Lib.hid (by rw [← Hk.out, Hst.out, if_neg h8])
            go_wp2_with fail
            ((with_reducible refine (HC.out _).mono ?_))
            rintro e w1 ⟨rfl, b1⟩
            go_wp2
            go_roundw
            case rel => exact ⟨o + 1, k + 1, by omega, by omega, by omega, by go_num, by go_num, hst, HB.out.below b1 hgl, hbw.trans (b1.mono hz)⟩
            case measure => simp [intOf]; omega
        · have y4 : (((s[k].toNat : Nat) : Int) == 40) = false := by rw [get_bt s k hlt, beq_eq_false_iff_ne]; omega
          by_cases c41 : bt s k = 41
          · have y3 : (((s[k].toNat : Nat) : Int) != 41) = false := by rw [get_bt s k hlt, c41]; rfl
            have y3' : (((s[k].toNat : Nat) : Int) == 41) = true := by rw [get_bt s k hlt, c41]; rfl
            have ho0 : 0 < o := by
              rcases Nat.eq_zero_or_pos o with e | e
              · exact absurd (Or.inr (Or.inr ⟨c41, e⟩)) hns
              · exact e
            have hst : Hid (destA s (o - 1) (k + 1) = destA s 0 i) := Lib.hid (by rw [← Hk.out, destA_close s o k hlt c41 ho0])
            clear n32 n10 hns c40 c41
            go_wp2_with fail
            ((with_reducible refine (HC.out _).mono ?_))
            rintro e w1 ⟨rfl, b1⟩
            go_wp2
            go_roundw
            case rel => exact ⟨o - 1, k + 1, by omega, by omega, by omega, by go_num, congrArg (Value.int .i64) (by omega), hst, HB.out.below b1 hgl, hbw.trans (b1.mono hz)⟩
            case measure => simp [intOf]; omega
          · have y3 : (((s[k].toNat : Nat) : Int) != 41) = true := by rw [get_bt s k hlt]; simp; omega
            have y3' : (((s[k].toNat : Nat) : Int) == 41) = false := by rw [get_bt s k hlt, beq_eq_false_iff_ne]; omega
            have hst : Hid (destA s o (k + 1) = destA s 0 i) := Lib.hid (by rw [← Hk.out, destA_step s o k hlt hns HE.out c40 c41])
            clear n32 n10 hns c40 c41
            go_wp2_with fail
            ((with_reducible refine (HC.out _).mono ?_))
            rintro e w1 ⟨rfl, b1⟩
            go_wp2
            go_roundw
            case rel => exact ⟨o, k + 1, by omega, by omega, by omega, by go_num, rfl, hst, HB.out.below b1 hgl, hbw.trans (b1.mono hz)⟩
            case measure => simp [intOf]; omega

theorem r_dest (s : ByteArray) (i : Int) (w : World) (hs : s.size ≤ 1000000) :
    Calls Tryd.prog 23 #[.string s, .int .i64 i] w (RPartPost (destR s i) w) := by
  by_cases h : 0 ≤ i ∧ i < s.size
  · obtain ⟨k, rfl⟩ := Int.eq_ofNat_of_zero_le h.1
    by_cases hc : bt s k = 60
    · exact r_dest_ang s k w hs (by have := h.2; omega) hc
    · exact r_dest_plain s k w hs (by have := h.2; omega) hc
  · exact r_dest_no s i w hs h
end Go.Proofs.YtepeaenbjgbnfaaDoor
