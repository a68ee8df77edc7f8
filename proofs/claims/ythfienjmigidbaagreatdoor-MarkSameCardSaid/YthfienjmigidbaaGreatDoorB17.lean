/-
  Texts of the proof, put together: LinkH.
-/
import Derived.Test.YthfienjmigidbaaGreatDoorB05
import Derived.Test.YthfienjmigidbaaGreatDoorB16
import Derived.Test.YthfienjmigidbaaGreatDoorB09
import Derived.Test.YthfienjmigidbaaGreatDoorB11
set_option linter.unusedVariables false
set_option linter.unusedSimpArgs false
namespace Go.Proofs.YthfienjmigidbaaGreatDoor
open Go.RowKit Go.Pub

set_option maxRecDepth 100000 in
set_option maxHeartbeats 1000000 in
theorem r_escaped (s : ByteArray) (k : Nat) (w : World) (hs : s.size ≤ 1000000) (hk : k < s.size) :
    Calls Tryz.prog 108 #[.string s, .int .i64 k] w fun e w' => e = .returned (.bool (escAt s k)) ∧ Below w.heap.size w w' := by
  have hlt2 : ((s[k].toNat : Nat) : Int) < 256 := by rw [get_bt s k hk]; have := bt_lt s k; omega
  by_cases h1 : k + 1 < s.size
  · by_cases h0 : bt s k = 92
    · have z0 : (((s[k].toNat : Nat) : Int) == 92) = true := by rw [get_bt s k hk, h0]; rfl
      have HE := Lib.hid (escAt_in s k h1)
      have hlt3 : ((s[k + 1].toNat : Nat) : Int) < 256 := by rw [get_bt s (k + 1) h1]; have := bt_lt s (k + 1); omega
      have hbi := Lib.hid (bt_int s (k + 1) h1)
      have H0 := Lib.hid h0
      clear h0
      generalize escAt s k = E at *
      by_cases h2 : bt s (k + 1) < 128
      · have z2 : ((s[k + 1].toNat : Nat) : Int) < 128 := by rw [get_bt s (k + 1) h1]; omega
        have HR : Hid (E = inB (bt s (k + 1) : Int) punctL) := Lib.hid (by rw [HE.out, H0.out, decide_eq_true h2]; simp)
        go_enter Tryz.func108, Tryz.ntmps108
        go_wp2_with fail
        refine (rPunct_any _ _).mono ?_
        rintro e w' ⟨rfl, b1⟩
        go_wp2
        go_ret
        exact ⟨ret_bool (by rw [HR.out, hbi.out]), b1⟩
      · have z2 : 128 ≤ ((s[k + 1].toNat : Nat) : Int) := by rw [get_bt s (k + 1) h1]; omega
        have HR : Hid (E = false) := Lib.hid (by rw [HE.out, decide_eq_false h2]; simp)
        go_enter Tryz.func108, Tryz.ntmps108
        go_wp2
        go_ret
        exact ⟨ret_bool (by rw [HR.out]), Below.refl _ _⟩
    · have z0 : (((s[k].toNat : Nat) : Int) == 92) = false := by rw [get_bt s k hk, beq_eq_false_iff_ne]; omega
      have HR := Lib.hid (escAt_not s k h0)
      generalize escAt s k = E at *
      go_enter Tryz.func108, Tryz.ntmps108
      go_wp2
      go_ret
      exact ⟨ret_bool (by rw [HR.out]), Below.refl _ _⟩
  · have HR := Lib.hid (escAt_end s k (by omega))
    generalize escAt s k = E at *
    go_enter Tryz.func108, Tryz.ntmps108
    go_wp2
    go_ret
    exact ⟨ret_bool (by rw [HR.out]), Below.refl _ _⟩

def RURel (s : ByteArray) (R : List UInt8) (w : World) (v i : Value) (wr : World) : Prop :=
  ∃ (k : Nat) (acc : List UInt8), i = .int .i64 k ∧ k ≤ s.size ∧ wr.ownsRow w.heap.size 5 1 v acc.length (Lib.byteCells acc) ∧ Below w.heap.size w wr ∧ Hid (acc ++ unescL (sfx s k) = R) ∧ acc.length ≤ k

set_option maxRecDepth 100000 in
set_option maxHeartbeats 4000000 in
theorem r_unescape (s : ByteArray) (w : World) (hs : s.size ≤ 1000000) : Calls Tryz.prog 109 #[.string s] w fun e w' => e = .returned (.string (mk (unescL (bytesL s)))) ∧ Below w.heap.size w w' := by
  have HX : Hid (unescL (sfx s 0) = unescL (bytesL s)) := Lib.hid rfl
  generalize unescL (bytesL s) = R at *
  obtain ⟨i0, hi0, hz0, hz1, hz2⟩ := info_parts byteInfo
  go_enter Tryz.func109, Tryz.ntmps109
  go_wp2
  go_loopw [3, 4] (fun v i wr => RURel s R w v i wr) (fun _ v _ => s.size - (intOf v).toNat)
  case atStart => exact ⟨0, [], rfl, by omega, World.ownsRow_nil _ _ _ _, Below.refl _ w, HX, by simp⟩
  case round =>
    obtain ⟨k, acc, rfl, hk, hown, hbw, Hacc, hal⟩ := hrel
    have hz := hbw.size
    by_cases hlt : k < s.size
    · have HC := Lib.hid fun W => r_escaped s k W hs hlt
      by_cases hE : escAt s k = true
      · have hk1 : k + 1 < s.size := (escAt_lt hE).1
        have hst := Lib.hid (unesc_esc s k hE)
        have hlt2 : ((s[k + 1].toNat : Nat) : Int) < 256 := by rw [get_bt s (k + 1) hk1]; have := bt_lt s (k + 1); omega
        have hbi := Lib.hid (bt_int s (k + 1) hk1)
        rw [hE] at HC
        clear hE
        go_wp2_with fail
        ((with_reducible refine (HC.out _).mono ?_))
        rintro e w1 ⟨rfl, b1⟩
        have hown1 := own_below hown b1
        have hz1' := b1.size
        go_wp2_with (at_builtin; refine wpList_append_own _ rfl _ _ 73 rfl w.heap.size 5 i0 _ 1 1 Tryz.underlying73 hi0 hz0 hz1 hz2 rfl (by decide) _ _ _ rfl (hown1.alloc _) ⟨w1.heap.size, 0, none⟩ 1 1 [.int .u8 ((s[k + 1].toNat : Nat) : Int)] rfl rfl ?c1 ?c2 ?c3 ?c4 ?c5 ?_)
        case c1 =>
          intro j u hj
          match j, hj with
          | 0, hj => simp at hj; subst hj; simp [Addr.add]
        case c2 => intro u hu; simp at hu; subst hu; rfl
        case c3 => unfold maxLen; omega
        case c4 => omega
        case c5 => simp; omega
        intro v' w2 hown3 hgrow _
        have hnx : Below w.heap.size w w2 := ((hbw.trans (b1.mono hz)).alloc (by omega) _).grown hgrow (by simp; omega) (fun k hk => (hown1.lt k hk).1)
        go_wp2
        go_roundw
        case rel =>
          refine ⟨k + 2, acc ++ [s.get! (k + 1)], by go_num, by omega, ?_, hnx, Lib.hid (by rw [← Hacc.out, hst.out]; simp), by simp; omega⟩
          rw [Lib.byteCells_append, List.length_append, byteCell1, ← hbi.out]
          exact hown3
        case measure => simp [intOf]; omega
      · rw [Bool.not_eq_true] at hE
        have hst := Lib.hid (unesc_step s k hlt hE)
        have hlt2 : ((s[k].toNat : Nat) : Int) < 256 := by rw [get_bt s k hlt]; have := bt_lt s k; omega
        have hbi := Lib.hid (bt_int s k hlt)
        rw [hE] at HC
        clear hE
        go_wp2_with fail
        ((with_reducible refine (HC.out _).mono ?_))
        rintro e w1 ⟨rfl, b1⟩
        have hown1 := own_below hown b1
        have hz1' := b1.size
        go_wp2_with (at_builtin; refine wpList_append_own _ rfl _ _ 73 rfl w.heap.size 5 i0 _ 1 1 Tryz.underlying73 hi0 hz0 hz1 hz2 rfl (by decide) _ _ _ rfl (hown1.alloc _) ⟨w1.heap.size, 0, none⟩ 1 1 [.int .u8 ((s[k].toNat : Nat) : Int)] rfl rfl ?c1 ?c2 ?c3 ?c4 ?c5 ?_)
        case c1 =>
          intro j u hj
          match j, hj with
          | 0, hj => simp at hj; subst hj; simp [Addr.add]
        case c2 => intro u hu; simp at hu; subst hu; rfl
        case c3 => unfold maxLen; omega
        case c4 => omega
        case c5 => simp; omega
        intro v' w2 hown3 hgrow _
        have hnx : Below w.heap.size w w2 := ((hbw.trans (b1.mono hz)).alloc (by omega) _).grown hgrow (by simp; omega) (fun k hk => (hown1.lt k hk).1)
        go_wp2
        go_roundw
        case rel =>
          refine ⟨k + 1, acc ++ [s.get! k], by go_num, by omega, ?_, hnx, Lib.hid (by rw [← Hacc.out, hst.out]; simp), by simp; omega⟩
          rw [Lib.byteCells_append, List.length_append, byteCell1, ← hbi.out]
          exact hown3
        case measure => simp [intOf]; omega
    · have HR : Hid (acc = R) := Lib.hid (by rw [← Hacc.out, unesc_end s k (by omega), List.append_nil])
      obtain ⟨A2, cp2, rfl⟩ := own_slice hown
      have hcv := conv_bytes wr 73 5 Tryz.underlying73 Tryz.underlying5 cp2 (Reads.of_own hown) 9 Tryz.underlying9
      go_wp2
      go_ret
      exact ⟨ret_str (by rw [HR.out]; rfl), hbw⟩

theorem r_unescape_sub (s : ByteArray) (i k : Nat) (w : World) (hs : s.size ≤ 1000000) : Calls Tryz.prog 109 #[.string (s.extract i k)] w fun e w' => e = .returned (.string (mk (unescL (sub s i k)))) ∧ Below w.heap.size w w' := by
  have h := r_unescape (s.extract i k) w (by have : (s.extract i k).size ≤ s.size := by rw [ByteArray.size_extract]; omega
                                             omega)
  rw [bytesL_sub] at h
  exact h

/-- A part as the reference has it. -/
def partVal : Option (List UInt8 × Nat) → Value
  | none => .agg #[.string ⟨#[]⟩, .int .i64 0, .bool false]
  | some p => .agg #[.string (mk p.1), .int .i64 p.2, .bool true]
def RPartPost (r : Option (List UInt8 × Nat)) (w : World) (e : Ending) (w' : World) : Prop := e = .returned (partVal r) ∧ Below w.heap.size w w'

theorem blk3 {W : World} {g : Nat} {T : TypeId} {cs : Array Value} (h : Blk W g T cs) (hl : cs.size = 3) (x y z : Value) : Blk (((W.setCell ⟨g, 0, none⟩ x).setCell ⟨g, 1, none⟩ y).setCell ⟨g, 2, none⟩ z) g T #[x, y, z] := by
  have := ((h.set_ 0 x).set_ 1 y).set_ 2 z
  have e : ((cs.setIfInBounds 0 x).setIfInBounds 1 y).setIfInBounds 2 z = #[x, y, z] := by
    apply Array.ext
    · simp [hl]
    · intro i h1 h2
      simp at h2
      match i, h2 with
      | 0, _ => simp [hl]
      | 1, _ => simp [hl]
      | 2, _ => simp [hl]
  rw [e] at this
  exact this
theorem below3 {B : Nat} {w W : World} (h : Below B w W) {g : Nat} (hg : B ≤ g) (x y z : Value) : Below B w (((W.setCell ⟨g, 0, none⟩ x).setCell ⟨g, 1, none⟩ y).setCell ⟨g, 2, none⟩ z) :=
  ((h.setCell (p := ⟨g, 0, none⟩) hg x).setCell (p := ⟨g, 1, none⟩) hg y).setCell (p := ⟨g, 2, none⟩) hg z
theorem rpart_none {r : Option (List UInt8 × Nat)} {w w' : World} (h : r = none) (hb : Below w.heap.size w w') : RPartPost r w (.returned (.agg #[.string ⟨#[]⟩, .int .i64 0, .bool false])) w' := by
  subst h; exact ⟨rfl, hb⟩
theorem rpart_some {r : Option (List UInt8 × Nat)} {t : List UInt8} {m : Nat} {n : Int} {w w' : World} (h : r = some (t, m)) (hn : n = m) (hb : Below w.heap.size w w') : RPartPost r w (.returned (.agg #[.string (mk t), .int .i64 n, .bool true])) w' := by
  subst h hn; exact ⟨rfl, hb⟩

theorem between_ret {W : World} {g : Nat} {x y z : Value} {P : Ending → World → Prop} {act : Act} (hr : Blk W g 70 #[x, y, z]) (h4 : act.tmps.getD 8 undef = .pointer (some ⟨g, 0, none⟩))
    (hd : act.defers = []) (hP : P (.returned (.agg #[x, y, z])) W) : bodyPost Tryz.prog Tryz.f107 P Exit.ret act W := by
  have c0 : W.cell? ⟨g, 0, none⟩ = some x := hr.cell 0
  have c1 : W.cell? ⟨g, 1, none⟩ = some y := hr.cell 1
  have c2 : W.cell? ⟨g, 2, none⟩ = some z := hr.cell 2
  refine bodyPost_ret (v := .agg #[x, y, z]) ?_ hd hP
  rw [Array.getD_eq_getD_getElem?] at h4
  simp [results, Tryz.results107, go_sem, h4, c0, c1, c2]

def BtRel (s : ByteArray) (i a b : Nat) (w : World) (v : Value) (wr : World) : Prop :=
  ∃ k : Nat, i + 1 ≤ k ∧ k ≤ s.size ∧ v = .int .i64 k ∧ Hid (scanA s a b k = scanA s a b (i + 1)) ∧ Blk wr w.heap.size 70 #[.string ⟨#[]⟩, .int .i64 0, .bool false] ∧ Below w.heap.size w wr

set_option maxRecDepth 100000 in
set_option maxHeartbeats 4000000 in
theorem r_between (s : ByteArray) (i a b : Nat) (w : World) (hs : s.size ≤ 1000000) (hi : i < s.size) (ha : a < 256 ∧ a ≠ 92 ∧ a ≠ 10) (hb : b < 256 ∧ b ≠ 92) :
    Calls Tryz.prog 107 #[.string s, .int .i64 i, .int .u8 a, .int .u8 b] w (RPartPost (betw s i a b) w) := by
  have HS : Hid (∀ k, scanA s a b (i + 1) = some k → betw s i a b = some (unescL (sub s (i + 1) k), k + 1)) := Lib.hid fun k h => by unfold betw; rw [h]; rfl
  have HN : Hid (scanA s a b (i + 1) = none → betw s i a b = none) := Lib.hid fun h => by unfold betw; rw [h]; rfl
  generalize betw s i a b = R at *
  go_enter Tryz.func107, Tryz.ntmps107
  go_wp2
  go_loopw [9] (fun v wr => BtRel s i a b w v wr) (fun v _ => s.size - (intOf v).toNat)
  case atStart => exact ⟨i + 1, by omega, by omega, by go_num, Lib.hid rfl, Blk.new _ _ _, (Below.refl _ _).alloc (Nat.le_refl _) _⟩
  case round =>
    obtain ⟨k, hk1, hk, rfl, Hk, hB, hbw⟩ := hrel
    have hz := hbw.size
    have HB := Lib.hid hB
    have hgl := hB.lt
    clear hB
    by_cases hlt : k < s.size
    · have HC := Lib.hid fun W => r_escaped s k W hs hlt
      have hlt2 : ((s[k].toNat : Nat) : Int) < 256 := by rw [get_bt s k hlt]; have := bt_lt s k; omega
      by_cases c1 : bt s k = a
      · have z1 : (((s[k].toNat : Nat) : Int) != (a : Int)) = false := by rw [get_bt s k hlt, c1]; simp
        have z1' : (s[k].toNat != a) = false := by rw [get_bt s k hlt, c1]; simp
        have HR : Hid (R = some (unescL (sub s (i + 1) k), k + 1)) := Lib.hid (HS.out k (by rw [← Hk.out]; exact scanA_stop s a b k hlt ha.1 c1))
        have HU := Lib.hid fun W => r_unescape_sub s (i + 1) k W hs
        clear c1
        go_wp2_with fail
        ((with_reducible refine (HU.out _).mono ?_))
        rintro e w1 ⟨rfl, b1⟩
        have HB1 := Lib.hid (HB.out.below b1 hgl)
        have c0 := HB1.out.cell 0
        have c1 := HB1.out.cell 1
        have c2 := HB1.out.cell 2
        have f0 := HB1.out.frozen 0
        have f1 := HB1.out.frozen 1
        have f2 := HB1.out.frozen 2
        simp only [List.getElem?_toArray, List.getElem?_cons_zero, List.getElem?_cons_succ] at c0 c1 c2
        go_wp2
        exact between_ret (blk3 HB1.out rfl _ _ _) rfl rfl (rpart_some HR.out (by omega) (below3 (hbw.trans (b1.mono hz)) (Nat.le_refl _) _ _ _))
      · have z1 : (((s[k].toNat : Nat) : Int) != (a : Int)) = true := by rw [get_bt s k hlt]; simp; omega
        have z1' : (s[k].toNat != a) = true := by rw [get_bt s k hlt]; simp; omega
        by_cases c2 : bt s k = b ∨ bt s k = 10
        · have HR : Hid (R = none) := Lib.hid (HN.out (by rw [← Hk.out]; exact scanA_bad s a b k hlt ha.1 hb.1 c1 c2))
          have cc : ((((s[k].toNat : Nat) : Int) == (b : Int)) = true ∧ (s[k].toNat == b) = true) ∨ ((((s[k].toNat : Nat) : Int) == (b : Int)) = false ∧ (s[k].toNat == b) = false ∧ (((s[k].toNat : Nat) : Int) == 10) = true) := by
            rw [get_bt s k hlt]
            by_cases c : bt s k = b
            · left; rw [c]; simp
            · right
              have h10 : bt s k = 10 := c2.resolve_left c
              refine ⟨by rw [beq_eq_false_iff_ne]; omega, by rw [beq_eq_false_iff_ne]; omega, by rw [h10]; rfl⟩
          clear c1 c2
          have c0 := HB.out.cell 0
          have c1 := HB.out.cell 1
          have c2 := HB.out.cell 2
          have f0 := HB.out.frozen 0
          have f1 := HB.out.frozen 1
          have f2 := HB.out.frozen 2
          simp only [List.getElem?_toArray, List.getElem?_cons_zero, List.getElem?_cons_succ] at c0 c1 c2
          rcases cc with ⟨z2, z3⟩ | ⟨z2, z3, z4⟩
          all_goals
            go_wp2
            exact between_ret (blk3 HB.out rfl _ _ _) rfl rfl (rpart_none HR.out (below3 hbw (Nat.le_refl _) _ _ _))
        · have z2 : (((s[k].toNat : Nat) : Int) == (b : Int)) = false := by rw [get_bt s k hlt, beq_eq_false_iff_ne]; omega
          have z2' : (s[k].toNat == b) = false := by rw [get_bt s k hlt, beq_eq_false_iff_ne]; omega
          have z3 : (((s[k].toNat : Nat) : Int) == 10) = false := by rw [get_bt s k hlt, beq_eq_false_iff_ne]; omega
          by_cases hE : escAt s k = true
          · have hk2 : k + 1 < s.size := (escAt_lt hE).1
            have hst : Hid (scanA s a b (k + 2) = scanA s a b (i + 1)) := Lib.hid (by rw [← Hk.out]; exact (scanA_esc s a b k ha.1 hb.1 ha.2.1 hb.2 hE).symm)
            rw [hE] at HC
            clear hE c1 c2
            go_wp2_with fail
            ((with_reducible refine (HC.out _).mono ?_))
            rintro e w1 ⟨rfl, b1⟩
            go_wp2
            go_roundw
            case rel => exact ⟨k + 2, by omega, by omega, by go_num, hst, HB.out.below b1 hgl, hbw.trans (b1.mono hz)⟩
            case measure => simp [intOf]; omega
          · rw [Bool.not_eq_true] at hE
            have hst : Hid (scanA s a b (k + 1) = scanA s a b (i + 1)) := Lib.hid (by rw [← Hk.out]; exact (scanA_step s a b k hlt ha.1 hb.1 c1 (fun e => c2 (Or.inl e)) (fun e => c2 (Or.inr e)) hE).symm)
            rw [hE] at HC
            clear hE c1 c2
            go_wp2_with fail
            ((with_reducible refine (HC.out _).mono ?_))
            rintro e w1 ⟨rfl, b1⟩
            go_wp2
            go_roundw
            case rel => exact ⟨k + 1, by omega, by omega, by go_num, hst, HB.out.below b1 hgl, hbw.trans (b1.mono hz)⟩
            case measure => simp [intOf]; omega
    · have HR : Hid (R = none) := Lib.hid (HN.out (by rw [← Hk.out]; exact scanA_end s a b k (by omega)))
      have c0 := HB.out.cell 0
      have c1 := HB.out.cell 1
      have c2 := HB.out.cell 2
      have f0 := HB.out.frozen 0
      have f1 := HB.out.frozen 1
      have f2 := HB.out.frozen 2
      simp only [List.getElem?_toArray, List.getElem?_cons_zero, List.getElem?_cons_succ] at c0 c1 c2
      go_wp2
      exact between_ret (blk3 HB.out rfl _ _ _) rfl rfl (rpart_none HR.out (below3 hbw (Nat.le_refl _) _ _ _))
end Go.Proofs.YthfienjmigidbaaGreatDoor
