/-
  Texts of the proof, put together (what this law reaches): ScTL.
-/
import Derived.Test.YtcjkgmfidkgamaaGreatDoorD36
import Derived.Test.YtcjkgmfidkgamaaGreatDoorD37
import Derived.Test.YtcjkgmfidkgamaaGreatDoorD04
import Derived.Deep.CutRange
import Derived.Deep.DeepCutAuto
set_option linter.unusedVariables false
set_option linter.unusedSimpArgs false
namespace Go.Proofs.YtcjkgmfidkgamaaGreatDoor
open Go.RowKit Go.Pub
theorem r4_leaf0 (w : World) : Calls Tryz.prog 24 #[.slice none 0 0, .slice none 0 0] w fun e w' => e = .returned (.bool true) ∧ Below w.heap.size w w' := by
  go_enter Tryz.func24, Tryz.ntmps24
  go_wp2_with fail
  go_loop [5] (fun v5 => v5 = .int .i64 0) (fun _ => 0)
  case atStart => rfl
  case round =>
    obtain rfl := hrel
    go_wp2_with fail
    go_ret
    exact ⟨rfl, Below.refl _ _⟩
theorem r4_attrs0 (w : World) : Calls Tryz.prog 41 #[.agg #[.string ⟨#[]⟩, .slice none 0 0, .slice none 0 0], .agg #[.string ⟨#[]⟩, .slice none 0 0, .slice none 0 0]] w fun e w' => e = .returned (.bool true) ∧ Below w.heap.size w w' := by
  have HT : Hid (∀ W, Calls Tryz.prog 42 #[.slice none 0 0, .slice none 0 0] W fun e w' => e = .returned (.bool true) ∧ Below W.heap.size W w') := Lib.hid fun W => r4_texts [] none none 0 0 (fun _ => False) (fun _ => False) W ReadsS.none_ ReadsS.none_ (fun _ h => h.elim) (fun _ h => h.elim) (by decide)
  have HP : Hid (∀ W, Calls Tryz.prog 70 #[.slice none 0 0, .slice none 0 0] W fun e w' => e = .returned (.bool true) ∧ Below W.heap.size W w') := Lib.hid fun W => r4_pairs [] none none 0 0 (fun _ => False) (fun _ => False) W ReadsS.none_ ReadsS.none_ (fun _ h => h.elim) (fun _ h => h.elim) (by decide)
  have q1 : ((⟨#[]⟩ : ByteArray).toList == (⟨#[]⟩ : ByteArray).toList) = true := beq_self_eq_true _
  have HB0 : Hid (∀ o o', Below w.heap.size w ((w.alloc o).alloc o')) := Lib.hid fun o o' => ((Below.refl _ w).alloc (Nat.le_refl _) _).alloc (by simp) _
  have HK : Hid (∀ (W : World) o o', Below ((w.alloc o).alloc o').heap.size ((w.alloc o).alloc o') W → Below w.heap.size w W) := Lib.hid fun W o o' hb => (HB0.out o o').trans (hb.mono (by simp; omega))
  have HC : Hid (∀ (W : World) (x : Array Value) (y : Array Value), Below ((w.alloc (.cells x 30)).alloc (.cells y 30)).heap.size ((w.alloc (.cells x 30)).alloc (.cells y 30)) W → W.cell? ⟨w.heap.size, 2, none⟩ = x[2]? ∧ W.cell? ⟨w.heap.size + 1, 2, none⟩ = y[2]?) := Lib.hid fun W x y hb => by
    have h1 := Blk.below (Blk.alloc (Blk.new w 30 x) (.cells y 30)) hb (by simp; omega)
    have h2 := Blk.below (Blk.new (w.alloc (.cells x 30)) 30 y) hb (by simp)
    simp at h2
    exact ⟨h1.cell 2, h2.cell 2⟩
  go_enter Tryz.func41, Tryz.ntmps41
  go_wp2_with fail
  ((with_reducible refine (HT.out _).mono ?_))
  rintro e w1 ⟨rfl, b1⟩
  obtain ⟨k1, k2⟩ := HC.out _ _ _ b1
  have hk1 : w1.cell? ⟨w.heap.size, 2, none⟩ = some (.slice none 0 0) := k1
  have hk2 : w1.cell? ⟨w.heap.size + 1, 2, none⟩ = some (.slice none 0 0) := k2
  have HB1 := Lib.hid (HK.out _ _ _ b1)
  clear b1 k1 k2
  go_wp2_with fail
  ((with_reducible refine (HP.out _).mono ?_))
  rintro e w2 ⟨rfl, b2⟩
  go_wp2_with fail
  go_ret
  exact ⟨rfl, HB1.out.trans (b2.mono HB1.out.size)⟩
set_option maxRecDepth 100000 in
set_option maxHeartbeats 8000000 in
theorem r4_leaf (x : InL) (A1 : Option Addr) (c1 : Nat) (A2 : Option Addr) (c2 : Nat) (A1' : Option Addr) (c1' : Nat) (A2' : Option Addr) (c2' : Nat) (g g' : Nat) (S S' : Nat → Prop) (w : World) (h : Blk w g 34 (inC x A1 c1 A2 c2)) (h' : Blk w g' 34 (inC x A1' c1' A2' c2'))
    (hr : InR w S x A1 A2) (hr' : InR w S' x A1' A2') (hS : ∀ g, S g → g < w.heap.size) (hS' : ∀ g, S' g → g < w.heap.size) (h8 : x.args.length ≤ 32) :
    Calls Tryz.prog 24 #[.slice (some ⟨g, 0, none⟩) 1 1, .slice (some ⟨g', 0, none⟩) 1 1] w fun e w' => e = .returned (.bool true) ∧ Below w.heap.size w w' := by
  have hgl := h.lt
  have hgl' := h'.lt
  have HF : Hid (∀ W, Below w.heap.size w W → Blk W g 34 #[.int .i64 x.kind, .string x.text, .string x.dest, .string x.title, .string ⟨#[]⟩, .slice none 0 0, .slice none 0 0, .slice A1 x.args.length c1, .slice A2 x.cites.length c2, .slice none 0 0] ∧ Blk W g' 34 #[.int .i64 x.kind, .string x.text, .string x.dest, .string x.title, .string ⟨#[]⟩, .slice none 0 0, .slice none 0 0, .slice A1' x.args.length c1', .slice A2' x.cites.length c2', .slice none 0 0]) := Lib.hid fun W hb => ⟨h.below hb hgl, h'.below hb hgl'⟩
  have HTx : Hid (∀ W, Below w.heap.size w W → Calls Tryz.prog 42 #[.slice A1 x.args.length c1, .slice A1' x.args.length c1'] W fun e w' => e = .returned (.bool true) ∧ Below W.heap.size W w') := Lib.hid fun W hb => r4_texts x.args A1 A1' c1 c1' S S' W (hr.args.keep (fun g hg => hb.block g (hS g hg)) fun _ h => h) (hr'.args.keep (fun g hg => hb.block g (hS' g hg)) fun _ h => h) (fun g hg => Nat.lt_of_lt_of_le (hS g hg) hb.size) (fun g hg => Nat.lt_of_lt_of_le (hS' g hg) hb.size) h8
  have HC1 := Lib.hid fun W (hb : Below w.heap.size w W) => hr.cites.keep (S' := fun _ => True) (fun g hg => hb.block g (hS g hg)) fun _ _ => trivial
  have HC2 := Lib.hid fun W (hb : Below w.heap.size w W) => hr'.cites.keep (S' := fun _ => True) (fun g hg => hb.block g (hS' g hg)) fun _ _ => trivial
  have hcl : x.cites.length ≤ 9223372036854775807 := by have := hr.cites.1.2; unfold maxLen at this; omega
  have HAt := Lib.hid r4_attrs0
  have HL0 := Lib.hid r4_leaf0
  clear h h' hr hr' hS hS'
  go_enter Tryz.func24, Tryz.ntmps24
  go_wp2_with fail
  go_loopw [5] (fun v5 wr => ∃ k : Nat, v5 = .int .i64 k ∧ k ≤ 1 ∧ Hid (Below w.heap.size w wr)) (fun v5 _ => 1 - (intOf v5).toNat)
  case atStart => exact ⟨0, rfl, by omega, Lib.hid (Below.refl _ _)⟩
  case round =>
    obtain ⟨k, rfl, hk, HB⟩ := hrel
    by_cases hlt : k < 1
    · obtain rfl : k = 0 := by omega
      have HK1 : Hid (∀ x, Below wr.heap.size wr (wr.alloc x).drew) := Lib.hid fun x => ((Below.refl _ wr).alloc (Nat.le_refl _) _).drew
      have HK2 : Hid (∀ x y, Below wr.heap.size wr ((wr.alloc x).alloc y).drew) := Lib.hid fun x y => (((Below.refl _ wr).alloc (Nat.le_refl _) _).alloc (by simp) _).drew
      have HN1 : Hid (∀ (x : Array Value) (y : Obj), Blk ((wr.alloc (.cells x 34)).alloc y).drew wr.heap.size 34 x) := Lib.hid fun x y => Blk.alloc (Blk.new wr _ x) y
      have HN2 : Hid (∀ (x : Obj) (y : Array Value), Blk ((wr.alloc x).alloc (.cells y 34)).drew (wr.heap.size + 1) 34 y) := Lib.hid fun x y => by
        have h := Blk.new (wr.alloc x) 34 y
        rw [heap_alloc_size] at h
        exact h
      have HBr := Lib.hid (Below.refl wr.heap.size wr)
      go_upto_region 6 with fail
      go_cut [6, 7] from 20 to 27 (fun s6 s7 wx => ∃ g6 g7 : Nat, s6 = .pointer (some ⟨g6, 0, none⟩) ∧ s7 = .pointer (some ⟨g7, 0, none⟩) ∧ Blk wx g6 34 #[.int .i64 x.kind, .string x.text, .string x.dest, .string x.title, .string ⟨#[]⟩, .slice none 0 0, .slice none 0 0, .slice A1 x.args.length c1, .slice A2 x.cites.length c2, .slice none 0 0] ∧ Blk wx g7 34 #[.int .i64 x.kind, .string x.text, .string x.dest, .string x.title, .string ⟨#[]⟩, .slice none 0 0, .slice none 0 0, .slice A1' x.args.length c1', .slice A2' x.cites.length c2', .slice none 0 0] ∧ Below w.heap.size w wx)
      case first =>
        clear HTx HC1 HC2 HAt HL0
        refine wp_region_held_drew (S := fun W' => Below wr.heap.size wr W') (by kernel_rfl) HBr.out.drew (fun hHeld => ?_)
        refine tk 0 (.slice (some ⟨g, 0, none⟩) 1 1) rfl hHeld (fun W' hSw => ?_) ?_
        · go_simp
        refine tk 1 (.int .i64 0) rfl hHeld (fun W' hSw => ?_) ?_
        · go_simp
        refine tk 2 (.pointer (some ⟨g, 0, none⟩)) rfl hHeld (fun W' hSw => ?_) ?_
        · go_simp
        refine tk 3 (.agg #[.int .i64 x.kind, .string x.text, .string x.dest, .string x.title, .string ⟨#[]⟩, .slice none 0 0, .slice none 0 0, .slice A1 x.args.length c1, .slice A2 x.cites.length c2, .slice none 0 0]) rfl hHeld (fun W' hSw => ?_) ?_
        · obtain ⟨e0, e1, e2, e3, e4, e5, e6, e7, e8, e9, -⟩ := in_facts (HF.out W' (HB.out.trans (hSw.mono HB.out.size))).1
          go_simp
        refine tk 4 (.slice (some ⟨g', 0, none⟩) 1 1) rfl hHeld (fun W' hSw => ?_) ?_
        · go_simp
        refine tk 5 (.int .i64 0) rfl hHeld (fun W' hSw => ?_) ?_
        · go_simp
        refine tk 6 (.pointer (some ⟨g', 0, none⟩)) rfl hHeld (fun W' hSw => ?_) ?_
        · go_simp
        refine tk 7 (.agg #[.int .i64 x.kind, .string x.text, .string x.dest, .string x.title, .string ⟨#[]⟩, .slice none 0 0, .slice none 0 0, .slice A1' x.args.length c1', .slice A2' x.cites.length c2', .slice none 0 0]) rfl hHeld (fun W' hSw => ?_) ?_
        · obtain ⟨e0, e1, e2, e3, e4, e5, e6, e7, e8, e9, -⟩ := in_facts (HF.out W' (HB.out.trans (hSw.mono HB.out.size))).2
          go_simp
        refine wpAnyH_ready (rs := [8, 9]) (by kernel_rfl) (by simp) (AllReadyH.cons rfl (fun K hK => ?_) (AllReadyH.cons rfl (fun K hK => ?_) AllReadyH.nil))
        · go_simp
          refine hK.out _ _ (HK1.out _) (fun hHeld => ?_)
          clear hK K
          refine rd1 9 rfl (fun K hK => ?_)
          go_simp
          refine hK.out _ _ (HK2.out _ _) (fun hHeld => ?_)
          clear hK K
          refine rd1 10 rfl (fun K hK => ?_)
          go_simp
          refine hK.out _ _ (HK2.out _ _) (fun hHeld => ?_)
          clear hK K
          refine rd1 11 rfl (fun K hK => ?_)
          go_simp
          refine hK.out _ _ (HK2.out _ _) (fun hHeld => ?_)
          clear hK K
          refine wpAnyH_done (by kernel_rfl) ?_ _
          go_wp2_with fail
          go_meet
          exact ⟨wr.heap.size, wr.heap.size + 1, rfl, rfl, HN1.out _ _, HN2.out _ _, HB.out.trans ((HK2.out _ _).mono HB.out.size)⟩
        · go_simp
          refine hK.out _ _ (HK1.out _) (fun hHeld => ?_)
          clear hK K
          refine rd1 8 rfl (fun K hK => ?_)
          go_simp
          refine hK.out _ _ (HK2.out _ _) (fun hHeld => ?_)
          clear hK K
          refine rd1 10 rfl (fun K hK => ?_)
          go_simp
          refine hK.out _ _ (HK2.out _ _) (fun hHeld => ?_)
          clear hK K
          refine rd1 11 rfl (fun K hK => ?_)
          go_simp
          refine hK.out _ _ (HK2.out _ _) (fun hHeld => ?_)
          clear hK K
          refine wpAnyH_done (by kernel_rfl) ?_ _
          go_wp2_with fail
          go_meet
          exact ⟨wr.heap.size + 1, wr.heap.size, rfl, rfl, HN2.out _ _, HN1.out _ _, HB.out.trans ((HK2.out _ _).mono HB.out.size)⟩
      case rest =>
        obtain ⟨g6, g7, rfl, rfl, h6, h7, hbw⟩ := hcut
        have HBw := Lib.hid hbw
        have hl6 := h6.lt
        have hl7 := h7.lt
        have HI : Hid (∀ W, Below wc.heap.size wc W → Blk W g6 34 #[.int .i64 x.kind, .string x.text, .string x.dest, .string x.title, .string ⟨#[]⟩, .slice none 0 0, .slice none 0 0, .slice A1 x.args.length c1, .slice A2 x.cites.length c2, .slice none 0 0] ∧ Blk W g7 34 #[.int .i64 x.kind, .string x.text, .string x.dest, .string x.title, .string ⟨#[]⟩, .slice none 0 0, .slice none 0 0, .slice A1' x.args.length c1', .slice A2' x.cites.length c2', .slice none 0 0]) := Lib.hid fun W h => ⟨h6.below h hl6, h7.below h hl7⟩
        have q1 : (x.text.toList == x.text.toList) = true := beq_self_eq_true _
        have q2 : (x.dest.toList == x.dest.toList) = true := beq_self_eq_true _
        have q3 : (x.title.toList == x.title.toList) = true := beq_self_eq_true _
        have q1n : (x.text.toList != x.text.toList) = false := by simp
        have q2n : (x.dest.toList != x.dest.toList) = false := by simp
        have q3n : (x.title.toList != x.title.toList) = false := by simp
        clear h6 h7 hbw HF HN1 HN2 HK1 HK2 HBr
        have HW0 := Lib.hid (Below.refl wc.heap.size wc)
        obtain ⟨a0, a1, a2, a3, a4, a5, a6, a7, a8, a9, -⟩ := in_facts (HI.out _ HW0.out).1
        obtain ⟨b0, b1, b2, b3, b4, b5, b6, b7, b8, b9, -⟩ := in_facts (HI.out _ HW0.out).2
        go_wp2_with fail
        ((with_reducible refine (HAt.out _).mono ?_))
        rintro e w5 ⟨rfl, c5⟩
        have HW5 := Lib.hid c5
        clear a0 a1 a2 a3 a4 a5 a6 a7 a8 a9 b0 b1 b2 b3 b4 b5 b6 b7 b8 b9
        obtain ⟨a0, a1, a2, a3, a4, a5, a6, a7, a8, a9, -⟩ := in_facts (HI.out _ HW5.out).1
        obtain ⟨b0, b1, b2, b3, b4, b5, b6, b7, b8, b9, -⟩ := in_facts (HI.out _ HW5.out).2
        have HT5 := Lib.hid (HTx.out _ (HBw.out.trans (c5.mono HBw.out.size)))
        clear c5
        go_wp2_with fail
        ((with_reducible refine (HT5.out).mono ?_))
        rintro e w6 ⟨rfl, c6⟩
        have HW6 := Lib.hid (HW5.out.trans (c6.mono HW5.out.size))
        clear a0 a1 a2 a3 a4 a5 a6 a7 a8 a9 b0 b1 b2 b3 b4 b5 b6 b7 b8 b9
        obtain ⟨a0, a1, a2, a3, a4, a5, a6, a7, a8, a9, -⟩ := in_facts (HI.out _ HW6.out).1
        obtain ⟨b0, b1, b2, b3, b4, b5, b6, b7, b8, b9, -⟩ := in_facts (HI.out _ HW6.out).2
        clear c6
        go_wp2_with fail
        ((with_reducible refine (HL0.out _).mono ?_))
        rintro e w7 ⟨rfl, c7⟩
        have HW7 := Lib.hid (HW6.out.trans (c7.mono HW6.out.size))
        clear a0 a1 a2 a3 a4 a5 a6 a7 a8 a9 b0 b1 b2 b3 b4 b5 b6 b7 b8 b9
        clear c7
        have HB7 := Lib.hid (HBw.out.trans (HW7.out.mono HBw.out.size))
        have HR7 := Lib.hid (Below.refl w7.heap.size w7)
        have HI7 := Lib.hid fun W (hb : Below w7.heap.size w7 W) => HI.out W (HW7.out.trans (hb.mono HW7.out.size))
        obtain ⟨a0, a1, a2, a3, a4, a5, a6, a7, a8, a9, -⟩ := in_facts (HI.out _ HW7.out).1
        obtain ⟨b0, b1, b2, b3, b4, b5, b6, b7, b8, b9, -⟩ := in_facts (HI.out _ HW7.out).2
        clear HT5 HTx HAt HL0 HI HW0 HW5 HW6 HW7 HBw
        go_wp2_with fail
        clear a0 a1 a2 a3 a4 a5 a6 a7 a8 a9 b0 b1 b2 b3 b4 b5 b6 b7 b8 b9
        go_loopw [8] (fun v8 wz => ∃ k : Nat, v8 = .int .i64 k ∧ k ≤ x.cites.length ∧ Hid (Below w7.heap.size w7 wz)) (fun v8 _ => x.cites.length - (intOf v8).toNat)
        case atStart => exact ⟨0, rfl, Nat.zero_le _, HR7⟩
        case round =>
          clear HR7
          obtain ⟨k, rfl, hk2, HBz⟩ := hrel
          obtain ⟨a0, a1, a2, a3, a4, a5, a6, a7, a8, a9, -⟩ := in_facts (HI7.out _ HBz.out).1
          obtain ⟨b0, b1, b2, b3, b4, b5, b6, b7, b8, b9, -⟩ := in_facts (HI7.out _ HBz.out).2
          have HBW := Lib.hid (HB7.out.trans (HBz.out.mono HB7.out.size))
          by_cases hl : k < x.cites.length
          · obtain ⟨G1, o1, rfl, k1⟩ := cits_look (HC1.out _ HBW.out) (by omega)
            obtain ⟨G2, o2, rfl, k2⟩ := cits_look (HC2.out _ HBW.out) (by omega)
            obtain ⟨d0, d1, d2, d3⟩ := k1 k hl
            obtain ⟨f0, f1, f2, f3⟩ := k2 k hl
            generalize hci : x.cites[k] = ci at *
            obtain ⟨y0, y1, y2, y3⟩ := ci
            simp only [] at d0 d1 d2 d3 f0 f1 f2 f3
            have z0 : (y0.toList == y0.toList) = true := by simp
            have z1 : (y1.toList == y1.toList) = true := by simp
            have z2 : (y2.toList == y2.toList) = true := by simp
            have z3 : (y3 == y3) = true := by simp
            clear hci k1 k2 a0 a1 a2 a3 a4 a5 a6 a7 a9 b0 b1 b2 b3 b4 b5 b6 b7 b9 q1 q2 q3 q1n q2n q3n
            go_wp2_with fail
            go_quiet (fail)
            go_wp2_with fail
            go_roundw
            case rel => exact ⟨k + 1, by go_num, by omega, Lib.hid (below_drewN HBz.out _)⟩
            case measure => simp [intOf]; omega
          · obtain rfl : k = x.cites.length := by omega
            go_wp2_with fail
            go_roundw
            case rel => exact ⟨1, rfl, Nat.le_refl _, HBW⟩
            case measure => simp [intOf]
    · obtain rfl : k = 1 := by omega
      go_wp2_with fail
      go_ret
      exact ⟨rfl, HB.out⟩

end Go.Proofs.YtcjkgmfidkgamaaGreatDoor
