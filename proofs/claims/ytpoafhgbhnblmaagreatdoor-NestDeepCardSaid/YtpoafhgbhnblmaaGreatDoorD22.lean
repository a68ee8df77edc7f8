/-
  Texts of the proof, put together (what this law reaches): NsZA, NsZB, NsZC, NsZD.
-/
import Derived.Test.YtpoafhgbhnblmaaGreatDoorD15
import Derived.BigQuiet
import Derived.Test.YtpoafhgbhnblmaaGreatDoorD17
import Derived.Deep.CutRange
import Derived.Deep.DeepCutAuto
set_option linter.unusedVariables false
set_option linter.unusedSimpArgs false
namespace Go.Proofs.YtpoafhgbhnblmaaGreatDoor
open Go.RowKit Go.Pub
theorem r4_texts (zs : List ByteArray) (A A' : Option Addr) (c c' : Nat) (S S' : Nat → Prop) (w : World) (h : ReadsS w S 1 A zs.length (strs zs)) (h' : ReadsS w S' 1 A' zs.length (strs zs)) (hS : ∀ g, S g → g < w.heap.size) (hS' : ∀ g, S' g → g < w.heap.size) (hl : zs.length ≤ 32) :
    Calls Tryz.prog 32 #[.slice A zs.length c, .slice A' zs.length c'] w fun e w' => e = .returned (.bool true) ∧ Below w.heap.size w w' := by
  have HR := Lib.hid h
  have HR' := Lib.hid h'
  have HS := Lib.hid hS
  have HS' := Lib.hid hS'
  clear h h' hS hS'
  go_enter Tryz.func32, Tryz.ntmps32
  go_wp2_with fail
  go_loopw [5] (fun v5 wr => ∃ k : Nat, v5 = .int .i64 k ∧ k ≤ zs.length ∧ Hid (Below w.heap.size w wr)) (fun v5 _ => zs.length - (intOf v5).toNat)
  case atStart => exact ⟨0, rfl, Nat.zero_le _, Lib.hid (Below.refl _ _)⟩
  case round =>
    obtain ⟨k, rfl, hk, HB⟩ := hrel
    by_cases hlt : k < zs.length
    · obtain ⟨g, o, rfl, hg, hc⟩ := HR.out.row (by omega) (by decide)
      obtain ⟨g', o', rfl, hg', hc'⟩ := HR'.out.row (by omega) (by decide)
      have f1 := (HB.out.cell (p := ⟨g, o + k, none⟩) (HS.out g hg)).trans (hc k _ (strs_at zs k hlt))
      have f2 := (HB.out.cell (p := ⟨g', o' + k, none⟩) (HS'.out g' hg')).trans (hc' k _ (strs_at zs k hlt))
      clear hc hc'
      generalize zs[k] = z at *
      have q1 : (z.toList == z.toList) = true := beq_self_eq_true _
      go_wp2_with fail
      go_quiet (fail)
      go_wp2_with fail
      go_roundw
      case rel => exact ⟨k + 1, by go_num, by omega, Lib.hid (below_drewN HB.out _)⟩
      case measure => simp [intOf]; omega
    · go_wp2_with fail
      go_ret
      exact ⟨rfl, HB.out⟩
theorem r4_pairs (ps : List (ByteArray × ByteArray)) (A A' : Option Addr) (c c' : Nat) (S S' : Nat → Prop) (w : World) (h : ReadsS w S 2 A ps.length (prs ps)) (h' : ReadsS w S' 2 A' ps.length (prs ps)) (hS : ∀ g, S g → g < w.heap.size) (hS' : ∀ g, S' g → g < w.heap.size) (hl : ps.length ≤ 32) :
    Calls Tryz.prog 33 #[.slice A ps.length c, .slice A' ps.length c'] w fun e w' => e = .returned (.bool true) ∧ Below w.heap.size w w' := by
  have HR := Lib.hid h
  have HR' := Lib.hid h'
  have HS := Lib.hid hS
  have HS' := Lib.hid hS'
  clear h h' hS hS'
  go_enter Tryz.func33, Tryz.ntmps33
  go_wp2_with fail
  go_loopw [5] (fun v5 wr => ∃ k : Nat, v5 = .int .i64 k ∧ k ≤ ps.length ∧ Hid (Below w.heap.size w wr)) (fun v5 _ => ps.length - (intOf v5).toNat)
  case atStart => exact ⟨0, rfl, Nat.zero_le _, Lib.hid (Below.refl _ _)⟩
  case round =>
    obtain ⟨k, rfl, hk, HB⟩ := hrel
    by_cases hlt : k < ps.length
    · obtain ⟨g, o, rfl, hg, hc⟩ := HR.out.row (by omega) (by decide)
      obtain ⟨g', o', rfl, hg', hc'⟩ := HR'.out.row (by omega) (by decide)
      have f1 := (HB.out.cell (p := ⟨g, o + k * 2, none⟩) (HS.out g hg)).trans (hc (k * 2) _ (prs_at ps k hlt).1)
      have f2 := (HB.out.cell (p := ⟨g', o' + k * 2, none⟩) (HS'.out g' hg')).trans (hc' (k * 2) _ (prs_at ps k hlt).1)
      have f3 : wr.cell? ⟨g, o + k * 2 + 1, none⟩ = some (.string ps[k].2) := (HB.out.cell (p := ⟨g, o + k * 2 + 1, none⟩) (HS.out g hg)).trans (by rw [Nat.add_assoc]; exact hc (k * 2 + 1) _ (prs_at ps k hlt).2)
      have f4 : wr.cell? ⟨g', o' + k * 2 + 1, none⟩ = some (.string ps[k].2) := (HB.out.cell (p := ⟨g', o' + k * 2 + 1, none⟩) (HS'.out g' hg')).trans (by rw [Nat.add_assoc]; exact hc' (k * 2 + 1) _ (prs_at ps k hlt).2)
      clear hc hc'
      generalize ps[k].1 = y at *
      generalize ps[k].2 = z at *
      have q1 : (z.toList == z.toList) = true := beq_self_eq_true _
      have q2 : (y.toList == y.toList) = true := beq_self_eq_true _
      go_wp2_with fail
      go_quiet (fail)
      go_wp2_with fail
      go_roundw
      case rel => exact ⟨k + 1, by go_num, by omega, Lib.hid (below_drewN HB.out _)⟩
      case measure => simp [intOf]; omega
    · go_wp2_with fail
      go_ret
      exact ⟨rfl, HB.out⟩
end Go.Proofs.YtpoafhgbhnblmaaGreatDoor
namespace Go.Proofs.YtpoafhgbhnblmaaGreatDoor
open Go.RowKit Go.Pub
theorem AttR.up {w W : World} {S : Nat → Prop} {a : AttrL} {A1 A2 : Option Addr} (h : AttR w S a A1 A2) (hS : ∀ g, S g → g < w.heap.size) (hb : Below w.heap.size w W) : AttR W S a A1 A2 :=
  h.keep (fun g hg => hb.block g (hS g hg)) fun _ h => h
set_option maxRecDepth 100000 in
set_option maxHeartbeats 2000000 in
theorem r4_attrs (a : AttrL) (A1 A2 A1' A2' : Option Addr) (c1 c2 c1' c2' : Nat) (S S' : Nat → Prop) (w : World) (h : AttR w S a A1 A2) (h' : AttR w S' a A1' A2') (hS : ∀ g, S g → g < w.heap.size) (hS' : ∀ g, S' g → g < w.heap.size) :
    Calls Tryz.prog 24 #[.agg #[.string a.id, .slice A1 a.cl.length c1, .slice A2 a.pr.length c2], .agg #[.string a.id, .slice A1' a.cl.length c1', .slice A2' a.pr.length c2']] w fun e w' => e = .returned (.bool true) ∧ Below w.heap.size w w' := by
  have HT : Hid (∀ W, Below w.heap.size w W → Calls Tryz.prog 32 #[.slice A1 a.cl.length c1, .slice A1' a.cl.length c1'] W fun e w' => e = .returned (.bool true) ∧ Below W.heap.size W w') := Lib.hid fun W hb => r4_texts a.cl A1 A1' c1 c1' S S' W (h.up hS hb).cls (h'.up hS' hb).cls (fun g hg => Nat.lt_of_lt_of_le (hS g hg) hb.size) (fun g hg => Nat.lt_of_lt_of_le (hS' g hg) hb.size) h.c32
  have HP : Hid (∀ W, Below w.heap.size w W → Calls Tryz.prog 33 #[.slice A2 a.pr.length c2, .slice A2' a.pr.length c2'] W fun e w' => e = .returned (.bool true) ∧ Below W.heap.size W w') := Lib.hid fun W hb => r4_pairs a.pr A2 A2' c2 c2' S S' W (h.up hS hb).prs (h'.up hS' hb).prs (fun g hg => Nat.lt_of_lt_of_le (hS g hg) hb.size) (fun g hg => Nat.lt_of_lt_of_le (hS' g hg) hb.size) h.p32
  have q1 : (a.id.toList == a.id.toList) = true := beq_self_eq_true _
  have HB0 : Hid (∀ o o', Below w.heap.size w ((w.alloc o).alloc o')) := Lib.hid fun o o' => ((Below.refl _ w).alloc (Nat.le_refl _) _).alloc (by simp) _
  have HK : Hid (∀ (W : World) o o', Below ((w.alloc o).alloc o').heap.size ((w.alloc o).alloc o') W → Below w.heap.size w W) := Lib.hid fun W o o' hb => (HB0.out o o').trans (hb.mono (by simp; omega))
  have HC : Hid (∀ (W : World) (x : Array Value) (y : Array Value), Below ((w.alloc (.cells x 43)).alloc (.cells y 43)).heap.size ((w.alloc (.cells x 43)).alloc (.cells y 43)) W → W.cell? ⟨w.heap.size, 2, none⟩ = x[2]? ∧ W.cell? ⟨w.heap.size + 1, 2, none⟩ = y[2]?) := Lib.hid fun W x y hb => by
    have h1 := Blk.below (Blk.alloc (Blk.new w 43 x) (.cells y 43)) hb (by simp; omega)
    have h2 := Blk.below (Blk.new (w.alloc (.cells x 43)) 43 y) hb (by simp)
    simp at h2
    exact ⟨h1.cell 2, h2.cell 2⟩
  clear h h' hS hS'
  go_enter Tryz.func24, Tryz.ntmps24
  go_wp2_with fail
  ((with_reducible refine (HT.out _ (HB0.out _ _)).mono ?_))
  rintro e w1 ⟨rfl, b1⟩
  obtain ⟨k1, k2⟩ := HC.out _ _ _ b1
  have hk1 : w1.cell? ⟨w.heap.size, 2, none⟩ = some (.slice A2 a.pr.length c2) := k1
  have hk2 : w1.cell? ⟨w.heap.size + 1, 2, none⟩ = some (.slice A2' a.pr.length c2') := k2
  have HB1 := Lib.hid (HK.out _ _ _ b1)
  clear b1 k1 k2
  go_wp2_with fail
  ((with_reducible refine (HP.out _ HB1.out).mono ?_))
  rintro e w2 ⟨rfl, b2⟩
  go_wp2_with fail
  go_ret
  exact ⟨rfl, HB1.out.trans (b2.mono HB1.out.size)⟩

end Go.Proofs.YtpoafhgbhnblmaaGreatDoor
namespace Go.Proofs.YtpoafhgbhnblmaaGreatDoor
open Go.RowKit Go.Pub
theorem r4_line0 (w : World) : Calls Tryz.prog 25 #[.slice none 0 0, .slice none 0 0] w fun e w' => e = .returned (.bool true) ∧ Below w.heap.size w w' := by
  go_enter Tryz.func25, Tryz.ntmps25
  go_wp2_with fail
  go_loop [5] (fun v5 => v5 = .int .i64 0) (fun _ => 0)
  case atStart => rfl
  case round =>
    obtain rfl := hrel
    go_wp2_with fail
    go_ret
    exact ⟨rfl, Below.refl _ _⟩
theorem in_facts {W : World} {g : Nat} {s : ByteArray} (h : Blk W g 55 #[.int .i64 1, .string s, .string ⟨#[]⟩, .string ⟨#[]⟩, .string ⟨#[]⟩, .slice none 0 0, .slice none 0 0, .slice none 0 0, .slice none 0 0, .slice none 0 0]) : W.cell? ⟨g, 0, none⟩ = some (.int .i64 1) ∧ W.cell? ⟨g, 1, none⟩ = some (.string s) ∧ W.cell? ⟨g, 2, none⟩ = some (.string ⟨#[]⟩) ∧ W.cell? ⟨g, 3, none⟩ = some (.string ⟨#[]⟩) ∧ W.cell? ⟨g, 4, none⟩ = some (.string ⟨#[]⟩) ∧ W.cell? ⟨g, 5, none⟩ = some (.slice none 0 0) ∧ W.cell? ⟨g, 6, none⟩ = some (.slice none 0 0) ∧ W.cell? ⟨g, 7, none⟩ = some (.slice none 0 0) ∧ W.cell? ⟨g, 8, none⟩ = some (.slice none 0 0) ∧ W.cell? ⟨g, 9, none⟩ = some (.slice none 0 0) := ⟨h.cell 0, h.cell 1, h.cell 2, h.cell 3, h.cell 4, h.cell 5, h.cell 6, h.cell 7, h.cell 8, h.cell 9⟩
set_option maxRecDepth 100000 in
set_option maxHeartbeats 2000000 in
theorem r4_line1 (s : ByteArray) (A A' : Option Addr) (c c' : Nat) (S S' : Nat → Prop) (w : World) (h : ReadsS w S 10 A 1 (textC s)) (h' : ReadsS w S' 10 A' 1 (textC s)) (hS : ∀ g, S g → g < w.heap.size) (hS' : ∀ g, S' g → g < w.heap.size) :
    Calls Tryz.prog 25 #[.slice A 1 c, .slice A' 1 c'] w fun e w' => e = .returned (.bool true) ∧ Below w.heap.size w w' := by
  obtain ⟨g, o, rfl, hg, hc⟩ := h.row (by decide) (by decide)
  obtain ⟨g', o', rfl, hg', hc'⟩ := h'.row (by decide) (by decide)
  have hgl := hS g hg
  have hgl' := hS' g' hg'
  have HF : Hid (∀ W, Below w.heap.size w W → ∀ j u, (textC s)[j]? = some u → W.cell? ⟨g, o + j, none⟩ = some u ∧ W.cell? ⟨g', o' + j, none⟩ = some u) := Lib.hid fun W hb j u hu => ⟨(hb.cell (p := ⟨g, o + j, none⟩) hgl).trans (hc j u hu), (hb.cell (p := ⟨g', o' + j, none⟩) hgl').trans (hc' j u hu)⟩
  clear h h' hc hc' hS hS' hg hg'
  go_enter Tryz.func25, Tryz.ntmps25
  go_wp2_with fail
  go_loopw [5] (fun v5 wr => ∃ k : Nat, v5 = .int .i64 k ∧ k ≤ 1 ∧ Hid (Below w.heap.size w wr)) (fun v5 _ => 1 - (intOf v5).toNat)
  case atStart => exact ⟨0, rfl, by omega, Lib.hid (Below.refl _ _)⟩
  case round =>
    obtain ⟨k, rfl, hk, HB⟩ := hrel
    by_cases hlt : k < 1
    · obtain rfl : k = 0 := by omega
      have HK1 : Hid (∀ x, Below wr.heap.size wr (wr.alloc x).drew) := Lib.hid fun x => ((Below.refl _ wr).alloc (Nat.le_refl _) _).drew
      have HK2 : Hid (∀ x y, Below wr.heap.size wr ((wr.alloc x).alloc y).drew) := Lib.hid fun x y => (((Below.refl _ wr).alloc (Nat.le_refl _) _).alloc (by simp) _).drew
      have HN1 : Hid (∀ (x : Array Value) (y : Obj), Blk ((wr.alloc (.cells x 55)).alloc y).drew wr.heap.size 55 x) := Lib.hid fun x y => Blk.alloc (Blk.new wr _ x) y
      have HN2 : Hid (∀ (x : Obj) (y : Array Value), Blk ((wr.alloc x).alloc (.cells y 55)).drew (wr.heap.size + 1) 55 y) := Lib.hid fun x y => by
        have h := Blk.new (wr.alloc x) 55 y
        rw [heap_alloc_size] at h
        exact h
      have HBr := Lib.hid (Below.refl wr.heap.size wr)
      go_upto_region 6 with fail
      go_cut [6, 7] from 20 to 27 (fun s6 s7 wx => ∃ g6 g7 : Nat, s6 = .pointer (some ⟨g6, 0, none⟩) ∧ s7 = .pointer (some ⟨g7, 0, none⟩) ∧ Blk wx g6 55 #[.int .i64 1, .string s, .string ⟨#[]⟩, .string ⟨#[]⟩, .string ⟨#[]⟩, .slice none 0 0, .slice none 0 0, .slice none 0 0, .slice none 0 0, .slice none 0 0] ∧ Blk wx g7 55 #[.int .i64 1, .string s, .string ⟨#[]⟩, .string ⟨#[]⟩, .string ⟨#[]⟩, .slice none 0 0, .slice none 0 0, .slice none 0 0, .slice none 0 0, .slice none 0 0] ∧ Below w.heap.size w wx)
      case first =>
        refine wp_region_held_drew (S := fun W' => Below wr.heap.size wr W') (by kernel_rfl) HBr.out.drew (fun hHeld => ?_)
        refine wpAnyH_take (i := 0) (v := .slice (some ⟨g, o, none⟩) 1 c) rfl (by kernel_rfl) (by kernel_rfl) (by kernel_rfl) (fun _ _ _ h => h) (Or.inl ⟨by kernel_rfl, fun W' hSw => ?_⟩) hHeld ?_
        · go_simp
        try simp only [Act.put, List.setIfInBounds_toArray, List.set_cons_zero, List.set_cons_succ]
        refine wpAnyH_take (i := 1) (v := .int .i64 0) rfl (by kernel_rfl) (by kernel_rfl) (by kernel_rfl) (fun _ _ _ h => h) (Or.inl ⟨by kernel_rfl, fun W' hSw => ?_⟩) hHeld ?_
        · go_simp
        try simp only [Act.put, List.setIfInBounds_toArray, List.set_cons_zero, List.set_cons_succ]
        refine wpAnyH_take (i := 2) (v := .pointer (some ⟨g, o, none⟩)) rfl (by kernel_rfl) (by kernel_rfl) (by kernel_rfl) (fun _ _ _ h => h) (Or.inl ⟨by kernel_rfl, fun W' hSw => ?_⟩) hHeld ?_
        · go_simp
        try simp only [Act.put, List.setIfInBounds_toArray, List.set_cons_zero, List.set_cons_succ]
        refine wpAnyH_take (i := 3) (v := .agg #[.int .i64 1, .string s, .string ⟨#[]⟩, .string ⟨#[]⟩, .string ⟨#[]⟩, .slice none 0 0, .slice none 0 0, .slice none 0 0, .slice none 0 0, .slice none 0 0]) rfl (by kernel_rfl) (by kernel_rfl) (by kernel_rfl) (fun _ _ _ h => h) (Or.inl ⟨by kernel_rfl, fun W' hSw => ?_⟩) hHeld ?_
        · have e0 : W'.cell? ⟨g, o, none⟩ = _ := (HF.out W' (HB.out.trans (hSw.mono HB.out.size)) 0 _ rfl).1
          have e1 := (HF.out W' (HB.out.trans (hSw.mono HB.out.size)) 1 _ rfl).1
          have e2 := (HF.out W' (HB.out.trans (hSw.mono HB.out.size)) 2 _ rfl).1
          have e3 := (HF.out W' (HB.out.trans (hSw.mono HB.out.size)) 3 _ rfl).1
          have e4 := (HF.out W' (HB.out.trans (hSw.mono HB.out.size)) 4 _ rfl).1
          have e5 := (HF.out W' (HB.out.trans (hSw.mono HB.out.size)) 5 _ rfl).1
          have e6 := (HF.out W' (HB.out.trans (hSw.mono HB.out.size)) 6 _ rfl).1
          have e7 := (HF.out W' (HB.out.trans (hSw.mono HB.out.size)) 7 _ rfl).1
          have e8 := (HF.out W' (HB.out.trans (hSw.mono HB.out.size)) 8 _ rfl).1
          have e9 := (HF.out W' (HB.out.trans (hSw.mono HB.out.size)) 9 _ rfl).1
          go_simp
        try simp only [Act.put, List.setIfInBounds_toArray, List.set_cons_zero, List.set_cons_succ]
        refine wpAnyH_take (i := 4) (v := .slice (some ⟨g', o', none⟩) 1 c') rfl (by kernel_rfl) (by kernel_rfl) (by kernel_rfl) (fun _ _ _ h => h) (Or.inl ⟨by kernel_rfl, fun W' hSw => ?_⟩) hHeld ?_
        · go_simp
        try simp only [Act.put, List.setIfInBounds_toArray, List.set_cons_zero, List.set_cons_succ]
        refine wpAnyH_take (i := 5) (v := .int .i64 0) rfl (by kernel_rfl) (by kernel_rfl) (by kernel_rfl) (fun _ _ _ h => h) (Or.inl ⟨by kernel_rfl, fun W' hSw => ?_⟩) hHeld ?_
        · go_simp
        try simp only [Act.put, List.setIfInBounds_toArray, List.set_cons_zero, List.set_cons_succ]
        refine wpAnyH_take (i := 6) (v := .pointer (some ⟨g', o', none⟩)) rfl (by kernel_rfl) (by kernel_rfl) (by kernel_rfl) (fun _ _ _ h => h) (Or.inl ⟨by kernel_rfl, fun W' hSw => ?_⟩) hHeld ?_
        · go_simp
        try simp only [Act.put, List.setIfInBounds_toArray, List.set_cons_zero, List.set_cons_succ]
        refine wpAnyH_take (i := 7) (v := .agg #[.int .i64 1, .string s, .string ⟨#[]⟩, .string ⟨#[]⟩, .string ⟨#[]⟩, .slice none 0 0, .slice none 0 0, .slice none 0 0, .slice none 0 0, .slice none 0 0]) rfl (by kernel_rfl) (by kernel_rfl) (by kernel_rfl) (fun _ _ _ h => h) (Or.inl ⟨by kernel_rfl, fun W' hSw => ?_⟩) hHeld ?_
        · have e0 : W'.cell? ⟨g', o', none⟩ = _ := (HF.out W' (HB.out.trans (hSw.mono HB.out.size)) 0 _ rfl).2
          have e1 := (HF.out W' (HB.out.trans (hSw.mono HB.out.size)) 1 _ rfl).2
          have e2 := (HF.out W' (HB.out.trans (hSw.mono HB.out.size)) 2 _ rfl).2
          have e3 := (HF.out W' (HB.out.trans (hSw.mono HB.out.size)) 3 _ rfl).2
          have e4 := (HF.out W' (HB.out.trans (hSw.mono HB.out.size)) 4 _ rfl).2
          have e5 := (HF.out W' (HB.out.trans (hSw.mono HB.out.size)) 5 _ rfl).2
          have e6 := (HF.out W' (HB.out.trans (hSw.mono HB.out.size)) 6 _ rfl).2
          have e7 := (HF.out W' (HB.out.trans (hSw.mono HB.out.size)) 7 _ rfl).2
          have e8 := (HF.out W' (HB.out.trans (hSw.mono HB.out.size)) 8 _ rfl).2
          have e9 := (HF.out W' (HB.out.trans (hSw.mono HB.out.size)) 9 _ rfl).2
          go_simp
        try simp only [Act.put, List.setIfInBounds_toArray, List.set_cons_zero, List.set_cons_succ]
        refine wpAnyH_ready (rs := [8, 9]) (by kernel_rfl) (by simp) (AllReadyH.cons rfl (fun K hK => ?_) (AllReadyH.cons rfl (fun K hK => ?_) AllReadyH.nil))
        · go_simp
          refine hK.out _ _ (HK1.out _) (fun hHeld => ?_)
          clear hK K
          try simp only [Act.put, List.setIfInBounds_toArray, List.set_cons_zero, List.set_cons_succ]
          refine wpAnyH_ready (rs := [9]) (by kernel_rfl) (by simp) (AllReadyH.cons rfl (fun K hK => ?_) AllReadyH.nil)
          go_simp
          refine hK.out _ _ (HK2.out _ _) (fun hHeld => ?_)
          clear hK K
          try simp only [Act.put, List.setIfInBounds_toArray, List.set_cons_zero, List.set_cons_succ]
          refine wpAnyH_ready (rs := [10]) (by kernel_rfl) (by simp) (AllReadyH.cons rfl (fun K hK => ?_) AllReadyH.nil)
          go_simp
          refine hK.out _ _ (HK2.out _ _) (fun hHeld => ?_)
          clear hK K
          try simp only [Act.put, List.setIfInBounds_toArray, List.set_cons_zero, List.set_cons_succ]
          refine wpAnyH_ready (rs := [11]) (by kernel_rfl) (by simp) (AllReadyH.cons rfl (fun K hK => ?_) AllReadyH.nil)
          go_simp
          refine hK.out _ _ (HK2.out _ _) (fun hHeld => ?_)
          clear hK K
          try simp only [Act.put, List.setIfInBounds_toArray, List.set_cons_zero, List.set_cons_succ]
          refine wpAnyH_done (by kernel_rfl) ?_ _
          go_wp2_with fail
          go_meet
          exact ⟨wr.heap.size, wr.heap.size + 1, rfl, rfl, HN1.out _ _, HN2.out _ _, HB.out.trans ((HK2.out _ _).mono HB.out.size)⟩
        · go_simp
          refine hK.out _ _ (HK1.out _) (fun hHeld => ?_)
          clear hK K
          try simp only [Act.put, List.setIfInBounds_toArray, List.set_cons_zero, List.set_cons_succ]
          refine wpAnyH_ready (rs := [8]) (by kernel_rfl) (by simp) (AllReadyH.cons rfl (fun K hK => ?_) AllReadyH.nil)
          go_simp
          refine hK.out _ _ (HK2.out _ _) (fun hHeld => ?_)
          clear hK K
          try simp only [Act.put, List.setIfInBounds_toArray, List.set_cons_zero, List.set_cons_succ]
          refine wpAnyH_ready (rs := [10]) (by kernel_rfl) (by simp) (AllReadyH.cons rfl (fun K hK => ?_) AllReadyH.nil)
          go_simp
          refine hK.out _ _ (HK2.out _ _) (fun hHeld => ?_)
          clear hK K
          try simp only [Act.put, List.setIfInBounds_toArray, List.set_cons_zero, List.set_cons_succ]
          refine wpAnyH_ready (rs := [11]) (by kernel_rfl) (by simp) (AllReadyH.cons rfl (fun K hK => ?_) AllReadyH.nil)
          go_simp
          refine hK.out _ _ (HK2.out _ _) (fun hHeld => ?_)
          clear hK K
          try simp only [Act.put, List.setIfInBounds_toArray, List.set_cons_zero, List.set_cons_succ]
          refine wpAnyH_done (by kernel_rfl) ?_ _
          go_wp2_with fail
          go_meet
          exact ⟨wr.heap.size + 1, wr.heap.size, rfl, rfl, HN2.out _ _, HN1.out _ _, HB.out.trans ((HK2.out _ _).mono HB.out.size)⟩
      case rest =>
        obtain ⟨g6, g7, rfl, rfl, h6, h7, hbw⟩ := hcut
        have HBw := Lib.hid hbw
        have hl6 := h6.lt
        have hl7 := h7.lt
        have HI : Hid (∀ W, Below wc.heap.size wc W → Blk W g6 55 #[.int .i64 1, .string s, .string ⟨#[]⟩, .string ⟨#[]⟩, .string ⟨#[]⟩, .slice none 0 0, .slice none 0 0, .slice none 0 0, .slice none 0 0, .slice none 0 0] ∧ Blk W g7 55 #[.int .i64 1, .string s, .string ⟨#[]⟩, .string ⟨#[]⟩, .string ⟨#[]⟩, .slice none 0 0, .slice none 0 0, .slice none 0 0, .slice none 0 0, .slice none 0 0]) := Lib.hid fun W h => ⟨h6.below h hl6, h7.below h hl7⟩
        have HAt : Hid (∀ W, Calls Tryz.prog 24 #[.agg #[.string ⟨#[]⟩, .slice none 0 0, .slice none 0 0], .agg #[.string ⟨#[]⟩, .slice none 0 0, .slice none 0 0]] W fun e w' => e = .returned (.bool true) ∧ Below W.heap.size W w') := Lib.hid fun W => r4_attrs emptyA none none none none 0 0 0 0 (fun _ => False) (fun _ => False) W (AttR.empty _ _ _ _) (AttR.empty _ _ _ _) (fun _ h => h.elim) (fun _ h => h.elim)
        have HTx : Hid (∀ W, Calls Tryz.prog 32 #[.slice none 0 0, .slice none 0 0] W fun e w' => e = .returned (.bool true) ∧ Below W.heap.size W w') := Lib.hid fun W => r4_texts [] none none 0 0 (fun _ => False) (fun _ => False) W ReadsS.none_ ReadsS.none_ (fun _ h => h.elim) (fun _ h => h.elim) (by decide)
        have HL0 := Lib.hid r4_line0
        have q1 : (s.toList == s.toList) = true := beq_self_eq_true _
        obtain ⟨a0, a1, a2, a3, a4, a5, a6, a7, a8, a9⟩ := in_facts h6
        obtain ⟨b0, b1, b2, b3, b4, b5, b6, b7, b8, b9⟩ := in_facts h7
        clear h6 h7 hbw
        go_wp2_with fail
        ((with_reducible refine (HAt.out _).mono ?_))
        rintro e w5 ⟨rfl, c5⟩
        have HW5 := Lib.hid c5
        obtain ⟨a0, a1, a2, a3, a4, a5, a6, a7, a8, a9⟩ := in_facts (HI.out _ HW5.out).1
        obtain ⟨b0, b1, b2, b3, b4, b5, b6, b7, b8, b9⟩ := in_facts (HI.out _ HW5.out).2
        clear c5
        go_wp2_with fail
        ((with_reducible refine (HTx.out _).mono ?_))
        rintro e w6 ⟨rfl, c6⟩
        have HW6 := Lib.hid (HW5.out.trans (c6.mono HW5.out.size))
        obtain ⟨a0, a1, a2, a3, a4, a5, a6, a7, a8, a9⟩ := in_facts (HI.out _ HW6.out).1
        obtain ⟨b0, b1, b2, b3, b4, b5, b6, b7, b8, b9⟩ := in_facts (HI.out _ HW6.out).2
        clear c6
        go_wp2_with fail
        ((with_reducible refine (HL0.out _).mono ?_))
        rintro e w7 ⟨rfl, c7⟩
        have HW7 := Lib.hid (HW6.out.trans (c7.mono HW6.out.size))
        obtain ⟨a0, a1, a2, a3, a4, a5, a6, a7, a8, a9⟩ := in_facts (HI.out _ HW7.out).1
        obtain ⟨b0, b1, b2, b3, b4, b5, b6, b7, b8, b9⟩ := in_facts (HI.out _ HW7.out).2
        clear c7
        go_wp2_with fail
        go_loop [8] (fun v8 => v8 = .int .i64 0) (fun _ => 0)
        case atStart => rfl
        case round =>
          obtain rfl := hrel
          go_wp2_with fail
          go_roundw
          case rel => exact ⟨1, rfl, Nat.le_refl _, Lib.hid (HBw.out.trans (HW7.out.mono HBw.out.size))⟩
          case measure => simp [intOf]
    · obtain rfl : k = 1 := by omega
      go_wp2_with fail
      go_ret
      exact ⟨rfl, HB.out⟩

end Go.Proofs.YtpoafhgbhnblmaaGreatDoor
namespace Go.Proofs.YtpoafhgbhnblmaaGreatDoor
open Go.RowKit Go.Pub
mutual
def depthB : BkT → Nat
  | .mk _ _ _ _ _ _ _ _ kids => 1 + depthL kids
def depthL : List BkT → Nat
  | [] => 0
  | b :: bs => max (depthB b) (depthL bs)
end
theorem depthL_at : ∀ (bs : List BkT) (k : Nat) (h : k < bs.length), depthB bs[k] ≤ depthL bs
  | b :: bs, 0, h => by show depthB b ≤ max (depthB b) (depthL bs); omega
  | b :: bs, k + 1, h => by
    have := depthL_at bs k (Nat.lt_of_succ_lt_succ h)
    show depthB (bs[k]'(Nat.lt_of_succ_lt_succ h)) ≤ max (depthB b) (depthL bs)
    omega
theorem r4_line (s : ByteArray) (v v' : Value) (S S' : Nat → Prop) (w : World) (h : SrcV w S v s) (h' : SrcV w S' v' s) (hS : ∀ g, S g → g < w.heap.size) (hS' : ∀ g, S' g → g < w.heap.size) :
    Calls Tryz.prog 25 #[v, v'] w fun e w' => e = .returned (.bool true) ∧ Below w.heap.size w w' := by
  unfold SrcV at h h'
  by_cases hz : s.size = 0
  · rw [if_pos hz] at h h'
    subst h h'
    exact r4_line0 w
  · rw [if_neg hz] at h h'
    obtain ⟨A, c, rfl, h⟩ := h
    obtain ⟨A', c', rfl, h'⟩ := h'
    exact r4_line1 s A A' c c' S S' w h h' hS hS'
def SameP (n : Nat) : Prop := ∀ (bs : List BkT), depthL bs ≤ n → ∀ (A A' : Option Addr) (c c' : Nat) (S S' : Nat → Prop) (w : World), KidsV w S (.slice A bs.length c) bs → KidsV w S' (.slice A' bs.length c') bs → (∀ g, S g → g < w.heap.size) → (∀ g, S' g → g < w.heap.size) →
    Calls Tryz.prog 14 #[.slice A bs.length c, .slice A' bs.length c'] w fun e w' => e = .returned (.bool true) ∧ Below w.heap.size w w'
set_option maxRecDepth 100000 in
set_option maxHeartbeats 2000000 in
theorem r4_step (n : Nat) (ih : ∀ m, m < n → SameP m) : SameP n := by
  intro bs hd A A' c c' S S' w h h' hS hS'
  have hlen : bs.length ≤ maxLen := by obtain ⟨A0, c0, vs, e, h1, h2⟩ := h; exact h2.1.2
  unfold maxLen at hlen
  have HH := Lib.hid h
  have HH' := Lib.hid h'
  have HS := Lib.hid hS
  have HS' := Lib.hid hS'
  have HD := Lib.hid hd
  have HIH := Lib.hid ih
  clear h h' hS hS' hd ih
  go_enter Tryz.func14, Tryz.ntmps14
  go_wp2_with fail
  go_loopw [5] (fun v5 wr => ∃ k : Nat, v5 = .int .i64 k ∧ k ≤ bs.length ∧ Hid (Below w.heap.size w wr)) (fun v5 _ => bs.length - (intOf v5).toNat)
  case atStart => exact ⟨0, rfl, Nat.zero_le _, Lib.hid (Below.refl _ _)⟩
  case round =>
    obtain ⟨k, rfl, hk, HB⟩ := hrel
    by_cases hlt : k < bs.length
    · have hdk := depthL_at bs k hlt
      obtain ⟨g, o, c0, e0, hg, hc⟩ := HH.out.get (by omega)
      obtain ⟨g', o', c0', e0', hg', hc'⟩ := HH'.out.get (by omega)
      obtain rfl : A = some ⟨g, o, none⟩ := by injection e0
      obtain rfl : A' = some ⟨g', o', none⟩ := by injection e0'
      clear e0 e0'
      obtain ⟨v, hv, hcv⟩ := hc k hlt
      obtain ⟨v', hv', hcv'⟩ := hc' k hlt
      have hgl := HS.out g hg
      have hgl' := HS'.out g' hg'
      have HF1 : Hid (∀ W, Below w.heap.size w W → ∀ i u, i < 11 → v[i]? = some u → W.cell? ⟨g, o + (k * 11 + i), none⟩ = some u) := Lib.hid fun W hb i u hi hu => (hb.cell (p := ⟨g, o + (k * 11 + i), none⟩) hgl).trans ((hcv i hi).trans hu)
      have HF2 : Hid (∀ W, Below w.heap.size w W → ∀ i u, i < 11 → v'[i]? = some u → W.cell? ⟨g', o' + (k * 11 + i), none⟩ = some u) := Lib.hid fun W hb i u hi hu => (hb.cell (p := ⟨g', o' + (k * 11 + i), none⟩) hgl').trans ((hcv' i hi).trans hu)
      clear hc hc' hcv hcv' hg hg'
      generalize bs[k] = b at *
      cases hv with
      | mk kind level info text dest title att line kids A1 A2 A4 c1 c2 c4 vL vs ha hl hr hk4 =>
        cases hv' with
        | mk _ _ _ _ _ _ _ _ _ B1 B2 B4 d1 d2 d4 vL' vs' ha' hl' hr' hk4' =>
          obtain ⟨AL, nL, cL, rfl⟩ := srcV_form hl
          obtain ⟨BL, mL, eL, rfl⟩ := srcV_form hl'
          have HAt : Hid (∀ W, Below w.heap.size w W → Calls Tryz.prog 24 #[.agg #[.string att.id, .slice A1 att.cl.length c1, .slice A2 att.pr.length c2], .agg #[.string att.id, .slice B1 att.cl.length d1, .slice B2 att.pr.length d2]] W fun e w' => e = .returned (.bool true) ∧ Below W.heap.size W w') := Lib.hid fun W hb => r4_attrs att A1 A2 B1 B2 c1 c2 d1 d2 S S' W (ha.up HS.out hb) (ha'.up HS'.out hb) (fun g hg => Nat.lt_of_lt_of_le (HS.out g hg) hb.size) (fun g hg => Nat.lt_of_lt_of_le (HS'.out g hg) hb.size)
          have HLi : Hid (∀ W, Below w.heap.size w W → Calls Tryz.prog 25 #[.slice AL nL cL, .slice BL mL eL] W fun e w' => e = .returned (.bool true) ∧ Below W.heap.size W w') := Lib.hid fun W hb => r4_line line _ _ S S' W (hl.keep (fun g hg => hb.block g (HS.out g hg)) fun _ h => h) (hl'.keep (fun g hg => hb.block g (HS'.out g hg)) fun _ h => h) (fun g hg => Nat.lt_of_lt_of_le (HS.out g hg) hb.size) (fun g hg => Nat.lt_of_lt_of_le (HS'.out g hg) hb.size)
          have hdd : depthL kids < n := by
            have h1 : 1 + depthL kids ≤ depthL bs := hdk
            have h2 := HD.out
            omega
          have HRe : Hid (∀ W, Below w.heap.size w W → Calls Tryz.prog 14 #[.slice A4 kids.length c4, .slice B4 kids.length d4] W fun e w' => e = .returned (.bool true) ∧ Below W.heap.size W w') := Lib.hid fun W hb => HIH.out (depthL kids) hdd kids (Nat.le_refl _) A4 B4 c4 d4 S S' W (KidsV.keep ⟨A4, c4, vs, rfl, hr, hk4⟩ (fun g hg => hb.block g (HS.out g hg)) fun _ h => h) (KidsV.keep ⟨B4, d4, vs', rfl, hr', hk4'⟩ (fun g hg => hb.block g (HS'.out g hg)) fun _ h => h) (fun g hg => Nat.lt_of_lt_of_le (HS.out g hg) hb.size) (fun g hg => Nat.lt_of_lt_of_le (HS'.out g hg) hb.size)
          have q1 : (info.toList == info.toList) = true := beq_self_eq_true _
          have q2 : (text.toList == text.toList) = true := beq_self_eq_true _
          have q3 : (dest.toList == dest.toList) = true := beq_self_eq_true _
          have q4 : (title.toList == title.toList) = true := beq_self_eq_true _
          clear ha ha' hl hl' hr hr' hk4 hk4' HH HH' HIH HD hdk hdd
          have HK1 : Hid (∀ x, Below wr.heap.size wr (wr.alloc x).drew) := Lib.hid fun x => ((Below.refl _ wr).alloc (Nat.le_refl _) _).drew
          have HK2 : Hid (∀ x y, Below wr.heap.size wr ((wr.alloc x).alloc y).drew) := Lib.hid fun x y => (((Below.refl _ wr).alloc (Nat.le_refl _) _).alloc (by simp) _).drew
          have HN1 : Hid (∀ (x : Array Value) (y : Obj), Blk ((wr.alloc (.cells x 46)).alloc y).drew wr.heap.size 46 x) := Lib.hid fun x y => Blk.alloc (Blk.new wr _ x) y
          have HN2 : Hid (∀ (x : Obj) (y : Array Value), Blk ((wr.alloc x).alloc (.cells y 46)).drew (wr.heap.size + 1) 46 y) := Lib.hid fun x y => by
            have h := Blk.new (wr.alloc x) 46 y
            rw [heap_alloc_size] at h
            exact h
          have HBr := Lib.hid (Below.refl wr.heap.size wr)
          go_upto_region 6 with fail
          go_cut [6, 7] from 19 to 26 (fun s6 s7 wx => ∃ g6 g7 : Nat, s6 = .pointer (some ⟨g6, 0, none⟩) ∧ s7 = .pointer (some ⟨g7, 0, none⟩) ∧ Blk wx g6 46 #[.int .i64 kind, .int .i64 level, .string info, .string text, .string dest, .string title, .string att.id, .slice A1 att.cl.length c1, .slice A2 att.pr.length c2, .slice AL nL cL, .slice A4 kids.length c4] ∧ Blk wx g7 46 #[.int .i64 kind, .int .i64 level, .string info, .string text, .string dest, .string title, .string att.id, .slice B1 att.cl.length d1, .slice B2 att.pr.length d2, .slice BL mL eL, .slice B4 kids.length d4] ∧ Below w.heap.size w wx)
          case first =>
            refine wp_region_held_drew (S := fun W' => Below wr.heap.size wr W') (by kernel_rfl) HBr.out.drew (fun hHeld => ?_)
            refine wpAnyH_take (i := 0) (v := .slice (some ⟨g, o, none⟩) bs.length c) rfl (by kernel_rfl) (by kernel_rfl) (by kernel_rfl) (fun _ _ _ h => h) (Or.inl ⟨by kernel_rfl, fun W' hSw => ?_⟩) hHeld ?_
            · go_simp
            try simp only [Act.put, List.setIfInBounds_toArray, List.set_cons_zero, List.set_cons_succ]
            refine wpAnyH_take (i := 1) (v := .int .i64 k) rfl (by kernel_rfl) (by kernel_rfl) (by kernel_rfl) (fun _ _ _ h => h) (Or.inl ⟨by kernel_rfl, fun W' hSw => ?_⟩) hHeld ?_
            · go_simp
            try simp only [Act.put, List.setIfInBounds_toArray, List.set_cons_zero, List.set_cons_succ]
            refine wpAnyH_take (i := 2) (v := .pointer (some ⟨g, o + k * 11, none⟩)) rfl (by kernel_rfl) (by kernel_rfl) (by kernel_rfl) (fun _ _ _ h => h) (Or.inl ⟨by kernel_rfl, fun W' hSw => ?_⟩) hHeld ?_
            · go_simp
            try simp only [Act.put, List.setIfInBounds_toArray, List.set_cons_zero, List.set_cons_succ]
            refine wpAnyH_take (i := 3) (v := .agg #[.int .i64 kind, .int .i64 level, .string info, .string text, .string dest, .string title, .string att.id, .slice A1 att.cl.length c1, .slice A2 att.pr.length c2, .slice AL nL cL, .slice A4 kids.length c4]) rfl (by kernel_rfl) (by kernel_rfl) (by kernel_rfl) (fun _ _ _ h => h) (Or.inl ⟨by kernel_rfl, fun W' hSw => ?_⟩) hHeld ?_
            · have hbW : Below w.heap.size w W' := HB.out.trans (hSw.mono HB.out.size)
              have e0 : W'.cell? ⟨g, o + k * 11, none⟩ = some (.int .i64 kind) := HF1.out W' hbW 0 _ (by decide) rfl
              have e1 : W'.cell? ⟨g, o + k * 11 + 1, none⟩ = some (.int .i64 level) := by rw [Nat.add_assoc]; exact HF1.out W' hbW 1 _ (by decide) rfl
              have e2 : W'.cell? ⟨g, o + k * 11 + 2, none⟩ = some (.string info) := by rw [Nat.add_assoc]; exact HF1.out W' hbW 2 _ (by decide) rfl
              have e3 : W'.cell? ⟨g, o + k * 11 + 3, none⟩ = some (.string text) := by rw [Nat.add_assoc]; exact HF1.out W' hbW 3 _ (by decide) rfl
              have e4 : W'.cell? ⟨g, o + k * 11 + 4, none⟩ = some (.string dest) := by rw [Nat.add_assoc]; exact HF1.out W' hbW 4 _ (by decide) rfl
              have e5 : W'.cell? ⟨g, o + k * 11 + 5, none⟩ = some (.string title) := by rw [Nat.add_assoc]; exact HF1.out W' hbW 5 _ (by decide) rfl
              have e6 : W'.cell? ⟨g, o + k * 11 + 6, none⟩ = some (.string att.id) := by rw [Nat.add_assoc]; exact HF1.out W' hbW 6 _ (by decide) rfl
              have e7 : W'.cell? ⟨g, o + k * 11 + 7, none⟩ = some (.slice A1 att.cl.length c1) := by rw [Nat.add_assoc]; exact HF1.out W' hbW 7 _ (by decide) rfl
              have e8 : W'.cell? ⟨g, o + k * 11 + 8, none⟩ = some (.slice A2 att.pr.length c2) := by rw [Nat.add_assoc]; exact HF1.out W' hbW 8 _ (by decide) rfl
              have e9 : W'.cell? ⟨g, o + k * 11 + 9, none⟩ = some (.slice AL nL cL) := by rw [Nat.add_assoc]; exact HF1.out W' hbW 9 _ (by decide) rfl
              have e10 : W'.cell? ⟨g, o + k * 11 + 10, none⟩ = some (.slice A4 kids.length c4) := by rw [Nat.add_assoc]; exact HF1.out W' hbW 10 _ (by decide) rfl
              go_simp
            try simp only [Act.put, List.setIfInBounds_toArray, List.set_cons_zero, List.set_cons_succ]
            refine wpAnyH_take (i := 4) (v := .slice (some ⟨g', o', none⟩) bs.length c') rfl (by kernel_rfl) (by kernel_rfl) (by kernel_rfl) (fun _ _ _ h => h) (Or.inl ⟨by kernel_rfl, fun W' hSw => ?_⟩) hHeld ?_
            · go_simp
            try simp only [Act.put, List.setIfInBounds_toArray, List.set_cons_zero, List.set_cons_succ]
            refine wpAnyH_take (i := 5) (v := .int .i64 k) rfl (by kernel_rfl) (by kernel_rfl) (by kernel_rfl) (fun _ _ _ h => h) (Or.inl ⟨by kernel_rfl, fun W' hSw => ?_⟩) hHeld ?_
            · go_simp
            try simp only [Act.put, List.setIfInBounds_toArray, List.set_cons_zero, List.set_cons_succ]
            refine wpAnyH_take (i := 6) (v := .pointer (some ⟨g', o' + k * 11, none⟩)) rfl (by kernel_rfl) (by kernel_rfl) (by kernel_rfl) (fun _ _ _ h => h) (Or.inl ⟨by kernel_rfl, fun W' hSw => ?_⟩) hHeld ?_
            · go_simp
            try simp only [Act.put, List.setIfInBounds_toArray, List.set_cons_zero, List.set_cons_succ]
            refine wpAnyH_take (i := 7) (v := .agg #[.int .i64 kind, .int .i64 level, .string info, .string text, .string dest, .string title, .string att.id, .slice B1 att.cl.length d1, .slice B2 att.pr.length d2, .slice BL mL eL, .slice B4 kids.length d4]) rfl (by kernel_rfl) (by kernel_rfl) (by kernel_rfl) (fun _ _ _ h => h) (Or.inl ⟨by kernel_rfl, fun W' hSw => ?_⟩) hHeld ?_
            · have hbW : Below w.heap.size w W' := HB.out.trans (hSw.mono HB.out.size)
              have e0 : W'.cell? ⟨g', o' + k * 11, none⟩ = some (.int .i64 kind) := HF2.out W' hbW 0 _ (by decide) rfl
              have e1 : W'.cell? ⟨g', o' + k * 11 + 1, none⟩ = some (.int .i64 level) := by rw [Nat.add_assoc]; exact HF2.out W' hbW 1 _ (by decide) rfl
              have e2 : W'.cell? ⟨g', o' + k * 11 + 2, none⟩ = some (.string info) := by rw [Nat.add_assoc]; exact HF2.out W' hbW 2 _ (by decide) rfl
              have e3 : W'.cell? ⟨g', o' + k * 11 + 3, none⟩ = some (.string text) := by rw [Nat.add_assoc]; exact HF2.out W' hbW 3 _ (by decide) rfl
              have e4 : W'.cell? ⟨g', o' + k * 11 + 4, none⟩ = some (.string dest) := by rw [Nat.add_assoc]; exact HF2.out W' hbW 4 _ (by decide) rfl
              have e5 : W'.cell? ⟨g', o' + k * 11 + 5, none⟩ = some (.string title) := by rw [Nat.add_assoc]; exact HF2.out W' hbW 5 _ (by decide) rfl
              have e6 : W'.cell? ⟨g', o' + k * 11 + 6, none⟩ = some (.string att.id) := by rw [Nat.add_assoc]; exact HF2.out W' hbW 6 _ (by decide) rfl
              have e7 : W'.cell? ⟨g', o' + k * 11 + 7, none⟩ = some (.slice B1 att.cl.length d1) := by rw [Nat.add_assoc]; exact HF2.out W' hbW 7 _ (by decide) rfl
              have e8 : W'.cell? ⟨g', o' + k * 11 + 8, none⟩ = some (.slice B2 att.pr.length d2) := by rw [Nat.add_assoc]; exact HF2.out W' hbW 8 _ (by decide) rfl
              have e9 : W'.cell? ⟨g', o' + k * 11 + 9, none⟩ = some (.slice BL mL eL) := by rw [Nat.add_assoc]; exact HF2.out W' hbW 9 _ (by decide) rfl
              have e10 : W'.cell? ⟨g', o' + k * 11 + 10, none⟩ = some (.slice B4 kids.length d4) := by rw [Nat.add_assoc]; exact HF2.out W' hbW 10 _ (by decide) rfl
              go_simp
            try simp only [Act.put, List.setIfInBounds_toArray, List.set_cons_zero, List.set_cons_succ]
            refine wpAnyH_ready (rs := [8, 9]) (by kernel_rfl) (by simp) (AllReadyH.cons rfl (fun K hK => ?_) (AllReadyH.cons rfl (fun K hK => ?_) AllReadyH.nil))
            · go_simp
              refine hK.out _ _ (HK1.out _) (fun hHeld => ?_)
              clear hK K
              try simp only [Act.put, List.setIfInBounds_toArray, List.set_cons_zero, List.set_cons_succ]
              refine wpAnyH_ready (rs := [9]) (by kernel_rfl) (by simp) (AllReadyH.cons rfl (fun K hK => ?_) AllReadyH.nil)
              go_simp
              refine hK.out _ _ (HK2.out _ _) (fun hHeld => ?_)
              clear hK K
              try simp only [Act.put, List.setIfInBounds_toArray, List.set_cons_zero, List.set_cons_succ]
              refine wpAnyH_ready (rs := [10]) (by kernel_rfl) (by simp) (AllReadyH.cons rfl (fun K hK => ?_) AllReadyH.nil)
              go_simp
              refine hK.out _ _ (HK2.out _ _) (fun hHeld => ?_)
              clear hK K
              try simp only [Act.put, List.setIfInBounds_toArray, List.set_cons_zero, List.set_cons_succ]
              refine wpAnyH_ready (rs := [11]) (by kernel_rfl) (by simp) (AllReadyH.cons rfl (fun K hK => ?_) AllReadyH.nil)
              go_simp
              refine hK.out _ _ (HK2.out _ _) (fun hHeld => ?_)
              clear hK K
              try simp only [Act.put, List.setIfInBounds_toArray, List.set_cons_zero, List.set_cons_succ]
              refine wpAnyH_done (by kernel_rfl) ?_ _
              go_wp2_with fail
              go_meet
              exact ⟨wr.heap.size, wr.heap.size + 1, rfl, rfl, HN1.out _ _, HN2.out _ _, HB.out.trans ((HK2.out _ _).mono HB.out.size)⟩
            · go_simp
              refine hK.out _ _ (HK1.out _) (fun hHeld => ?_)
              clear hK K
              try simp only [Act.put, List.setIfInBounds_toArray, List.set_cons_zero, List.set_cons_succ]
              refine wpAnyH_ready (rs := [8]) (by kernel_rfl) (by simp) (AllReadyH.cons rfl (fun K hK => ?_) AllReadyH.nil)
              go_simp
              refine hK.out _ _ (HK2.out _ _) (fun hHeld => ?_)
              clear hK K
              try simp only [Act.put, List.setIfInBounds_toArray, List.set_cons_zero, List.set_cons_succ]
              refine wpAnyH_ready (rs := [10]) (by kernel_rfl) (by simp) (AllReadyH.cons rfl (fun K hK => ?_) AllReadyH.nil)
              go_simp
              refine hK.out _ _ (HK2.out _ _) (fun hHeld => ?_)
              clear hK K
              try simp only [Act.put, List.setIfInBounds_toArray, List.set_cons_zero, List.set_cons_succ]
              refine wpAnyH_ready (rs := [11]) (by kernel_rfl) (by simp) (AllReadyH.cons rfl (fun K hK => ?_) AllReadyH.nil)
              go_simp
              refine hK.out _ _ (HK2.out _ _) (fun hHeld => ?_)
              clear hK K
              try simp only [Act.put, List.setIfInBounds_toArray, List.set_cons_zero, List.set_cons_succ]
              refine wpAnyH_done (by kernel_rfl) ?_ _
              go_wp2_with fail
              go_meet
              exact ⟨wr.heap.size + 1, wr.heap.size, rfl, rfl, HN2.out _ _, HN1.out _ _, HB.out.trans ((HK2.out _ _).mono HB.out.size)⟩
          case rest =>
            obtain ⟨g6, g7, rfl, rfl, h6, h7, hbw⟩ := hcut
            have HBw := Lib.hid hbw
            have hl6 := h6.lt
            have hl7 := h7.lt
            have HI : Hid (∀ W, Below wc.heap.size wc W → Blk W g6 46 #[.int .i64 kind, .int .i64 level, .string info, .string text, .string dest, .string title, .string att.id, .slice A1 att.cl.length c1, .slice A2 att.pr.length c2, .slice AL nL cL, .slice A4 kids.length c4] ∧ Blk W g7 46 #[.int .i64 kind, .int .i64 level, .string info, .string text, .string dest, .string title, .string att.id, .slice B1 att.cl.length d1, .slice B2 att.pr.length d2, .slice BL mL eL, .slice B4 kids.length d4]) := Lib.hid fun W h => ⟨h6.below h hl6, h7.below h hl7⟩
            obtain ⟨a0, a1, a2, a3, a4, a5, a6, a7, a8, a9, a10, -⟩ := mk_facts (h6)
            obtain ⟨b0, b1, b2, b3, b4, b5, b6, b7, b8, b9, b10, -⟩ := mk_facts (h7)
            clear h6 h7 hbw
            go_wp2_with fail
            ((with_reducible refine (HAt.out _ HBw.out).mono ?_))
            rintro e w5 ⟨rfl, cc⟩
            have HW5 := Lib.hid (cc)
            clear cc
            obtain ⟨a0, a1, a2, a3, a4, a5, a6, a7, a8, a9, a10, -⟩ := mk_facts ((HI.out _ HW5.out).1)
            obtain ⟨b0, b1, b2, b3, b4, b5, b6, b7, b8, b9, b10, -⟩ := mk_facts ((HI.out _ HW5.out).2)
            go_wp2_with fail
            ((with_reducible refine (HLi.out _ (HBw.out.trans (HW5.out.mono HBw.out.size))).mono ?_))
            rintro e w6 ⟨rfl, cc⟩
            have HW6 := Lib.hid (HW5.out.trans (cc.mono HW5.out.size))
            clear cc
            obtain ⟨a0, a1, a2, a3, a4, a5, a6, a7, a8, a9, a10, -⟩ := mk_facts ((HI.out _ HW6.out).1)
            obtain ⟨b0, b1, b2, b3, b4, b5, b6, b7, b8, b9, b10, -⟩ := mk_facts ((HI.out _ HW6.out).2)
            go_wp2_with fail
            ((with_reducible refine (HRe.out _ (HBw.out.trans (HW6.out.mono HBw.out.size))).mono ?_))
            rintro e w7 ⟨rfl, cc⟩
            have HW7 := Lib.hid (HW6.out.trans (cc.mono HW6.out.size))
            clear cc
            obtain ⟨a0, a1, a2, a3, a4, a5, a6, a7, a8, a9, a10, -⟩ := mk_facts ((HI.out _ HW7.out).1)
            obtain ⟨b0, b1, b2, b3, b4, b5, b6, b7, b8, b9, b10, -⟩ := mk_facts ((HI.out _ HW7.out).2)
            go_wp2_with fail
            go_roundw
            case rel => exact ⟨k + 1, by go_num, by omega, Lib.hid (HBw.out.trans (HW7.out.mono HBw.out.size))⟩
            case measure => simp [intOf]; omega
    · go_wp2_with fail
      go_ret
      exact ⟨rfl, HB.out⟩

theorem r4_same : ∀ n, SameP n := fun n => by
  induction n using Nat.strongRecOn with
  | ind n ih => exact r4_step n ih
end Go.Proofs.YtpoafhgbhnblmaaGreatDoor
