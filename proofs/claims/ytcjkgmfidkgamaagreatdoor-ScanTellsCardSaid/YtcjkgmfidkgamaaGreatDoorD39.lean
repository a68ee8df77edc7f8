/-
  Texts of the proof, put together (what this law reaches): ScTM.
-/
import Derived.Test.YtcjkgmfidkgamaaGreatDoorD38
import Derived.Test.YtcjkgmfidkgamaaGreatDoorD25
import Derived.Test.YtcjkgmfidkgamaaGreatDoorD35
import Derived.Test.YtcjkgmfidkgamaaGreatDoorD36
set_option linter.unusedVariables false
set_option linter.unusedSimpArgs false
namespace Go.Proofs.YtcjkgmfidkgamaaGreatDoor
open Go.RowKit Go.Pub
theorem range_below {w W : World} {g o : Nat} {cs : List Value} (h : w.rangeAt g o cs) (hg : g < w.heap.size) (hb : Below w.heap.size w W) : W.rangeAt g o cs := fun j v hv => (hb.cell (p := ⟨g, o + j, none⟩) hg).trans (h j v hv)
/-- A piece in an owned row, whole. -/
theorem PcOwn.mid {w : World} {base : Nat} {A : Option Addr} {n c : Nat} {ps : List PcL} (h : PcOwn w base (.slice A n c) ps) (k : Nat) (hk : k < ps.length) : ∃ (g : Nat) (A1 : Option Addr) (c1 : Nat) (A2 : Option Addr) (c2 : Nat) (S : Nat → Prop), A = some ⟨g, 0, none⟩ ∧ n = ps.length ∧ g < w.heap.size ∧ (∀ g, S g → g < w.heap.size) ∧ InR w S ps[k].inl A1 A2 ∧ w.rangeAt g (k * 18) (pcC ps[k] A1 c1 A2 c2).toList := by
  obtain ⟨S, vs, hS, hr, ho⟩ := h
  obtain ⟨g, cap, e, h1, h2⟩ := ho.form (by omega)
  injection e with e1 e2 e3
  subst e1 e2 e3
  obtain ⟨v, ⟨A1, c1, A2, c2, rfl, hir⟩, hat⟩ := hr.at_ k hk
  refine ⟨g, A1, c1, A2, c2, S, rfl, rfl, h2, fun g hg => (hS g hg).2.1, hir, fun j u hu => ?_⟩
  have hj : j < 18 := by
    have := (List.getElem?_eq_some_iff.1 hu).1
    have e : (pcC ps[k] A1 c1 A2 c2).toList.length = 18 := rfl
    omega
  rw [ho.cellAt _ (by omega), hat j hj, ← Array.getElem?_toList]
  exact hu
set_option maxRecDepth 100000 in
set_option maxHeartbeats 8000000 in
theorem l9_same (ps : List PcL) (v v' : Value) (b b' : Nat) (w : World) (h : PcOwn w b v ps) (h' : PcOwn w b' v' ps) (h8 : ∀ p ∈ ps, p.inl.args.length ≤ 32) (hl : ps.length ≤ 1000000) :
    Calls Tryz.prog 10 #[v, v'] w fun e w' => e = .returned (.bool true) ∧ Below w.heap.size w w' := by
  obtain ⟨A, c, rfl⟩ := h.shape
  obtain ⟨A', c', rfl⟩ := h'.shape
  have HO := Lib.hid h
  have HO' := Lib.hid h'
  have H8 := Lib.hid h8
  clear h h' h8
  go_enter Tryz.func10, Tryz.ntmps10
  go_wp2_with fail
  go_loopw [5] (fun v5 wr => ∃ k : Nat, v5 = .int .i64 k ∧ k ≤ ps.length ∧ Hid (Below w.heap.size w wr)) (fun v5 _ => ps.length - (intOf v5).toNat)
  case atStart => exact ⟨0, rfl, Nat.zero_le _, Lib.hid (Below.refl _ _)⟩
  case round =>
    obtain ⟨k, rfl, hk, HB⟩ := hrel
    by_cases hlt : k < ps.length
    · obtain ⟨g, A1, c1, A2, c2, S, rfl, -, hg, hS, hir, hrg⟩ := (HO.out.below HB.out).mid k hlt
      obtain ⟨g', A1', c1', A2', c2', S', rfl, -, hg', hS', hir', hrg'⟩ := (HO'.out.below HB.out).mid k hlt
      have h32 := H8.out ps[k] (List.getElem_mem hlt)
      generalize ps[k] = x at *
      have HR1 := Lib.hid fun W (hb : Below wr.heap.size wr W) => range_below hrg hg hb
      have HR2 := Lib.hid fun W (hb : Below wr.heap.size wr W) => range_below hrg' hg' hb
      have HLf : Hid (∀ W, Below wr.heap.size wr W → Calls Tryz.prog 24 #[.slice (some ⟨W.heap.size, 0, none⟩) 1 1, .slice (some ⟨W.heap.size + 1, 0, none⟩) 1 1] ((W.alloc (.cells #[.int .i64 x.inl.kind, .string x.inl.text, .string x.inl.dest, .string x.inl.title, .string ⟨#[]⟩, .slice none 0 0, .slice none 0 0, .slice A1 x.inl.args.length c1, .slice A2 x.inl.cites.length c2, .slice none 0 0] 34)).alloc (.cells #[.int .i64 x.inl.kind, .string x.inl.text, .string x.inl.dest, .string x.inl.title, .string ⟨#[]⟩, .slice none 0 0, .slice none 0 0, .slice A1' x.inl.args.length c1', .slice A2' x.inl.cites.length c2', .slice none 0 0] 34)) fun e w' => e = .returned (.bool true) ∧ Below W.heap.size W w') := Lib.hid fun W hb => by
        have hb2 : Below wr.heap.size wr ((W.alloc (.cells #[.int .i64 x.inl.kind, .string x.inl.text, .string x.inl.dest, .string x.inl.title, .string ⟨#[]⟩, .slice none 0 0, .slice none 0 0, .slice A1 x.inl.args.length c1, .slice A2 x.inl.cites.length c2, .slice none 0 0] 34)).alloc (.cells #[.int .i64 x.inl.kind, .string x.inl.text, .string x.inl.dest, .string x.inl.title, .string ⟨#[]⟩, .slice none 0 0, .slice none 0 0, .slice A1' x.inl.args.length c1', .slice A2' x.inl.cites.length c2', .slice none 0 0] 34)) := (hb.alloc hb.size _).alloc (by simp; have := hb.size; omega) _
        have hn2 := Blk.new (W.alloc (.cells #[.int .i64 x.inl.kind, .string x.inl.text, .string x.inl.dest, .string x.inl.title, .string ⟨#[]⟩, .slice none 0 0, .slice none 0 0, .slice A1 x.inl.args.length c1, .slice A2 x.inl.cites.length c2, .slice none 0 0] 34)) 34 #[.int .i64 x.inl.kind, .string x.inl.text, .string x.inl.dest, .string x.inl.title, .string ⟨#[]⟩, .slice none 0 0, .slice none 0 0, .slice A1' x.inl.args.length c1', .slice A2' x.inl.cites.length c2', .slice none 0 0]
        rw [World.size_alloc] at hn2
        refine (r4_leaf x.inl A1 c1 A2 c2 A1' c1' A2' c2' W.heap.size (W.heap.size + 1) S S' _ ((Blk.new W _ _).alloc _) hn2 (hir.keep (fun g hg => hb2.block g (hS g hg)) fun _ h => h) (hir'.keep (fun g hg => hb2.block g (hS' g hg)) fun _ h => h) (fun g hg => Nat.lt_of_lt_of_le (hS g hg) hb2.size) (fun g hg => Nat.lt_of_lt_of_le (hS' g hg) hb2.size) h32).mono ?_
        rintro e w' ⟨rfl, c9⟩
        exact ⟨rfl, (((Below.refl _ W).alloc (Nat.le_refl _) _).alloc (by simp) _).trans (c9.mono (by simp; omega))⟩
      have HK1 : Hid (∀ x, Below wr.heap.size wr (wr.alloc x).drew) := Lib.hid fun x => ((Below.refl _ wr).alloc (Nat.le_refl _) _).drew
      have HK2 : Hid (∀ x y, Below wr.heap.size wr ((wr.alloc x).alloc y).drew) := Lib.hid fun x y => (((Below.refl _ wr).alloc (Nat.le_refl _) _).alloc (by simp) _).drew
      have HN1 : Hid (∀ (x : Array Value) (y : Obj), Blk ((wr.alloc (.cells x 36)).alloc y).drew wr.heap.size 36 x) := Lib.hid fun x y => Blk.alloc (Blk.new wr _ x) y
      have HN2 : Hid (∀ (x : Obj) (y : Array Value), Blk ((wr.alloc x).alloc (.cells y 36)).drew (wr.heap.size + 1) 36 y) := Lib.hid fun x y => by
        have h := Blk.new (wr.alloc x) 36 y
        rw [heap_alloc_size] at h
        exact h
      have HBr := Lib.hid (Below.refl wr.heap.size wr)
      clear hrg hrg' hir hir' hS hS' h32 HO HO' H8
      go_upto_region 6 with fail
      go_cut [6, 7] from 25 to 32 (fun s6 s7 wx => ∃ g6 g7 : Nat, s6 = .pointer (some ⟨g6, 0, none⟩) ∧ s7 = .pointer (some ⟨g7, 0, none⟩) ∧ Blk wx g6 36 (pcC x A1 c1 A2 c2) ∧ Blk wx g7 36 (pcC x A1' c1' A2' c2') ∧ Below wr.heap.size wr wx)
      case first =>
        clear HLf
        refine wp_region_held_drew (S := fun W' => Below wr.heap.size wr W') (by kernel_rfl) HBr.out.drew (fun hHeld => ?_)
        refine tk 0 (.slice (some ⟨g, 0, none⟩) ps.length c) rfl hHeld (fun W' hSw => ?_) ?_
        · go_simp
        refine tk 1 (.int .i64 k) rfl hHeld (fun W' hSw => ?_) ?_
        · go_simp
        refine tk 2 (.pointer (some ⟨g, k * 18, none⟩)) rfl hHeld (fun W' hSw => ?_) ?_
        · go_simp
        refine wpAnyH_take (i := 3) (v := .agg (pcC x A1 c1 A2 c2)) rfl (by kernel_rfl) (by kernel_rfl) (by kernel_rfl) (fun _ _ _ h => h) (yieldsIf_load_mid (by kernel_rfl) 36 (.tmp 27) rfl g (k * 18) rfl (pcC x A1 c1 A2 c2).toList _ (fun W' hSw => HR1.out W' hSw) Tryz.underlying36 rfl pc_size) hHeld ?_
        refine tk 4 (.slice (some ⟨g', 0, none⟩) ps.length c') rfl hHeld (fun W' hSw => ?_) ?_
        · go_simp
        refine tk 5 (.int .i64 k) rfl hHeld (fun W' hSw => ?_) ?_
        · go_simp
        refine tk 6 (.pointer (some ⟨g', k * 18, none⟩)) rfl hHeld (fun W' hSw => ?_) ?_
        · go_simp
        refine wpAnyH_take (i := 7) (v := .agg (pcC x A1' c1' A2' c2')) rfl (by kernel_rfl) (by kernel_rfl) (by kernel_rfl) (fun _ _ _ h => h) (yieldsIf_load_mid (by kernel_rfl) 36 (.tmp 31) rfl g' (k * 18) rfl (pcC x A1' c1' A2' c2').toList _ (fun W' hSw => HR2.out W' hSw) Tryz.underlying36 rfl pc_size) hHeld ?_
        refine wpAnyH_ready (rs := [8, 9]) (by kernel_rfl) (by simp) (AllReadyH.cons rfl (fun K hK => ?_) (AllReadyH.cons rfl (fun K hK => ?_) AllReadyH.nil))
        · go_simp
          refine hK.out _ _ (HK1.out _) (fun hHeld => ?_)
          clear hK K
          refine rd1 9 rfl (fun K hK => ?_)
          go_simp
          refine hK.out _ _ (HK2.out _ _) (fun hHeld => ?_)
          clear hK K
          refine rd1 10 rfl (fun K hK => ?_)
          refine step_store_row rfl 36 (.tmp 6) (.tmp 28) rfl (wr.heap.size) (pcC x A1 c1 A2 c2) rfl rfl _ _ (HN1.out _ _) pc_size (by rfl) (by simp [pcC, Value.oneCell']) ?_
          refine hK.out _ _ (row_below (HK2.out _ _) (Nat.le_refl _) _) (fun hHeld => ?_)
          clear hK K
          refine rd1 11 rfl (fun K hK => ?_)
          refine step_store_row rfl 36 (.tmp 7) (.tmp 32) rfl (wr.heap.size + 1) (pcC x A1' c1' A2' c2') rfl rfl _ _ ((row_far _ _ _ _ (by omega)).trans (HN2.out _ _)) pc_size (by rfl) (by simp [pcC, Value.oneCell']) ?_
          refine hK.out _ _ (row_below (row_below (HK2.out _ _) (Nat.le_refl _) _) (Nat.le_succ _) _) (fun hHeld => ?_)
          clear hK K
          refine wpAnyH_done (by kernel_rfl) ?_ _
          go_wp2_with fail
          go_meet
          exact ⟨wr.heap.size, wr.heap.size + 1, rfl, rfl, (row_far _ _ _ _ (by omega)).trans (row_blk (HN1.out _ _) _), row_blk ((row_far _ _ _ _ (by omega)).trans (HN2.out _ _)) _, row_below (row_below (HK2.out _ _) (Nat.le_refl _) _) (Nat.le_succ _) _⟩
        · go_simp
          refine hK.out _ _ (HK1.out _) (fun hHeld => ?_)
          clear hK K
          refine rd1 8 rfl (fun K hK => ?_)
          go_simp
          refine hK.out _ _ (HK2.out _ _) (fun hHeld => ?_)
          clear hK K
          refine rd1 10 rfl (fun K hK => ?_)
          refine step_store_row rfl 36 (.tmp 6) (.tmp 28) rfl (wr.heap.size + 1) (pcC x A1 c1 A2 c2) rfl rfl _ _ (HN2.out _ _) pc_size (by rfl) (by simp [pcC, Value.oneCell']) ?_
          refine hK.out _ _ (row_below (HK2.out _ _) (Nat.le_succ _) _) (fun hHeld => ?_)
          clear hK K
          refine rd1 11 rfl (fun K hK => ?_)
          refine step_store_row rfl 36 (.tmp 7) (.tmp 32) rfl (wr.heap.size) (pcC x A1' c1' A2' c2') rfl rfl _ _ ((row_far _ _ _ _ (by omega)).trans (HN1.out _ _)) pc_size (by rfl) (by simp [pcC, Value.oneCell']) ?_
          refine hK.out _ _ (row_below (row_below (HK2.out _ _) (Nat.le_succ _) _) (Nat.le_refl _) _) (fun hHeld => ?_)
          clear hK K
          refine wpAnyH_done (by kernel_rfl) ?_ _
          go_wp2_with fail
          go_meet
          exact ⟨wr.heap.size + 1, wr.heap.size, rfl, rfl, (row_far _ _ _ _ (by omega)).trans (row_blk (HN2.out _ _) _), row_blk ((row_far _ _ _ _ (by omega)).trans (HN1.out _ _)) _, row_below (row_below (HK2.out _ _) (Nat.le_succ _) _) (Nat.le_refl _) _⟩
      case rest =>
        obtain ⟨g6, g7, rfl, rfl, h6, h7, hbw⟩ := hcut
        have HBw := Lib.hid hbw
        have HL9 := Lib.hid (HLf.out _ hbw)
        have hl6 := h6.lt
        have hl7 := h7.lt
        obtain ⟨a0, a1, a2, a3, a4, a5, a6, a7, a8, a9, a10, a11, a12, a13, a14, a15, a16, a17, -⟩ := pc_facts h6
        obtain ⟨b0, b1, b2, b3, b4, b5, b6, b7, b8, b9, b10, b11, b12, b13, b14, b15, b16, b17, -⟩ := pc_facts h7
        have q1 : (x.ch.toList != x.ch.toList) = false := by simp
        have q2 : (x.opn != x.opn) = false := by simp
        have q3 : (x.clo != x.clo) = false := by simp
        have q4 : (x.img != x.img) = false := by simp
        clear h6 h7 hbw HLf HR1 HR2 HK1 HK2 HN1 HN2 HBr hg hg'
        go_wp2_with fail
        ((with_reducible refine (HL9.out).mono ?_))
        rintro e w9 ⟨rfl, c9⟩
        have HB9 := Lib.hid (HB.out.trans ((HBw.out.trans (c9.mono HBw.out.size)).mono HB.out.size))
        clear c9 HL9
        go_wp2_with fail
        go_roundw
        case rel => exact ⟨k + 1, by go_num, by omega, HB9⟩
        case measure => simp [intOf]; omega
    · go_wp2_with fail
      go_ret
      exact ⟨rfl, HB.out⟩

end Go.Proofs.YtcjkgmfidkgamaaGreatDoor
