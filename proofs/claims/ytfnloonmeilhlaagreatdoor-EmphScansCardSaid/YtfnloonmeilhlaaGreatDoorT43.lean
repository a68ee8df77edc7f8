/-
  Texts of the proof, put together (what this law reaches): ScAM.
-/
import Derived.Test.YtfnloonmeilhlaaGreatDoorT42
set_option linter.unusedVariables false
set_option linter.unusedSimpArgs false
namespace Go.Proofs.YtfnloonmeilhlaaGreatDoor
open Go.RowKit Go.Pub
set_option maxRecDepth 100000 in
set_option maxHeartbeats 1000000 in
theorem s_Pieces (s : ByteArray) (w : World) (hs : s.size ≤ 1000000) : Calls Tryz.prog 11 #[.string s] w fun e w' => ∃ g b1 b2, e = .returned (.func (.func 16) #[] #[.pointer (some ⟨g, 0, none⟩)]) ∧ w.heap.size ≤ g ∧ Blk w' g 63 #[.string s, .map (some b1), .map (some b2)] ∧ RdrW w' (Rg w.heap.size w') s b1 b2 ∧ Below w.heap.size w w' := by
  have HR := Lib.hid fun W => s_runsOf s W hs
  go_enter Tryz.func11, Tryz.ntmps11
  go_wp2_with fail
  ((with_reducible refine (HR.out _).mono ?_))
  rintro e W1 ⟨b1, b2, rfl, q1, hr⟩
  have HT := Lib.hid hr
  have X1 := Lib.hid q1
  clear hr q1
  go_wp2_with fail
  go_ret
  exact ⟨W1.heap.size, b1, b2, rfl, X1.out.size, Blk.new W1 _ _, HT.out.keep (fun g hg => Below.heap_alloc W1 _ g hg.2) fun g hg => ⟨hg.1, by simp; have := hg.2; omega⟩, X1.out.alloc X1.out.size _⟩

set_option maxRecDepth 100000 in
set_option maxHeartbeats 4000000 in
theorem s_next (s : ByteArray) (i g b1 b2 : Nat) (m : Int) (S : Nat → Prop) (w : World) (hs : s.size ≤ 1000000) (hi : i < s.size) (hg : Blk w g 63 #[.string s, .map (some b1), .map (some b2)]) (hW : RdrW w S s b1 b2) (hS : ∀ g, S g → g < w.heap.size) (hm : w.cell? ⟨0, 0, none⟩ = some (.int .i64 m)) :
    Calls Tryz.prog 16 #[.int .i64 i, .pointer (some ⟨g, 0, none⟩)] w (PcPost (pieceA s i).1 (pieceA s i).2 w) := by
  have h0w : 0 < w.heap.size := World.block_lt_of_cell? _ _ hm
  have hbg := Lib.hid (pieceA_bd s i hi).1
  have HP : Hid (∀ W, Below w.heap.size w W → Calls Tryz.prog 17 #[.agg #[.string s, .map (some b1), .map (some b2)], .int .i64 i] W (PcPost (noBg (pieceA s i).1) (pieceA s i).2 W)) := Lib.hid fun W hbW => s_piece s i b1 b2 m S W hs hi (hW.keep (fun g hg => hbW.block g (hS g hg)) fun g hg => hg) (fun g hg => Nat.lt_of_lt_of_le (hS g hg) hbW.size) ((hbW.cell (p := ⟨0, 0, none⟩) h0w).trans hm)
  clear hW hm h0w
  generalize pieceA s i = P at *
  obtain ⟨p, pl⟩ := P
  have G0 := Lib.hid (hg.alloc (.cells zPc 34))
  have G1 := Lib.hid (Blk.new w 34 zPc)
  have G2 := Lib.hid ((Below.refl w.heap.size w).alloc (Nat.le_refl _) (.cells zPc 34))
  clear hg
  go_enter Tryz.func16, Tryz.ntmps16
  go_upto_region 1 with fail
  change Hid (Blk (w.alloc (.cells #[.int .i64 0, .int .i64 0, .string ⟨#[]⟩, .string ⟨#[]⟩, .string ⟨#[]⟩, .string ⟨#[]⟩, .slice none 0 0, .slice none 0 0, .slice none 0 0, .slice none 0 0, .slice none 0 0, .string ⟨#[]⟩, .int .i64 0, .bool false, .bool false, .bool false, .int .i64 0, .int .i64 0] 34)) g 63 _) at G0
  change Hid (Blk (w.alloc (.cells #[.int .i64 0, .int .i64 0, .string ⟨#[]⟩, .string ⟨#[]⟩, .string ⟨#[]⟩, .string ⟨#[]⟩, .slice none 0 0, .slice none 0 0, .slice none 0 0, .slice none 0 0, .slice none 0 0, .string ⟨#[]⟩, .int .i64 0, .bool false, .bool false, .bool false, .int .i64 0, .int .i64 0] 34)) w.heap.size 34 zPc) at G1
  change Hid (Below w.heap.size w (w.alloc (.cells #[.int .i64 0, .int .i64 0, .string ⟨#[]⟩, .string ⟨#[]⟩, .string ⟨#[]⟩, .string ⟨#[]⟩, .slice none 0 0, .slice none 0 0, .slice none 0 0, .slice none 0 0, .slice none 0 0, .string ⟨#[]⟩, .int .i64 0, .bool false, .bool false, .bool false, .int .i64 0, .int .i64 0] 34))) at G2
  generalize w.alloc (.cells #[.int .i64 0, .int .i64 0, .string ⟨#[]⟩, .string ⟨#[]⟩, .string ⟨#[]⟩, .string ⟨#[]⟩, .slice none 0 0, .slice none 0 0, .slice none 0 0, .slice none 0 0, .slice none 0 0, .string ⟨#[]⟩, .int .i64 0, .bool false, .bool false, .bool false, .int .i64 0, .int .i64 0] 34) = W0 at *
  have r0 := G0.out.cell 0
  have r1 := G0.out.cell 1
  have r2 := G0.out.cell 2
  simp at r0 r1 r2
  have HPW := Lib.hid (HP.out W0 G2.out)
  clear HP G0
  go_wp2_with fail
  ((with_reducible refine (HPW.out).mono ?_))
  rintro e W1 ⟨q1, A1, c1, A2, c2, rfl, hir⟩
  have HIR := Lib.hid hir
  have B1 := Lib.hid (G1.out.below q1 G1.out.lt)
  have W1B := Lib.hid (G2.out.trans (q1.mono G2.out.size))
  have HZ := Lib.hid G1.out.lt
  have HLT := Lib.hid B1.out.lt
  clear q1 hir HPW G1 G2 r0 r1 r2
  go_upto_region 2 with (refine wpList_store_row rfl 34 (.tmp 5) _ rfl _ _ rfl rfl _ _ (Blk.new W1 34 _) pc_size (by rfl) (by simp [pcC, Value.oneCell']) ?_)
  have K1 : Hid (Blk ((W1.alloc (.cells #[.int .i64 0, .int .i64 0, .string ⟨#[]⟩, .string ⟨#[]⟩, .string ⟨#[]⟩, .string ⟨#[]⟩, .slice none 0 0, .slice none 0 0, .slice none 0 0, .slice none 0 0, .slice none 0 0, .string ⟨#[]⟩, .int .i64 0, .bool false, .bool false, .bool false, .int .i64 0, .int .i64 0] 34)).setRow W1.heap.size (pcC (noBg p) A1 c1 A2 c2)) W1.heap.size 34 (pcC (noBg p) A1 c1 A2 c2)) := Lib.hid (row_blk (Blk.new W1 34 _) _)
  have K2 : Hid (∀ k, k < W1.heap.size → ((W1.alloc (.cells #[.int .i64 0, .int .i64 0, .string ⟨#[]⟩, .string ⟨#[]⟩, .string ⟨#[]⟩, .string ⟨#[]⟩, .slice none 0 0, .slice none 0 0, .slice none 0 0, .slice none 0 0, .slice none 0 0, .string ⟨#[]⟩, .int .i64 0, .bool false, .bool false, .bool false, .int .i64 0, .int .i64 0] 34)).setRow W1.heap.size (pcC (noBg p) A1 c1 A2 c2)).heap[k]? = W1.heap[k]?) := Lib.hid fun k hk => (row_far _ _ _ k (by omega)).trans (Below.heap_alloc W1 _ k hk)
  have K3 : Hid (Below w.heap.size w ((W1.alloc (.cells #[.int .i64 0, .int .i64 0, .string ⟨#[]⟩, .string ⟨#[]⟩, .string ⟨#[]⟩, .string ⟨#[]⟩, .slice none 0 0, .slice none 0 0, .slice none 0 0, .slice none 0 0, .slice none 0 0, .string ⟨#[]⟩, .int .i64 0, .bool false, .bool false, .bool false, .int .i64 0, .int .i64 0] 34)).setRow W1.heap.size (pcC (noBg p) A1 c1 A2 c2))) := Lib.hid (row_below (W1B.out.alloc (by have := HLT.out; omega) _) (by have := HLT.out; omega) _)
  have K4 : Hid (((W1.alloc (.cells #[.int .i64 0, .int .i64 0, .string ⟨#[]⟩, .string ⟨#[]⟩, .string ⟨#[]⟩, .string ⟨#[]⟩, .slice none 0 0, .slice none 0 0, .slice none 0 0, .slice none 0 0, .slice none 0 0, .string ⟨#[]⟩, .int .i64 0, .bool false, .bool false, .bool false, .int .i64 0, .int .i64 0] 34)).setRow W1.heap.size (pcC (noBg p) A1 c1 A2 c2)).heap.size = W1.heap.size + 1) := Lib.hid (by rw [row_size, World.size_alloc])
  generalize ((W1.alloc (.cells #[.int .i64 0, .int .i64 0, .string ⟨#[]⟩, .string ⟨#[]⟩, .string ⟨#[]⟩, .string ⟨#[]⟩, .slice none 0 0, .slice none 0 0, .slice none 0 0, .slice none 0 0, .slice none 0 0, .string ⟨#[]⟩, .int .i64 0, .bool false, .bool false, .bool false, .int .i64 0, .int .i64 0] 34)).setRow W1.heap.size (pcC (noBg p) A1 c1 A2 c2)) = W2 at *
  have k16 := K1.out.cell 16
  have f16 := K1.out.frozen 16
  simp [pcC, noBg] at k16
  go_upto_region 3 with fail
  clear k16 f16
  have L1 : Hid (Blk (W2.setCell ⟨W1.heap.size, 16, none⟩ (.int .i64 i)) W1.heap.size 34 (pcC p A1 c1 A2 c2)) := Lib.hid (by
    have h := K1.out.set_ 16 (.int .i64 i)
    have e : (pcC (noBg p) A1 c1 A2 c2).setIfInBounds 16 (.int .i64 i) = pcC p A1 c1 A2 c2 := by
      have hb : p.bg = i := hbg.out
      unfold pcC noBg
      rw [hb]
      rfl
    rwa [e] at h)
  have L2 : Hid (∀ k, k < W1.heap.size → (W2.setCell ⟨W1.heap.size, 16, none⟩ (.int .i64 i)).heap[k]? = W1.heap[k]?) := Lib.hid fun k hk => (Below.heap_setCell _ ⟨W1.heap.size, 16, none⟩ _ k (by show k ≠ W1.heap.size; omega)).trans (K2.out k hk)
  have L3 : Hid (Below w.heap.size w (W2.setCell ⟨W1.heap.size, 16, none⟩ (.int .i64 i))) := Lib.hid (K3.out.setCell (p := ⟨W1.heap.size, 16, none⟩) (by have := HLT.out; show w.heap.size ≤ W1.heap.size; omega) _)
  have L4 : Hid ((W2.setCell ⟨W1.heap.size, 16, none⟩ (.int .i64 i)).heap.size = W1.heap.size + 1) := Lib.hid (by have := K4.out; simp [World.setCell]; exact this)
  generalize W2.setCell ⟨W1.heap.size, 16, none⟩ (.int .i64 i) = W3 at *
  have L5 : Hid (Blk W3 w.heap.size 34 zPc) := Lib.hid ((L2.out _ HLT.out).trans B1.out)
  obtain ⟨c0, c1', c2', c3, c4, c5, c6, c7, c8, c9, c10, c11, c12, c13, c14, c15, c16, c17, _⟩ := pc_facts L1.out
  clear K1 K2 K3 K4
  go_wp2_with (refine wpList_store_row rfl 34 (.tmp 3) _ rfl _ _ rfl rfl _ _ L5.out pc_size (by rfl) (by simp [Value.oneCell']) ?_)
  refine pc_ret Tryz.results16 (row_blk L5.out _) rfl rfl rfl ?_
  have hz1 := HZ.out
  refine ⟨row_below L3.out (Nat.le_refl _) _, A1, c1, A2, c2, rfl, ?_⟩
  refine InR.keep (x := p.inl) HIR.out (fun k hk => (row_far _ _ _ k (by have := hk.1; omega)).trans (L2.out k hk.2)) fun k hk => ⟨by have := hk.1; omega, ?_⟩
  rw [row_size, L4.out]
  have := hk.2
  omega

end Go.Proofs.YtfnloonmeilhlaaGreatDoor
