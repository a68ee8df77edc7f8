/-
  Texts of the proof, put together (what this law reaches): TabHB, NsO, NsQ, NsVA.
-/
import Derived.Test.YtpoafhgbhnblmaaGreatDoorD13
import Derived.Test.YtpoafhgbhnblmaaGreatDoorD17
import Derived.Test.YtpoafhgbhnblmaaGreatDoorD16
set_option linter.unusedVariables false
set_option linter.unusedSimpArgs false
namespace Go.Proofs.YtpoafhgbhnblmaaGreatDoor
open Go.RowKit Go.Pub
set_option maxRecDepth 100000 in
set_option maxHeartbeats 2000000 in
theorem t_fit2 (zs : List ByteArray) (A : Option Addr) (c B : Nat) (col : Int) (w : World) (hr : Reads w B 1 A zs.length (strs zs)) (hB : B ≤ w.heap.size) (h1 : -9223372036854775808 ≤ col) (h2 : col ≤ 9223372036854775807) (hl : zs.length ≤ 10000000) :
    Calls Tryz.prog 174 #[.slice A zs.length c, .int .i64 col] w fun e W' => ∃ v, e = .returned v ∧ W'.ownsRow w.heap.size 9 1 v (colN col) (strs (fitL zs (colN col))) ∧ Below w.heap.size w W' := by
  obtain ⟨i0, hi, hi0, hi1, hi2⟩ := info_parts strInfo
  have hn : colN col ≤ 32 := by unfold colN; omega
  have HMx : ∀ w : World, (Builtin.max_ #[3, 3] 3 #[.int .i64 col, .int .i64 0]).run Tryz.prog w = .ok (.int .i64 (col.toNat : Nat)) w := fun w => by
    rw [run_max_int2]
    congr 2
    split <;> omega
  have HMn : ∀ w : World, (Builtin.min_ #[3, 3] 3 #[.int .i64 (col.toNat : Nat), .int .i64 32]).run Tryz.prog w = .ok (.int .i64 (colN col : Nat)) w := fun w => by
    rw [run_min_int2]
    congr 2
    unfold colN
    split <;> omega
  have hmk : ∀ W : World, (Instr.makeSlice 22 (.int .i64 (colN col : Nat)) (.int .i64 (colN col : Nat))).run Tryz.prog W = .ok (.slice (some ⟨W.heap.size, 0, none⟩) (colN col) (colN col)) (W.alloc (.cells (List.replicate (colN col) (Value.string ⟨#[]⟩)).toArray 9)) := fun W => by
    have h := run_make (P := Tryz.prog) W 22 9 i0 (.string ⟨#[]⟩) Tryz.underlying22 hi hi0 .i64 .i64 (colN col : Nat) (colN col : Nat) (by omega) (by omega) (by rw [hi2]; omega) (by omega)
    rw [Int.toNat_natCast, hi1, Nat.mul_one] at h
    rw [h]
    have : (Value.string ⟨#[]⟩).cells = #[Value.string ⟨#[]⟩] := rfl
    rw [this, made_rep]
  have hcs : ∀ u ∈ strs (zs.take (colN col)), u.oneCell' = true := by
    intro u hu
    unfold strs at hu
    obtain ⟨z, _, rfl⟩ := List.mem_map.1 hu
    rfl
  have HSP := Lib.hid (splice_fit zs (colN col))
  have hfl := fitL_len zs (colN col)
  have HRd := Lib.hid hr
  clear hr
  generalize colN col = n at *
  generalize (col.toNat : Nat) = cc at *
  have HCS := Lib.hid hcs
  clear hcs
  have HG0 : Hid ((w.alloc (.cells (Array.replicate n (Value.string ⟨#[]⟩)) 9)).heap[w.heap.size]? = some (.cells (List.replicate n (Value.string ⟨#[]⟩)).toArray 9 (0, 0))) := Lib.hid (by
    rw [List.toArray_replicate]; exact heap_alloc_new w _)
  have hsz : (Tryz.prog.info? 9).map (·.size) = some 1 := by rw [hi]; simp [hi1]
  obtain ⟨r, w2, hcp, HG, hbw⟩ : ∃ r w2, (Builtin.copy_ #[22, 22] 3 #[.slice (some ⟨w.heap.size, 0, none⟩) n n, .slice A zs.length c]).run Tryz.prog (w.alloc (.cells (Array.replicate n (Value.string ⟨#[]⟩)) 9)) = .ok r w2 ∧
      Hid (w2.heap[w.heap.size]? = some (.cells (strs (fitL zs n)).toArray 9 (0, 0))) ∧ Below w.heap.size w w2 := by
    by_cases h0 : Nat.min zs.length n = 0
    · refine ⟨_, _, run_copy_none (P := Tryz.prog) _ 22 22 3 9 _ _ _ _ _ _ Tryz.underlying22 hsz h0, ?_, (Below.refl _ _).alloc (Nat.le_refl _) _⟩
      refine Lib.hid (HG0.out.trans ?_)
      have e : strs (zs.take n) = [] := by
        have : (strs (zs.take n)).length = 0 := by rw [strs_len, List.length_take, Nat.min_comm]; exact h0
        exact List.length_eq_zero_iff.1 this
      have h2 := HSP.out
      rw [e] at h2
      rw [← h2]
      simp [splice]
    · have hpos : 0 < zs.length := by
        rcases Nat.eq_zero_or_pos zs.length with h | h
        · rw [h] at h0; exact absurd (Nat.zero_min _) h0
        · exact h
      obtain ⟨b, off, rfl, hbB, hcell⟩ := reads_get HRd.out hpos
      have hrun := run_copy_row (P := Tryz.prog) (w.alloc (.cells (Array.replicate n (Value.string ⟨#[]⟩)) 9)) 22 22 3 9 w.heap.size 0 n n ⟨b, off, none⟩ zs.length c (List.replicate n (Value.string ⟨#[]⟩)).toArray 9 (strs (zs.take n)) Tryz.underlying22 hsz HG0.out (by rw [strs_len, List.length_take]; exact Nat.min_comm _ _) (fun j v hj => by
        have hj' : j < (zs.take n).length := by
          rw [← strs_len]
          exact (List.getElem?_eq_some_iff.1 hj).1
        rw [strs_at _ j hj'] at hj
        cases hj
        rw [List.length_take] at hj'
        rw [List.getElem_take]
        have := hcell j (by omega)
        rw [World.cell?_alloc_lt w _ _ (by rw [block_of_add]; show b < _; omega)]
        unfold Addr.add
        by_cases h0 : j = 0
        · subst h0; simpa using this
        · simpa [h0] using this) (by simp [strs_len]; omega) HCS.out
      refine ⟨_, _, hrun, Lib.hid ?_, below_setRow ((Below.refl _ _).alloc (Nat.le_refl _) _) (Nat.le_refl _) _⟩
      rw [setRow_heap _ _ _ _ _ _ HG0.out, ← HSP.out]
      simp [splice]
  go_enter Tryz.func174, Tryz.ntmps174
  go_wp2_with fail
  go_ret
  refine ⟨_, rfl, ⟨by rw [strs_len, hfl]; omega, .inr ⟨w.heap.size, n, (strs (fitL zs n)).toArray, rfl, Nat.le_refl _, HG.out, Nat.le_refl _, by unfold maxLen; omega, by simp [strs_len, hfl], by rw [Nat.mul_one]; exact List.take_of_length_le (by show (strs (fitL zs n)).length ≤ n; rw [strs_len, hfl]; omega)⟩⟩, hbw⟩

end Go.Proofs.YtpoafhgbhnblmaaGreatDoor
namespace Go.Proofs.YtpoafhgbhnblmaaGreatDoor
open Go.RowKit Go.Pub
/-- The loop's state; gR: the row's block, W3: the world that the loop began in. -/
def RoRel (cs : List ByteArray) (n gR : Nat) (w W3 : World) (v14 : Value) (wr : World) : Prop :=
  ∃ (k : Nat) (vK : Value) (its : List BkT), v14 = .int .i64 k ∧ k ≤ n ∧ Hid (its.length = k) ∧ Hid (its = (cs.take k).map (leafB 12)) ∧ Blk wr gR 46 (liC 11 0 vK) ∧ ZB wr w.heap.size ∧ Hid (KOwn wr (gR + 1) (fun _ => False) vK its) ∧ Below gR W3 wr ∧ Below w.heap.size w wr
theorem srcV_low {w : World} {B B' : Nat} {v : Value} {s : ByteArray} (h : SrcV w (Rg B w) v s) (hB : B' ≤ B) : SrcV w (Rg B' w) v s :=
  h.keep (fun _ _ => rfl) fun g hg => ⟨Nat.le_trans hB hg.1, hg.2⟩
set_option maxRecDepth 100000 in
set_option maxHeartbeats 2000000 in
theorem n_row (z : ByteArray) (n B : Nat) (MM : Int) (w : World) (hz : z.size ≤ 100000) (hn : n ≤ 32) (hm : w.cell? ⟨0, 0, none⟩ = some (.int .i64 MM)) (hB : B ≤ w.heap.size) :
    Calls Tryz.prog 121 #[.string z, .int .i64 n] w fun e w' => (∃ v, e = .returned (.agg v) ∧ RepB w' (Rg B w') v (rowT z n)) ∧ Below w.heap.size w w' := by
  obtain ⟨i0, hi0, hz0, hz1, hz2⟩ := info_parts block_info
  have hwp : 0 < w.heap.size := World.block_lt_of_cell? _ _ hm
  have HZ0 := Lib.hid (Blk.new w 46 zbC)
  have HB0 : Hid (∀ o, Below w.heap.size w (w.alloc o)) := Lib.hid fun o => (Below.refl _ w).alloc (Nat.le_refl _) _
  have hcn : colN (n : Int) = n := by unfold colN; omega
  have HCe := Lib.hid fun W (h : W.cell? ⟨0, 0, none⟩ = some (.int .i64 MM)) => t_cellsP z MM W (by omega) h
  have hcl : (cellsB (bytesL z)).length ≤ 10000000 := by rw [cellsB_len]; have := partsL_len (bytesL z); rw [bytesL_length] at this; omega
  have HCL : Hid (∀ (A : Option Addr) (c : Nat) (W : World), Reads W W.heap.size 1 A (cellsB (bytesL z)).length (strs (cellsB (bytesL z))) → Calls Tryz.prog 174 #[.slice A (cellsB (bytesL z)).length c, .int .i64 n] W fun e W' => ∃ v, e = .returned v ∧ W'.ownsRow W.heap.size 9 1 v n (strs (fitL (cellsB (bytesL z)) n)) ∧ Below W.heap.size W W') := Lib.hid fun A c W h => by
    have := t_fit2 (cellsB (bytesL z)) A c W.heap.size n W h (Nat.le_refl _) (by omega) (by omega) hcl
    rwa [hcn] at this
  have hfl := fitL_len (cellsB (bytesL z)) n
  have HRT : Hid (rowT z n = kidB 11 ((fitL (cellsB (bytesL z)) n).map (leafB 12))) := Lib.hid rfl
  clear hcn hcl
  unfold CellsPost at HCe
  generalize hcs : fitL (cellsB (bytesL z)) n = cs at *
  generalize cellsB (bytesL z) = zs at *
  clear hcs
  have HZ0' := HZ0
  unfold zbC at HZ0 HZ0'
  have hm0 := ((HB0.out (.cells #[.int .i64 0, .int .i64 0, .string ⟨#[]⟩, .string ⟨#[]⟩, .string ⟨#[]⟩, .string ⟨#[]⟩, .string ⟨#[]⟩, .slice none 0 0, .slice none 0 0, .slice none 0 0, .slice none 0 0] 46)).cell (p := ⟨0, 0, none⟩) hwp).trans hm
  have HM0 := Lib.hid hm0
  clear hm0 hm HZ0'
  go_enter Tryz.func121, Tryz.ntmps121
  go_wp2_with fail
  ((with_reducible refine (HCe.out _ HM0.out).mono ?_))
  rintro e w1 ⟨A1, c1, rfl, hown1, b1⟩
  have HR1 := Lib.hid (Reads.of_own hown1)
  have HZ1 := Lib.hid (show ZB w1 w.heap.size from Blk.below HZ0.out b1 (by simp))
  have HB1 := Lib.hid ((HB0.out (.cells #[.int .i64 0, .int .i64 0, .string ⟨#[]⟩, .string ⟨#[]⟩, .string ⟨#[]⟩, .string ⟨#[]⟩, .string ⟨#[]⟩, .slice none 0 0, .slice none 0 0, .slice none 0 0, .slice none 0 0] 46)).trans (b1.mono (by simp)))
  clear hown1 b1 HCe HM0 HZ0 HB0
  go_wp2_with fail
  ((with_reducible refine (HCL.out A1 c1 _ HR1.out).mono ?_))
  rintro e w2 ⟨v5, rfl, hown2, b2⟩
  obtain ⟨A5, c5, rfl⟩ := own_slice hown2
  have HZ2 := Lib.hid (HZ1.out.below (w := w) b2)
  have HB2 := Lib.hid (HB1.out.trans (b2.mono HB1.out.size))
  have HO2 := Lib.hid (Reads.of_own hown2)
  have hz2' := HB2.out.size
  clear hown2 b2 HCL HR1 HZ1 HB1
  go_upto_region 3 with fail
  generalize hW3 : w2.alloc _ = W3
  obtain ⟨gR, hgR0⟩ : ∃ gR, gR = w2.heap.size := ⟨_, rfl⟩
  have HBk0 : Hid (Blk W3 gR 46 (liC 11 0 (.slice none 0 0))) := Lib.hid (by rw [← hW3, hgR0]; exact Blk.new w2 _ _)
  have HZ3 : Hid (ZB W3 w.heap.size) := Lib.hid (by rw [← hW3]; exact Blk.alloc HZ2.out _)
  have HB3 : Hid (Below w.heap.size w W3) := Lib.hid (by rw [← hW3]; exact HB2.out.alloc HB2.out.size _)
  have HO3 : Hid (Reads W3 gR 1 A5 cs.length (strs cs)) := Lib.hid (by rw [← hW3, hgR0, hfl]; exact HO2.out.alloc (Nat.le_refl _) _)
  have hgw : w.heap.size < gR := by have := Blk.lt HZ2.out; omega
  have hg3 : gR < W3.heap.size := HBk0.out.lt
  rw [← hgR0]
  clear hW3 hgR0 HZ2 HB2 HO2 hz2'
  have HRel0 : Hid (RoRel cs n gR w W3 (.int .i64 (0 : Nat)) W3) := Lib.hid ⟨0, _, [], rfl, Nat.zero_le _, Lib.hid rfl, Lib.hid rfl, HBk0.out, HZ3.out, Lib.hid (KOwn.nil _ _ _), Below.refl _ _, HB3.out⟩
  go_wp2_with fail
  go_loopw [14] (fun v14 wr => RoRel cs n gR w W3 v14 wr) (fun v14 _ => n - (intOf v14).toNat)
  case atStart => exact HRel0.out
  case round =>
    clear HRel0 HBk0 HZ3
    obtain ⟨k, vK, its, rfl, hk, hil, Hits, hBk, hZ, HKO, hbW, hbw⟩ := hrel
    have hzr := hbw.size
    have hgR := hBk.lt
    have hil2 : its.length ≤ n := by rw [hil.out]; exact hk
    obtain ⟨AK, cK, rfl⟩ := HKO.out.own
    obtain ⟨l0, l1, l2, l3, l4, l5, l6, l7, l8, l9, l10, j0, j1, j2, j3, j4, j5, j6, j7, j8, j9, j10⟩ := li_facts hBk
    by_cases hlt : k < n
    · obtain ⟨bS, oS, rfl, hbS, hcell⟩ := reads_get HO3.out (by omega)
      have hkl : k < cs.length := by omega
      have hcc := hcell k hkl
      have hc5 : wr.cell? ⟨bS, oS + k, none⟩ = some (.string cs[k]) := (hbW.cell (p := ⟨bS, oS + k, none⟩) hbS).trans hcc
      have HSr := Lib.hid fun W => n_source cs[k] W
      obtain ⟨S, vs, hS, hkk, hown⟩ := HKO.out
      have hv7 := hown.lt
      have HKK := Lib.hid hkk
      have HSS := Lib.hid hS
      have HF9 : Hid (∀ W, Below wr.heap.size wr W → W.cell? ⟨gR, 10, none⟩ = some (.slice AK its.length cK) ∧ W.cell? ⟨bS, oS + k, none⟩ = some (.string cs[k]) ∧ (∀ o, (W.alloc o).cell? ⟨gR, 10, none⟩ = some (.slice AK its.length cK)) ∧ gR < W.heap.size) := Lib.hid fun W h => by
        have h1 := (hBk.below h hgR).cell 10
        have h2 : gR < W.heap.size := (hBk.below h hgR).lt
        exact ⟨h1, (h.cell (p := ⟨bS, oS + k, none⟩) (by show bS < _; omega)).trans hc5, fun o => (World.cell?_alloc_lt W o _ h2).trans h1, h2⟩
      have HRel : Hid (∀ (g cap : Nat) (w3 : World), Blk w3 gR 46 (liC 11 0 (.slice AK its.length cK)) → ZB w3 w.heap.size → KOwn w3 (gR + 1) (fun _ => False) (.slice (some ⟨g, 0, none⟩) (its.length + 1) cap) (its ++ [leafB 12 cs[k]]) → Below gR W3 w3 → Below w.heap.size w w3 → RoRel cs n gR w W3 (.int .i64 ((k : Int) + 1)) (w3.setCell ⟨gR, 10, none⟩ (.slice (some ⟨g, 0, none⟩) (its.length + 1) cap))) := Lib.hid fun g cap w3 h1 h2 h3 h4 h5 =>
        ⟨k + 1, _, its ++ [leafB 12 cs[k]], by go_num, by omega, Lib.hid (by rw [List.length_append, hil.out]; rfl), Lib.hid (by rw [List.take_succ_eq_append_getElem hkl, List.map_append, ← Hits.out]; rfl), h1.set_ 10 _, Blk.far h2 (by simp; omega) _, Lib.hid (h3.far (only_store (only_refl w3 (some gR)) 10 _) (by omega)), h4.setCell (p := ⟨gR, 10, none⟩) (Nat.le_refl _) _, h5.setCell (p := ⟨gR, 10, none⟩) (by show _ ≤ gR; omega) _⟩
      have hab : ∀ (Av : Option Addr) (nv cv : Nat), AnyB #[.int .i64 12, .int .i64 0, .string ⟨#[]⟩, .string ⟨#[]⟩, .string ⟨#[]⟩, .string ⟨#[]⟩, .string ⟨#[]⟩, .slice none 0 0, .slice none 0 0, .slice Av nv cv, .slice none 0 0] := fun Av nv cv => ⟨_, _, _, _, _, _, _, _, _, _, _, _, _, _, _, _, _, _, _, rfl⟩
      have HAB := Lib.hid hab
      clear hab hkk hS hcc hcell HKO Hits l0 l1 l2 l3 l4 l5 l6 l7 l8 l9 j0 j1 j2 j3 j4 j5 j6 j7 j8 j9 j10
      generalize cs[k] = y at *
      go_wp2_with fail
      refine wp_region_held_drew (S := fun _ => True) (by kernel_rfl) trivial (fun hHeld => ?_)
      refine wpAnyH_take (i := 0) (v := .pointer (some ⟨gR, 10, none⟩)) rfl (by kernel_rfl) (by kernel_rfl) (by kernel_rfl) (fun _ _ _ h => h) (Or.inl ⟨by kernel_rfl, fun W' hSw => ?_⟩) hHeld ?_
      · go_simp
      try simp only [Act.put, List.setIfInBounds_toArray, List.set_cons_zero, List.set_cons_succ]
      refine wpAnyH_take (i := 2) (v := .slice (some ⟨bS, oS, none⟩) n c5) rfl (by kernel_rfl) (by kernel_rfl) (by kernel_rfl) (fun _ _ _ h => h) (Or.inl ⟨by kernel_rfl, fun W' hSw => ?_⟩) hHeld ?_
      · go_simp
      try simp only [Act.put, List.setIfInBounds_toArray, List.set_cons_zero, List.set_cons_succ]
      refine wpAnyH_take (i := 3) (v := .int .i64 k) rfl (by kernel_rfl) (by kernel_rfl) (by kernel_rfl) (fun _ _ _ h => h) (Or.inl ⟨by kernel_rfl, fun W' hSw => ?_⟩) hHeld ?_
      · go_simp
      try simp only [Act.put, List.setIfInBounds_toArray, List.set_cons_zero, List.set_cons_succ]
      refine wpAnyH_take (i := 4) (v := .pointer (some ⟨bS, oS + k, none⟩)) rfl (by kernel_rfl) (by kernel_rfl) (by kernel_rfl) (fun _ _ _ h => h) (Or.inl ⟨by kernel_rfl, fun W' hSw => ?_⟩) hHeld ?_
      · go_simp
      try simp only [Act.put, List.setIfInBounds_toArray, List.set_cons_zero, List.set_cons_succ]
      refine wpAnyH_ready (rs := [1, 5]) (by kernel_rfl) (by simp) (AllReadyH.cons rfl (fun K hK => ?_) (AllReadyH.cons rfl (fun K hK => ?_) AllReadyH.nil))
      · go_simp
        refine hK.out _ _ trivial (fun hHeld => ?_)
        clear hK K
        try simp only [Act.put, List.setIfInBounds_toArray, List.set_cons_zero, List.set_cons_succ]
        refine wpAnyH_ready (rs := [5]) (by kernel_rfl) (by simp) (AllReadyH.cons rfl (fun K hK => ?_) AllReadyH.nil)
        go_simp
        refine hK.out _ _ trivial (fun hHeld => ?_)
        clear hK K
        try simp only [Act.put, List.setIfInBounds_toArray, List.set_cons_zero, List.set_cons_succ]
        refine wpAnyH_ready (rs := [6]) (by kernel_rfl) (by simp) (AllReadyH.cons rfl (fun K hK => ?_) AllReadyH.nil)
        go_simp
        ((with_reducible refine (HSr.out _).mono ?_))
        rintro e w9 ⟨v, rfl, hsrc, b8⟩
        have b9 : Below wr.heap.size wr w9 := (Below.refl wr.heap.size wr).drew.trans b8
        obtain ⟨Av, nv, cv, rfl⟩ := srcV_form hsrc
        obtain ⟨f10, f11, f12, f13⟩ := HF9.out _ b9
        have hk11 := f12 (.cells #[.int .i64 12, .int .i64 0, .string ⟨#[]⟩, .string ⟨#[]⟩, .string ⟨#[]⟩, .string ⟨#[]⟩, .string ⟨#[]⟩, .slice none 0 0, .slice none 0 0, .slice Av nv cv, .slice none 0 0] 46)
        have hz9 := b9.size
        go_simp
        refine hK.out _ _ trivial (fun hHeld => ?_)
        clear hK K
        try simp only [Act.put, List.setIfInBounds_toArray, List.set_cons_zero, List.set_cons_succ]
        refine wpAnyH_ready (rs := [7]) (by kernel_rfl) (by simp) (AllReadyH.cons rfl (fun K hK => ?_) AllReadyH.nil)
        go_simp
        refine hK.out _ _ trivial (fun hHeld => ?_)
        clear hK K
        try simp only [Act.put, List.setIfInBounds_toArray, List.set_cons_zero, List.set_cons_succ]
        refine wpAnyH_ready (rs := [8]) (by kernel_rfl) (by simp) (AllReadyH.cons rfl (fun K hK => ?_) AllReadyH.nil)
        go_simp
        refine hK.out _ _ trivial (fun hHeld => ?_)
        clear hK K
        try simp only [Act.put, List.setIfInBounds_toArray, List.set_cons_zero, List.set_cons_succ]
        refine wpAnyH_ready (rs := [9]) (by kernel_rfl) (by simp) (AllReadyH.cons rfl (fun K hK => ?_) AllReadyH.nil)
        refine step_append_lies _ rfl (.tmp 18) (.tmp 25) 25 rfl (gR + 1) 46 i0 _ 11 192 Tryz.underlying25 hi0 hz0 hz1 hz2 rfl (by decide) _ _ _ rfl ((own_below hown b9).alloc _) ⟨w9.heap.size, 0, none⟩ 1 1 #[.int .i64 12, .int .i64 0, .string ⟨#[]⟩, .string ⟨#[]⟩, .string ⟨#[]⟩, .string ⟨#[]⟩, .string ⟨#[]⟩, .slice none 0 0, .slice none 0 0, .slice Av nv cv, .slice none 0 0].toList rfl rfl ?c1 (HAB.out _ _ _).one (by decide) ?c3 ?c4 ?c5 (w9.heap.size + 1) ?c6 ?_
        case c1 => exact World.news_of_block (t := 46) (fr := (0, 0)) (cs := #[.int .i64 12, .int .i64 0, .string ⟨#[]⟩, .string ⟨#[]⟩, .string ⟨#[]⟩, .string ⟨#[]⟩, .string ⟨#[]⟩, .slice none 0 0, .slice none 0 0, .slice Av nv cv, .slice none 0 0]) (heap_alloc_new w9 _)
        case c3 => unfold maxLen; omega
        case c4 => omega
        case c5 => simp; omega
        case c6 => simp
        intro g7 cap7 w3 hown3 hgrow hlies hlt3
        refine hK.out _ _ trivial (fun hHeld => ?_)
        clear hK K
        try simp only [Act.put, List.setIfInBounds_toArray, List.set_cons_zero, List.set_cons_succ]
        have HKO3 := Lib.hid (KOwn.push (E := fun _ => False) HSS.out HKK.out b9 (fun k h => (hv7 k h).2) (fun k h => h.elim) (by omega) hz9 (repB_leaf (kind := 12) (srcV_low hsrc (Nat.le_refl _))) hown3 hgrow hlies (Nat.le_succ _))
        have HBk3 : Hid (Blk w3 gR 46 (liC 11 0 (.slice AK its.length cK))) := Lib.hid ((Blk.alloc (hBk.below b9 hgR) _).grown hgrow (fun e => by have := (hv7 _ e.symm).1; omega))
        have HZ3 : Hid (ZB w3 w.heap.size) := Lib.hid (Blk.grown (Blk.alloc (hZ.below (w := w) b9) _) hgrow (fun e => by have := (hv7 _ e.symm).1; omega))
        have HB3 : Hid (Below gR W3 w3) := Lib.hid (((hbW.trans (b9.mono (by omega))).alloc (by omega) _).grown hgrow (by simp; omega) (fun k e => by have := (hv7 k e).1; omega))
        have HW3 : Hid (Below w.heap.size w w3) := Lib.hid (((hbw.trans (b9.mono (by omega))).alloc (by omega) _).grown hgrow (by simp; omega) (fun k e => by have := (hv7 k e).1; omega))
        obtain ⟨l0, l1, l2, l3, l4, l5, l6, l7, l8, l9, l10, j0, j1, j2, j3, j4, j5, j6, j7, j8, j9, j10⟩ := li_facts HBk3.out
        have hg3 := HBk3.out.lt
        clear l0 l1 l2 l3 l4 l5 l6 l7 l8 l9 j0 j1 j2 j3 j4 j5 j6 j7 j8 j9
        refine wpAnyH_ready (rs := [10]) (by kernel_rfl) (by simp) (AllReadyH.cons rfl (fun K hK => ?_) AllReadyH.nil)
        go_simp
        refine hK.out _ _ trivial (fun hHeld => ?_)
        clear hK K
        try simp only [Act.put, List.setIfInBounds_toArray, List.set_cons_zero, List.set_cons_succ]
        refine wpAnyH_ready (rs := [11]) (by kernel_rfl) (by simp) (AllReadyH.cons rfl (fun K hK => ?_) AllReadyH.nil)
        go_simp
        refine hK.out _ _ trivial (fun hHeld => ?_)
        clear hK K
        try simp only [Act.put, List.setIfInBounds_toArray, List.set_cons_zero, List.set_cons_succ]
        refine wpAnyH_done (by kernel_rfl) ?_ _
        go_wp2_with fail
        go_roundw
        case rel => exact HRel.out _ _ _ HBk3.out HZ3.out HKO3.out HB3.out HW3.out
        case measure => simp [intOf]; omega
      · go_simp
        refine hK.out _ _ trivial (fun hHeld => ?_)
        clear hK K
        try simp only [Act.put, List.setIfInBounds_toArray, List.set_cons_zero, List.set_cons_succ]
        refine wpAnyH_ready (rs := [1, 6]) (by kernel_rfl) (by simp) (AllReadyH.cons rfl (fun K hK => ?_) (AllReadyH.cons rfl (fun K hK => ?_) AllReadyH.nil))
        · go_simp
          refine hK.out _ _ trivial (fun hHeld => ?_)
          clear hK K
          try simp only [Act.put, List.setIfInBounds_toArray, List.set_cons_zero, List.set_cons_succ]
          refine wpAnyH_ready (rs := [6]) (by kernel_rfl) (by simp) (AllReadyH.cons rfl (fun K hK => ?_) AllReadyH.nil)
          go_simp
          ((with_reducible refine (HSr.out _).mono ?_))
          rintro e w9 ⟨v, rfl, hsrc, b8⟩
          have b9 : Below wr.heap.size wr w9 := (Below.refl wr.heap.size wr).drew.trans b8
          obtain ⟨Av, nv, cv, rfl⟩ := srcV_form hsrc
          obtain ⟨f10, f11, f12, f13⟩ := HF9.out _ b9
          have hk11 := f12 (.cells #[.int .i64 12, .int .i64 0, .string ⟨#[]⟩, .string ⟨#[]⟩, .string ⟨#[]⟩, .string ⟨#[]⟩, .string ⟨#[]⟩, .slice none 0 0, .slice none 0 0, .slice Av nv cv, .slice none 0 0] 46)
          have hz9 := b9.size
          go_simp
          refine hK.out _ _ trivial (fun hHeld => ?_)
          clear hK K
          try simp only [Act.put, List.setIfInBounds_toArray, List.set_cons_zero, List.set_cons_succ]
          refine wpAnyH_ready (rs := [7]) (by kernel_rfl) (by simp) (AllReadyH.cons rfl (fun K hK => ?_) AllReadyH.nil)
          go_simp
          refine hK.out _ _ trivial (fun hHeld => ?_)
          clear hK K
          try simp only [Act.put, List.setIfInBounds_toArray, List.set_cons_zero, List.set_cons_succ]
          refine wpAnyH_ready (rs := [8]) (by kernel_rfl) (by simp) (AllReadyH.cons rfl (fun K hK => ?_) AllReadyH.nil)
          go_simp
          refine hK.out _ _ trivial (fun hHeld => ?_)
          clear hK K
          try simp only [Act.put, List.setIfInBounds_toArray, List.set_cons_zero, List.set_cons_succ]
          refine wpAnyH_ready (rs := [9]) (by kernel_rfl) (by simp) (AllReadyH.cons rfl (fun K hK => ?_) AllReadyH.nil)
          refine step_append_lies _ rfl (.tmp 18) (.tmp 25) 25 rfl (gR + 1) 46 i0 _ 11 192 Tryz.underlying25 hi0 hz0 hz1 hz2 rfl (by decide) _ _ _ rfl ((own_below hown b9).alloc _) ⟨w9.heap.size, 0, none⟩ 1 1 #[.int .i64 12, .int .i64 0, .string ⟨#[]⟩, .string ⟨#[]⟩, .string ⟨#[]⟩, .string ⟨#[]⟩, .string ⟨#[]⟩, .slice none 0 0, .slice none 0 0, .slice Av nv cv, .slice none 0 0].toList rfl rfl ?c1 (HAB.out _ _ _).one (by decide) ?c3 ?c4 ?c5 (w9.heap.size + 1) ?c6 ?_
          case c1 => exact World.news_of_block (t := 46) (fr := (0, 0)) (cs := #[.int .i64 12, .int .i64 0, .string ⟨#[]⟩, .string ⟨#[]⟩, .string ⟨#[]⟩, .string ⟨#[]⟩, .string ⟨#[]⟩, .slice none 0 0, .slice none 0 0, .slice Av nv cv, .slice none 0 0]) (heap_alloc_new w9 _)
          case c3 => unfold maxLen; omega
          case c4 => omega
          case c5 => simp; omega
          case c6 => simp
          intro g7 cap7 w3 hown3 hgrow hlies hlt3
          refine hK.out _ _ trivial (fun hHeld => ?_)
          clear hK K
          try simp only [Act.put, List.setIfInBounds_toArray, List.set_cons_zero, List.set_cons_succ]
          have HKO3 := Lib.hid (KOwn.push (E := fun _ => False) HSS.out HKK.out b9 (fun k h => (hv7 k h).2) (fun k h => h.elim) (by omega) hz9 (repB_leaf (kind := 12) (srcV_low hsrc (Nat.le_refl _))) hown3 hgrow hlies (Nat.le_succ _))
          have HBk3 : Hid (Blk w3 gR 46 (liC 11 0 (.slice AK its.length cK))) := Lib.hid ((Blk.alloc (hBk.below b9 hgR) _).grown hgrow (fun e => by have := (hv7 _ e.symm).1; omega))
          have HZ3 : Hid (ZB w3 w.heap.size) := Lib.hid (Blk.grown (Blk.alloc (hZ.below (w := w) b9) _) hgrow (fun e => by have := (hv7 _ e.symm).1; omega))
          have HB3 : Hid (Below gR W3 w3) := Lib.hid (((hbW.trans (b9.mono (by omega))).alloc (by omega) _).grown hgrow (by simp; omega) (fun k e => by have := (hv7 k e).1; omega))
          have HW3 : Hid (Below w.heap.size w w3) := Lib.hid (((hbw.trans (b9.mono (by omega))).alloc (by omega) _).grown hgrow (by simp; omega) (fun k e => by have := (hv7 k e).1; omega))
          obtain ⟨l0, l1, l2, l3, l4, l5, l6, l7, l8, l9, l10, j0, j1, j2, j3, j4, j5, j6, j7, j8, j9, j10⟩ := li_facts HBk3.out
          have hg3 := HBk3.out.lt
          clear l0 l1 l2 l3 l4 l5 l6 l7 l8 l9 j0 j1 j2 j3 j4 j5 j6 j7 j8 j9
          refine wpAnyH_ready (rs := [10]) (by kernel_rfl) (by simp) (AllReadyH.cons rfl (fun K hK => ?_) AllReadyH.nil)
          go_simp
          refine hK.out _ _ trivial (fun hHeld => ?_)
          clear hK K
          try simp only [Act.put, List.setIfInBounds_toArray, List.set_cons_zero, List.set_cons_succ]
          refine wpAnyH_ready (rs := [11]) (by kernel_rfl) (by simp) (AllReadyH.cons rfl (fun K hK => ?_) AllReadyH.nil)
          go_simp
          refine hK.out _ _ trivial (fun hHeld => ?_)
          clear hK K
          try simp only [Act.put, List.setIfInBounds_toArray, List.set_cons_zero, List.set_cons_succ]
          refine wpAnyH_done (by kernel_rfl) ?_ _
          go_wp2_with fail
          go_roundw
          case rel => exact HRel.out _ _ _ HBk3.out HZ3.out HKO3.out HB3.out HW3.out
          case measure => simp [intOf]; omega
        · go_simp
          ((with_reducible refine (HSr.out _).mono ?_))
          rintro e w9 ⟨v, rfl, hsrc, b8⟩
          have b9 : Below wr.heap.size wr w9 := (Below.refl wr.heap.size wr).drew.trans b8
          obtain ⟨Av, nv, cv, rfl⟩ := srcV_form hsrc
          obtain ⟨f10, f11, f12, f13⟩ := HF9.out _ b9
          have hk11 := f12 (.cells #[.int .i64 12, .int .i64 0, .string ⟨#[]⟩, .string ⟨#[]⟩, .string ⟨#[]⟩, .string ⟨#[]⟩, .string ⟨#[]⟩, .slice none 0 0, .slice none 0 0, .slice Av nv cv, .slice none 0 0] 46)
          have hz9 := b9.size
          go_simp
          refine hK.out _ _ trivial (fun hHeld => ?_)
          clear hK K
          try simp only [Act.put, List.setIfInBounds_toArray, List.set_cons_zero, List.set_cons_succ]
          refine wpAnyH_take (i := 7) (v := .agg #[.int .i64 12, .int .i64 0, .string ⟨#[]⟩, .string ⟨#[]⟩, .string ⟨#[]⟩, .string ⟨#[]⟩, .string ⟨#[]⟩, .slice none 0 0, .slice none 0 0, .slice Av nv cv, .slice none 0 0]) rfl (by kernel_rfl) (by kernel_rfl) (by kernel_rfl) (fun _ _ _ h => h) (Or.inl ⟨by kernel_rfl, fun W' hSw => ?_⟩) hHeld ?_
          · go_simp
          try simp only [Act.put, List.setIfInBounds_toArray, List.set_cons_zero, List.set_cons_succ]
          refine wpAnyH_ready (rs := [1, 8]) (by kernel_rfl) (by simp) (AllReadyH.cons rfl (fun K hK => ?_) (AllReadyH.cons rfl (fun K hK => ?_) AllReadyH.nil))
          · go_simp
            refine hK.out _ _ trivial (fun hHeld => ?_)
            clear hK K
            try simp only [Act.put, List.setIfInBounds_toArray, List.set_cons_zero, List.set_cons_succ]
            refine wpAnyH_ready (rs := [8]) (by kernel_rfl) (by simp) (AllReadyH.cons rfl (fun K hK => ?_) AllReadyH.nil)
            go_simp
            refine hK.out _ _ trivial (fun hHeld => ?_)
            clear hK K
            try simp only [Act.put, List.setIfInBounds_toArray, List.set_cons_zero, List.set_cons_succ]
            refine wpAnyH_ready (rs := [9]) (by kernel_rfl) (by simp) (AllReadyH.cons rfl (fun K hK => ?_) AllReadyH.nil)
            refine step_append_lies _ rfl (.tmp 18) (.tmp 25) 25 rfl (gR + 1) 46 i0 _ 11 192 Tryz.underlying25 hi0 hz0 hz1 hz2 rfl (by decide) _ _ _ rfl ((own_below hown b9).alloc _) ⟨w9.heap.size, 0, none⟩ 1 1 #[.int .i64 12, .int .i64 0, .string ⟨#[]⟩, .string ⟨#[]⟩, .string ⟨#[]⟩, .string ⟨#[]⟩, .string ⟨#[]⟩, .slice none 0 0, .slice none 0 0, .slice Av nv cv, .slice none 0 0].toList rfl rfl ?c1 (HAB.out _ _ _).one (by decide) ?c3 ?c4 ?c5 (w9.heap.size + 1) ?c6 ?_
            case c1 => exact World.news_of_block (t := 46) (fr := (0, 0)) (cs := #[.int .i64 12, .int .i64 0, .string ⟨#[]⟩, .string ⟨#[]⟩, .string ⟨#[]⟩, .string ⟨#[]⟩, .string ⟨#[]⟩, .slice none 0 0, .slice none 0 0, .slice Av nv cv, .slice none 0 0]) (heap_alloc_new w9 _)
            case c3 => unfold maxLen; omega
            case c4 => omega
            case c5 => simp; omega
            case c6 => simp
            intro g7 cap7 w3 hown3 hgrow hlies hlt3
            refine hK.out _ _ trivial (fun hHeld => ?_)
            clear hK K
            try simp only [Act.put, List.setIfInBounds_toArray, List.set_cons_zero, List.set_cons_succ]
            have HKO3 := Lib.hid (KOwn.push (E := fun _ => False) HSS.out HKK.out b9 (fun k h => (hv7 k h).2) (fun k h => h.elim) (by omega) hz9 (repB_leaf (kind := 12) (srcV_low hsrc (Nat.le_refl _))) hown3 hgrow hlies (Nat.le_succ _))
            have HBk3 : Hid (Blk w3 gR 46 (liC 11 0 (.slice AK its.length cK))) := Lib.hid ((Blk.alloc (hBk.below b9 hgR) _).grown hgrow (fun e => by have := (hv7 _ e.symm).1; omega))
            have HZ3 : Hid (ZB w3 w.heap.size) := Lib.hid (Blk.grown (Blk.alloc (hZ.below (w := w) b9) _) hgrow (fun e => by have := (hv7 _ e.symm).1; omega))
            have HB3 : Hid (Below gR W3 w3) := Lib.hid (((hbW.trans (b9.mono (by omega))).alloc (by omega) _).grown hgrow (by simp; omega) (fun k e => by have := (hv7 k e).1; omega))
            have HW3 : Hid (Below w.heap.size w w3) := Lib.hid (((hbw.trans (b9.mono (by omega))).alloc (by omega) _).grown hgrow (by simp; omega) (fun k e => by have := (hv7 k e).1; omega))
            obtain ⟨l0, l1, l2, l3, l4, l5, l6, l7, l8, l9, l10, j0, j1, j2, j3, j4, j5, j6, j7, j8, j9, j10⟩ := li_facts HBk3.out
            have hg3 := HBk3.out.lt
            clear l0 l1 l2 l3 l4 l5 l6 l7 l8 l9 j0 j1 j2 j3 j4 j5 j6 j7 j8 j9
            refine wpAnyH_ready (rs := [10]) (by kernel_rfl) (by simp) (AllReadyH.cons rfl (fun K hK => ?_) AllReadyH.nil)
            go_simp
            refine hK.out _ _ trivial (fun hHeld => ?_)
            clear hK K
            try simp only [Act.put, List.setIfInBounds_toArray, List.set_cons_zero, List.set_cons_succ]
            refine wpAnyH_ready (rs := [11]) (by kernel_rfl) (by simp) (AllReadyH.cons rfl (fun K hK => ?_) AllReadyH.nil)
            go_simp
            refine hK.out _ _ trivial (fun hHeld => ?_)
            clear hK K
            try simp only [Act.put, List.setIfInBounds_toArray, List.set_cons_zero, List.set_cons_succ]
            refine wpAnyH_done (by kernel_rfl) ?_ _
            go_wp2_with fail
            go_roundw
            case rel => exact HRel.out _ _ _ HBk3.out HZ3.out HKO3.out HB3.out HW3.out
            case measure => simp [intOf]; omega
          · go_simp
            refine hK.out _ _ trivial (fun hHeld => ?_)
            clear hK K
            try simp only [Act.put, List.setIfInBounds_toArray, List.set_cons_zero, List.set_cons_succ]
            refine wpAnyH_ready (rs := [1]) (by kernel_rfl) (by simp) (AllReadyH.cons rfl (fun K hK => ?_) AllReadyH.nil)
            go_simp
            refine hK.out _ _ trivial (fun hHeld => ?_)
            clear hK K
            try simp only [Act.put, List.setIfInBounds_toArray, List.set_cons_zero, List.set_cons_succ]
            refine wpAnyH_ready (rs := [9]) (by kernel_rfl) (by simp) (AllReadyH.cons rfl (fun K hK => ?_) AllReadyH.nil)
            refine step_append_lies _ rfl (.tmp 18) (.tmp 25) 25 rfl (gR + 1) 46 i0 _ 11 192 Tryz.underlying25 hi0 hz0 hz1 hz2 rfl (by decide) _ _ _ rfl ((own_below hown b9).alloc _) ⟨w9.heap.size, 0, none⟩ 1 1 #[.int .i64 12, .int .i64 0, .string ⟨#[]⟩, .string ⟨#[]⟩, .string ⟨#[]⟩, .string ⟨#[]⟩, .string ⟨#[]⟩, .slice none 0 0, .slice none 0 0, .slice Av nv cv, .slice none 0 0].toList rfl rfl ?c1 (HAB.out _ _ _).one (by decide) ?c3 ?c4 ?c5 (w9.heap.size + 1) ?c6 ?_
            case c1 => exact World.news_of_block (t := 46) (fr := (0, 0)) (cs := #[.int .i64 12, .int .i64 0, .string ⟨#[]⟩, .string ⟨#[]⟩, .string ⟨#[]⟩, .string ⟨#[]⟩, .string ⟨#[]⟩, .slice none 0 0, .slice none 0 0, .slice Av nv cv, .slice none 0 0]) (heap_alloc_new w9 _)
            case c3 => unfold maxLen; omega
            case c4 => omega
            case c5 => simp; omega
            case c6 => simp
            intro g7 cap7 w3 hown3 hgrow hlies hlt3
            refine hK.out _ _ trivial (fun hHeld => ?_)
            clear hK K
            try simp only [Act.put, List.setIfInBounds_toArray, List.set_cons_zero, List.set_cons_succ]
            have HKO3 := Lib.hid (KOwn.push (E := fun _ => False) HSS.out HKK.out b9 (fun k h => (hv7 k h).2) (fun k h => h.elim) (by omega) hz9 (repB_leaf (kind := 12) (srcV_low hsrc (Nat.le_refl _))) hown3 hgrow hlies (Nat.le_succ _))
            have HBk3 : Hid (Blk w3 gR 46 (liC 11 0 (.slice AK its.length cK))) := Lib.hid ((Blk.alloc (hBk.below b9 hgR) _).grown hgrow (fun e => by have := (hv7 _ e.symm).1; omega))
            have HZ3 : Hid (ZB w3 w.heap.size) := Lib.hid (Blk.grown (Blk.alloc (hZ.below (w := w) b9) _) hgrow (fun e => by have := (hv7 _ e.symm).1; omega))
            have HB3 : Hid (Below gR W3 w3) := Lib.hid (((hbW.trans (b9.mono (by omega))).alloc (by omega) _).grown hgrow (by simp; omega) (fun k e => by have := (hv7 k e).1; omega))
            have HW3 : Hid (Below w.heap.size w w3) := Lib.hid (((hbw.trans (b9.mono (by omega))).alloc (by omega) _).grown hgrow (by simp; omega) (fun k e => by have := (hv7 k e).1; omega))
            obtain ⟨l0, l1, l2, l3, l4, l5, l6, l7, l8, l9, l10, j0, j1, j2, j3, j4, j5, j6, j7, j8, j9, j10⟩ := li_facts HBk3.out
            have hg3 := HBk3.out.lt
            clear l0 l1 l2 l3 l4 l5 l6 l7 l8 l9 j0 j1 j2 j3 j4 j5 j6 j7 j8 j9
            refine wpAnyH_ready (rs := [10]) (by kernel_rfl) (by simp) (AllReadyH.cons rfl (fun K hK => ?_) AllReadyH.nil)
            go_simp
            refine hK.out _ _ trivial (fun hHeld => ?_)
            clear hK K
            try simp only [Act.put, List.setIfInBounds_toArray, List.set_cons_zero, List.set_cons_succ]
            refine wpAnyH_ready (rs := [11]) (by kernel_rfl) (by simp) (AllReadyH.cons rfl (fun K hK => ?_) AllReadyH.nil)
            go_simp
            refine hK.out _ _ trivial (fun hHeld => ?_)
            clear hK K
            try simp only [Act.put, List.setIfInBounds_toArray, List.set_cons_zero, List.set_cons_succ]
            refine wpAnyH_done (by kernel_rfl) ?_ _
            go_wp2_with fail
            go_roundw
            case rel => exact HRel.out _ _ _ HBk3.out HZ3.out HKO3.out HB3.out HW3.out
            case measure => simp [intOf]; omega
    · obtain rfl : k = n := by omega
      have HKf := Lib.hid (show Hid (its = cs.map (leafB 12)) from Lib.hid (by rw [Hits.out, List.take_of_length_le (by omega)]))
      have HBkr := Lib.hid hBk
      have HZr := Lib.hid hZ
      have HBr := Lib.hid hbw
      obtain ⟨k0, k1, k2, k3, k4, k5, k6, k7, k8, k9, k10, y0, y1, y2, y3, y4, y5, y6, y7, y8, y9, y10⟩ := ZB.facts hZ
      clear Hits hBk hZ hbw hbW j0 j1 j2 j3 j4 j5 j6 j7 j8 j9 j10
      go_wp2_with fail
      refine rowOf_ret (blk11 HZr.out _ _ _ _ _ _ _ _ _ _ _) rfl rfl ⟨⟨_, rfl, ?_⟩, below11 HBr.out (Nat.le_refl _) _ _ _ _ _ _ _ _ _ _ _⟩
      rw [HRT.out, ← HKf.out.out]
      have hlow : B ≤ gR + 1 := by omega
      have hfar : w.heap.size < gR + 1 := by omega
      exact repB_mk (kind := 11) (level := 0) (att := emptyA) (AttR.empty _ _ _ _) (srcV_none _ _) ((KOwn.kids (HKO.out.far (grown11 _ _ _ _ _ _ _ _ _ _ _ _ _) hfar)).low hlow)

end Go.Proofs.YtpoafhgbhnblmaaGreatDoor
namespace Go.Proofs.YtpoafhgbhnblmaaGreatDoor
open Go.RowKit Go.Pub
theorem tableTo_bd (zs : List ByteArray) (i : Nat) (hi : i + 1 < zs.length) : i + 2 ≤ tableTo zs i ∧ tableTo zs i ≤ zs.length := by
  have := seek_spec (fun j => !decide (kindOf zs j = 0)) zs.length (i + 2) (by omega)
  exact ⟨this.1, this.2.1⟩
def rowsK (zs : List ByteArray) (i n k : Nat) : List BkT := rowT (ln zs i) n :: (cutL zs (i + 2) k).map fun z => rowT z n
theorem rowsK_succ (zs : List ByteArray) (i n k : Nat) (h : i + 2 ≤ k) (hk : k < zs.length) : rowsK zs i n (k + 1) = rowsK zs i n k ++ [rowT (ln zs k) n] := by
  unfold rowsK
  rw [cutL_succ zs (i + 2) k h hk, List.map_append, List.cons_append]
  rfl
theorem rowsK_len (zs : List ByteArray) (i n k : Nat) (h : i + 2 ≤ k) (hk : k ≤ zs.length) : (rowsK zs i n k).length = k - i - 1 := by
  unfold rowsK; rw [List.length_cons, List.length_map, cutL_len _ _ _ h hk]; omega
def TbRel (zs : List ByteArray) (i n : Nat) (w : World) (v11 v12 : Value) (wr : World) : Prop :=
  ∃ k : Nat, v12 = .int .i64 k ∧ i + 2 ≤ k ∧ k ≤ zs.length ∧ Hid (KOwn wr (w.heap.size + 1) (fun _ => False) v11 (rowsK zs i n k)) ∧ ZB wr w.heap.size ∧ Below w.heap.size w wr ∧ Hid (∀ j, i + 2 ≤ j → j < k → kindOf zs j = 0)
/-- The first block of a row that was just laid. -/
theorem KOwn.lit {W : World} {B base : Nat} {vb : Array Value} {b : BkT} (hb : RepB W (Rg B W) vb b) (hB : base ≤ B) (hBw : base ≤ W.heap.size) : KOwn (W.alloc (.cells vb 46)) base (fun _ => False) (.slice (some ⟨W.heap.size, 0, none⟩) 1 1) [b] := by
  refine ⟨Rg B W, [vb], fun g hg => ⟨Nat.le_trans hB hg.1, by simp; exact Nat.lt_succ_of_lt hg.2, ?_, fun h => h⟩, .cons _ _ _ _ (hb.keep (fun g hg => Below.heap_alloc W _ g hg.2) fun _ h => h) .nil, ?_⟩
  · intro e
    have : W.heap.size = g := by simpa [Value.ownBlock] using e
    have := hg.2
    omega
  · have h := World.ownsRow_lit (base := base) (size := 11) (e := 46) W vb 1 hBw (by decide) hb.size
    simpa using h
set_option maxRecDepth 100000 in
set_option maxHeartbeats 2000000 in
theorem n_table (d : Nat) (hd : d ≤ 15) (zs : List ByteArray) (A : Option Addr) (c i B : Nat) (MM : Int) (w : World) (hL : LinesAt w A zs MM) (hi : i + 1 < zs.length) (hB : B ≤ w.heap.size) (r : List UInt8) (hr : alignR (bytesL (ln zs (i + 1))) = some r) :
    Calls Tryz.prog 78 #[.slice A zs.length c, .int .i64 i, .int .i64 d] w
      (BkPost B (if decide (d + 2 ≤ 15) = true then some (tableB zs i r, tableTo zs i) else none) w) := by
  have hlen := hL.len
  have hrl := alnR_len hr
  obtain ⟨i0, hi0, hz0, hz1, hz2⟩ := info_parts block_info
  obtain ⟨b, off, rfl, hb, hcell⟩ := hL.get (by omega)
  have HCell := Lib.hid hcell
  have HLi := Lib.hid hL
  obtain ⟨PR, hPR⟩ : ∃ PR, PR = if decide (d + 2 ≤ 15) = true then some (tableB zs i r, tableTo zs i) else none := ⟨_, rfl⟩
  rw [← hPR]
  have HPR := Lib.hid hPR
  clear hPR
  have HZ0 := Lib.hid (Blk.new w 46 zbC)
  unfold zbC at HZ0
  have HB0 : Hid (∀ o, Below w.heap.size w (w.alloc o)) := Lib.hid fun o => (Below.refl _ w).alloc (Nat.le_refl _) _
  by_cases hd2 : d + 2 ≤ 15
  case neg =>
    have d1 : decide (15 < (d : Int) + 2) = true := decide_eq_true (by omega)
    obtain ⟨k0, k1, k2, k3, k4, k5, k6, k7, k8, k9, k10, y0, y1, y2, y3, y4, y5, y6, y7, y8, y9, y10⟩ := ZB.facts HZ0.out
    clear hL hcell
    go_enter Tryz.func78, Tryz.ntmps78
    go_wp2_with fail
    exact tableAt_ret HZ0.out rfl rfl rfl rfl (bk_none (by rw [HPR.out, if_neg (by rw [decide_eq_true_eq]; exact hd2)]) ⟨_, _, _, _, _, _, _, _, _, _, _, _, _, _, _, _, _, _, _, rfl⟩ (HB0.out _))
  have d1 : decide (15 < (d : Int) + 2) = false := decide_eq_false (by omega)
  have HPR2 : Hid (PR = some (tableB zs i r, tableTo zs i)) := Lib.hid (by rw [HPR.out, if_pos (decide_eq_true hd2)])
  have HAl : Hid (∀ W, Calls Tryz.prog 119 #[.string (ln zs (i + 1))] W fun e w' => e = .returned (.tuple #[.string (mk r), .bool true]) ∧ Below W.heap.size W w') := Lib.hid fun W => (t_align (ln zs (i + 1)) W (Nat.le_trans (ln_size hL.sz _) (by decide))).mono fun e w' h => by
    rw [hr] at h; exact h
  have hms : (mk r).size = r.length := mk_size r
  have HRow : Hid (∀ (j B : Nat) (W : World), W.cell? ⟨0, 0, none⟩ = some (.int .i64 MM) → B ≤ W.heap.size → Calls Tryz.prog 121 #[.string (ln zs j), .int .i64 (mk r).size] W fun e w' => (∃ v, e = .returned (.agg v) ∧ RepB w' (Rg B w') v (rowT (ln zs j) (mk r).size)) ∧ Below W.heap.size W w') := Lib.hid fun j B W h hB => n_row (ln zs j) (mk r).size B MM W (ln_size hL.sz j) (by omega) h hB
  have HM : Hid (∀ j W, Calls Tryz.prog 38 #[.string (ln zs j)] W fun e w' => ∃ A c D d, e = .returned (.agg ((markM (ln zs j)).cells (.slice A (markM (ln zs j)).att.cl.length c) (.slice D (markM (ln zs j)).att.pr.length d))) ∧ Below W.heap.size W w') := Lib.hid fun j W => (m_of (ln zs j) W (Nat.le_trans (ln_size hL.sz j) (by decide))).mono fun e w' => mkpost_val
  have htb := tableTo_bd zs i hi
  have HTB : Hid (tableB zs i r = .mk 10 0 (mk r) ⟨#[]⟩ ⟨#[]⟩ ⟨#[]⟩ emptyA ⟨#[]⟩ (rowsK zs i (mk r).size (tableTo zs i))) := Lib.hid (by rw [hms]; rfl)
  have HR0 : Hid (rowsK zs i (mk r).size (i + 2) = [rowT (ln zs i) (mk r).size]) := Lib.hid (by unfold rowsK cutL; simp)
  have HRs := Lib.hid fun k => rowsK_succ zs i (mk r).size k
  have HRl := Lib.hid fun k => rowsK_len zs i (mk r).size k
  have HSt : Hid (∀ k, i + 2 ≤ k → k ≤ zs.length → (∀ j, i + 2 ≤ j → j < k → kindOf zs j = 0) → (k < zs.length → kindOf zs k ≠ 0) → tableTo zs i = k) := Lib.hid fun k h1 h2 h3 h4 => seek_eq _ _ _ _ h1 h2 (fun j a b => by rw [h3 j a b]; rfl) (fun h => by rw [decide_eq_false (h4 h)]; rfl)
  have HFd := Lib.hid mark_field
  have hc1 : ∀ o, (w.alloc o).cell? ⟨b, off + (i + 1), none⟩ = some (.string (ln zs (i + 1))) := fun o => ((HB0.out o).cell (p := ⟨b, off + (i + 1), none⟩) hb).trans (hcell (i + 1) hi)
  have HC1 := Lib.hid hc1
  clear hL hcell hr hms hc1 HPR
  go_enter Tryz.func78, Tryz.ntmps78
  have hc1 := HC1.out (.cells #[.int .i64 0, .int .i64 0, .string ⟨#[]⟩, .string ⟨#[]⟩, .string ⟨#[]⟩, .string ⟨#[]⟩, .string ⟨#[]⟩, .slice none 0 0, .slice none 0 0, .slice none 0 0, .slice none 0 0] 46)
  go_wp2_with fail
  ((with_reducible refine (HAl.out _).mono ?_))
  rintro e w1 ⟨rfl, b1⟩
  have HZ1 := Lib.hid (show ZB w1 w.heap.size from Blk.below HZ0.out b1 (by simp))
  have HB1 := Lib.hid ((HB0.out (.cells #[.int .i64 0, .int .i64 0, .string ⟨#[]⟩, .string ⟨#[]⟩, .string ⟨#[]⟩, .string ⟨#[]⟩, .string ⟨#[]⟩, .slice none 0 0, .slice none 0 0, .slice none 0 0, .slice none 0 0] 46)).trans (b1.mono (by simp)))
  have hz1' := HZ1.out.lt
  have hc2 := (HB1.out.cell (p := ⟨b, off + i, none⟩) hb).trans (HCell.out i (by omega))
  have HRw1 := Lib.hid (HRow.out i (w.heap.size + 1) w1 (HLi.out.below HB1.out).cell hz1')
  clear b1 HAl hc1 HC1 HB0 HZ0
  go_wp2_with fail
  ((with_reducible refine (HRw1.out).mono ?_))
  rintro e w2 ⟨⟨v, rfl, hrep⟩, b2⟩
  have HZ2 := Lib.hid (HZ1.out.below (w := w) b2)
  have HB2 := Lib.hid (HB1.out.trans (b2.mono HB1.out.size))
  have hz2' := HZ2.out.lt
  have HK2 := Lib.hid (KOwn.lit (base := w.heap.size + 1) hrep (Nat.le_refl _) hz2')
  obtain ⟨f0, f1, f2, f3, f4, f5, f6, D9, n9, c9, D10, n10, c10, D11, n11, c11, D12, n12, c12, rfl⟩ := hrep.form
  clear hrep b2 hc2 HRw1 HZ1 HB1
  go_upto_block 0 with fail
  generalize hW3 : w2.alloc _ = W3
  have HZ3 : Hid (ZB W3 w.heap.size) := Lib.hid (by rw [← hW3]; exact Blk.alloc HZ2.out _)
  have HB3 : Hid (Below w.heap.size w W3) := Lib.hid (by rw [← hW3]; exact HB2.out.alloc HB2.out.size _)
  have HK3 : Hid (KOwn W3 (w.heap.size + 1) (fun _ => False) (.slice (some ⟨w2.heap.size, 0, none⟩) 1 1) (rowsK zs i (mk r).size (i + 2))) := Lib.hid (by rw [← hW3, HR0.out]; exact HK2.out)
  clear hW3 HK2 HZ2 HB2 hz2' hz1'
  generalize w2.heap.size = g2 at *
  go_cut [11, 12] (fun s11 s12 wx => s12 = .int .i64 (tableTo zs i) ∧ KOwn wx (w.heap.size + 1) (fun _ => False) s11 (rowsK zs i (mk r).size (tableTo zs i)) ∧ ZB wx w.heap.size ∧ Below w.heap.size w wx)
  case first =>
    go_wp2_with fail
    go_loopw [11, 12] (fun v11 v12 wr => TbRel zs i (mk r).size w v11 v12 wr) (fun _ v12 _ => zs.length - (intOf v12).toNat)
    case atStart => exact ⟨i + 2, by go_num, Nat.le_refl _, by omega, HK3.out, HZ3.out, HB3.out, Lib.hid fun j h1 h2 => absurd h2 (by omega)⟩
    case round =>
      clear HZ3 HB3 HK3
      obtain ⟨k, rfl, hk1, hk, HKO, hZ, hbw, Hno⟩ := hrel
      have hzr := hbw.size
      have hzl := Blk.lt hZ
      have HZr := Lib.hid hZ
      have HT : Hid ((k < zs.length → kindOf zs k ≠ 0) → tableTo zs i = k) := Lib.hid (HSt.out k hk1 hk Hno.out)
      obtain ⟨AK, cK, rfl⟩ := HKO.out.own
      have hrkl := HRl.out k hk1 hk
      have hrk : (rowsK zs i (mk r).size k).length ≤ 10000 := by omega
      clear hrkl
      by_cases hlt : k < zs.length
      · have hc0 : wr.cell? ⟨b, off + k, none⟩ = some (.string (ln zs k)) := (hbw.cell (p := ⟨b, off + k, none⟩) hb).trans (HCell.out k hlt)
        have HM1 := Lib.hid fun W => HM.out k W
        have hkk : Hid (kindOf zs k = (markM (ln zs k)).kind) := Lib.hid rfl
        have HE := Lib.hid (HRs.out k hk1 hlt)
        clear HM hZ HSt HRs HRl
        generalize markM (ln zs k) = m at *
        unfold MkL.cells at HM1
        have hfd := HFd.out
        by_cases h0 : m.kind = 0
        · have z1 : (((m.kind : Nat) : Int) == 0) = true := by rw [beq_iff_eq]; omega
          have z2 : ((m.kind : Nat) == 0) = true := by rw [beq_iff_eq]; exact h0
          have HNx : Hid (∀ j, i + 2 ≤ j → j < k + 1 → kindOf zs j = 0) := Lib.hid fun j h1 h2 => by
            by_cases e : j = k
            · rw [e, hkk.out]; exact h0
            · exact Hno.out j h1 (by omega)
          clear h0 hkk HT Hno
          go_wp2_with fail
          ((with_reducible refine (HM1.out _).mono ?_))
          rintro e w3 ⟨A1, c1, A2, c2, rfl, b1⟩
          have hc3 : w3.cell? ⟨b, off + k, none⟩ = some (.string (ln zs k)) := ((hbw.trans (b1.mono hzr)).cell (p := ⟨b, off + k, none⟩) hb).trans (HCell.out k hlt)
          have HRw := Lib.hid (HRow.out k wr.heap.size w3 (HLi.out.below (hbw.trans (b1.mono hzr))).cell b1.size)
          have hz3 := b1.size
          clear hc0
          go_wp2_with fail
          ((with_reducible refine (HRw.out).mono ?_))
          rintro e w4 ⟨⟨v, rfl, hrep⟩, b4⟩
          have b14 := b1.trans (b4.mono hz3)
          have hz4 := b14.size
          have hab := hrep.form
          obtain ⟨e0, e1, e2, e3, e4, e5, e6, E9, m9, d9, E10, m10, d10, E11, m11, d11, E12, m12, d12, rfl⟩ := hrep.form
          obtain ⟨S, vs, hS, hkk, hown⟩ := HKO.out
          have hv7 := hown.lt
          have HKK := Lib.hid hkk
          have HSS := Lib.hid hS
          have HREP := Lib.hid hrep
          have HB14 := Lib.hid b14
          have hown4 := own_below hown b14
          clear hkk hS hown HKO hrep b1 b4 b14 hc3 HRw
          go_wp2_with (at_builtin; refine wpList_append_lies _ rfl _ _ 25 rfl (w.heap.size + 1) 46 i0 _ 11 192 Tryz.underlying25 hi0 hz0 hz1 hz2 rfl (by decide) _ _ _ rfl (hown4.alloc _) ⟨w4.heap.size, 0, none⟩ 1 1 _ rfl hab.len ?c1 hab.one (by decide) ?c3 ?c4 ?c5 (w4.heap.size + 1) ?c6 ?_)
          case c3 => unfold maxLen; omega
          case c4 => omega
          case c5 => simp; omega
          case c6 => simp
          intro g7 cap7 w5 hown5 hgrow hlies hlt5
          have HKO5 := Lib.hid (KOwn.push (E := fun _ => False) HSS.out HKK.out HB14.out (fun k h => (hv7 k h).2) (fun k h => h.elim) (by omega) HB14.out.size HREP.out hown5 hgrow hlies (Nat.le_succ _))
          have HZ5 : Hid (ZB w5 w.heap.size) := Lib.hid (Blk.grown (Blk.alloc (HZr.out.below (w := w) HB14.out) _) hgrow (fun e => by have := (hv7 _ e.symm).1; omega))
          have HB5 : Hid (Below w.heap.size w w5) := Lib.hid (((hbw.trans (HB14.out.mono hzr)).alloc (by omega) _).grown hgrow (by simp; omega) (fun k e => by have := (hv7 k e).1; omega))
          clear hgrow hlies hown5 hown4 hab
          go_wp2_with fail
          go_roundw
          case rel => exact ⟨k + 1, by go_num, by omega, by omega, Lib.hid (by rw [HE.out]; exact HKO5.out), HZ5.out, HB5.out, HNx⟩
          case measure => simp [intOf]; omega
        · have z1 : (((m.kind : Nat) : Int) == 0) = false := by rw [beq_eq_false_iff_ne]; omega
          have z2 : ((m.kind : Nat) == 0) = false := by rw [beq_eq_false_iff_ne]; exact h0
          have HQ := Lib.hid (HT.out fun _ => by rw [hkk.out]; exact h0)
          clear h0 hkk HT Hno HE
          go_wp2_with fail
          ((with_reducible refine (HM1.out _).mono ?_))
          rintro e w3 ⟨A1, c1, A2, c2, rfl, b1⟩
          go_wp2_with fail
          go_meet
          rw [HQ.out]
          exact ⟨rfl, HKO.out.below b1, HZr.out.below (w := w) b1, hbw.trans (b1.mono hzr)⟩
      · have HQ := Lib.hid (HT.out fun h => absurd h hlt)
        clear HM hZ HT Hno HSt HRs HRl
        go_wp2_with fail
        go_meet
        rw [HQ.out]
        exact ⟨rfl, HKO.out, HZr.out, hbw⟩
  case rest =>
  obtain ⟨rfl, hko, hZ, hbw⟩ := hcut
  have HKO := Lib.hid hko
  have HZr := Lib.hid hZ
  have HBr := Lib.hid hbw
  obtain ⟨AK, cK, rfl⟩ := hko.own
  obtain ⟨k0, k1, k2, k3, k4, k5, k6, k7, k8, k9, k10, y0, y1, y2, y3, y4, y5, y6, y7, y8, y9, y10⟩ := ZB.facts hZ
  have hfar : w.heap.size < w.heap.size + 1 := Nat.lt_succ_self _
  have hlow : B ≤ w.heap.size + 1 := by omega
  clear hko hZ hbw HZ3 HB3 HK3 HM HRow HSt HRs HFd
  go_wp2_with fail
  exact tableAt_ret (blk11 HZr.out _ _ _ _ _ _ _ _ _ _ _) rfl rfl rfl rfl (bk_some (by rw [HPR2.out, HTB.out]) (repB_mk (kind := 10) (level := 0) (att := emptyA) (AttR.empty _ _ _ _) (srcV_none _ _) ((KOwn.kids (HKO.out.far (grown11 _ _ _ _ _ _ _ _ _ _ _ _ _) hfar)).low hlow)) (below11 HBr.out (Nat.le_refl _) _ _ _ _ _ _ _ _ _ _ _))

end Go.Proofs.YtpoafhgbhnblmaaGreatDoor
namespace Go.Proofs.YtpoafhgbhnblmaaGreatDoor
open Go.RowKit Go.Pub
theorem RepB.far {w w' : World} {B B' g : Nat} {v : Array Value} {b : BkT} (h : RepB w (Rg B w) v b) (hg : w.grownBy w' (some g)) (hlt : g < B) (hB : B' ≤ B) : RepB w' (Rg B' w') v b :=
  h.keep (fun x hx => hg.block x hx.2 fun e => by injection e with e; have := hx.1; omega) fun x hx => ⟨by have := hx.1; omega, Nat.lt_of_lt_of_le hx.2 hg.size⟩
set_option maxRecDepth 100000 in
set_option maxHeartbeats 2000000 in
theorem n_at3 (d : Nat) (hd : d ≤ 15) (zs : List ByteArray) (A : Option Addr) (c i B : Nat) (MM : Int) (m : MkL) (A9 : Option Addr) (c9 : Nat) (A10 : Option Addr) (c10 : Nat) (w : World) (hL : LinesAt w A zs MM) (hi : i < zs.length) (hc : zs.length ≤ c) (hcm : c ≤ maxLen) (hB : B ≤ w.heap.size) (ha : AttR w (Rg B w) m.att A9 A10) (hk : m.kind = 3) :
    Calls Tryz.prog 39 #[.slice A zs.length c, .int .i64 i, .agg (m.cells (.slice A9 m.att.cl.length c9) (.slice A10 m.att.pr.length c10)), .int .i64 d] w (BkPost B (some (kidB 5 [], i + 1)) w) := by
  have hlen := hL.len
  have HLi := Lib.hid hL
  have HA := Lib.hid ha
  have HS := Lib.hid (dw_start w (m.cells (.slice A9 m.att.cl.length c9) (.slice A10 m.att.pr.length c10)))
  obtain ⟨PR, hPR⟩ : ∃ PR, PR = some (kidB 5 [], i + 1) := ⟨_, rfl⟩
  rw [← hPR]
  have HPR := Lib.hid hPR
  have z2 : (((m.kind : Nat) : Int) == 2) = false := by rw [beq_eq_false_iff_ne]; omega
  have z3 : (((m.kind : Nat) : Int) == 3) = true := by rw [beq_iff_eq]; omega
  have HK := Lib.hid hk
  clear hL hk ha hPR
  unfold MkL.cells zbC at HS
  go_enter Tryz.func39, Tryz.ntmps39
  unfold MkL.cells
  go_upto_region 1 with fail
  generalize hW : (w.alloc _).alloc _ = W0
  have HD : Hid (DW w #[.int .i64 m.kind, .int .i64 m.n, .string m.ch, .int .i64 m.off, .string m.info, .string m.rest, .string m.dest, .string m.title, .string m.att.id, .slice A9 m.att.cl.length c9, .slice A10 m.att.pr.length c10] W0) := Lib.hid (by rw [← hW]; exact HS.out)
  clear hW HS
  have HL0 := Lib.hid (HLi.out.below HD.out.bel)
  have hw0 := HD.out.bel.size
  have hw1 := HD.out.res.lt
  obtain ⟨p0, p1, p2, p3, p4, p5, p6, p7, p8, p9, p10, x0, x1, x2, x3, x4, x5, x6, x7, x8, x9, x10⟩ := mk_facts HD.out.mrk
  clear x0 x1 x2 x3 x4 x5 x6 x7 x8 x9 x10
  obtain ⟨k0, k1, k2, k3, k4, k5, k6, k7, k8, k9, k10, y0, y1, y2, y3, y4, y5, y6, y7, y8, y9, y10⟩ := ZB.facts HD.out.res
  go_wp2_with fail
  rw [HPR.out]
  exact blockAt_ret (blk11 HD.out.res _ _ _ _ _ _ _ _ _ _ _) rfl rfl rfl rfl (bk_some rfl (repB_mk (kind := 5) (level := 0) (att := emptyA) (AttR.empty _ _ _ _) (srcV_none _ _) (KidsV.none_ _ _)) (below11 HD.out.bel (Nat.le_succ _) _ _ _ _ _ _ _ _ _ _ _))

set_option maxRecDepth 100000 in
set_option maxHeartbeats 2000000 in
theorem n_at11 (d : Nat) (hd : d ≤ 15) (zs : List ByteArray) (A : Option Addr) (c i B : Nat) (MM : Int) (m : MkL) (A9 : Option Addr) (c9 : Nat) (A10 : Option Addr) (c10 : Nat) (w : World) (hL : LinesAt w A zs MM) (hi : i < zs.length) (hc : zs.length ≤ c) (hcm : c ≤ maxLen) (hB : B ≤ w.heap.size) (ha : AttR w (Rg B w) m.att A9 A10) (hk : m.kind = 11) :
    Calls Tryz.prog 39 #[.slice A zs.length c, .int .i64 i, .agg (m.cells (.slice A9 m.att.cl.length c9) (.slice A10 m.att.pr.length c10)), .int .i64 d] w (BkPost B (some (BkT.mk 15 0 m.info ⟨#[]⟩ m.dest m.title emptyA ⟨#[]⟩ [], i + 1)) w) := by
  have hlen := hL.len
  have HLi := Lib.hid hL
  have HA := Lib.hid ha
  have HS := Lib.hid (dw_start w (m.cells (.slice A9 m.att.cl.length c9) (.slice A10 m.att.pr.length c10)))
  obtain ⟨PR, hPR⟩ : ∃ PR, PR = some (BkT.mk 15 0 m.info ⟨#[]⟩ m.dest m.title emptyA ⟨#[]⟩ [], i + 1) := ⟨_, rfl⟩
  rw [← hPR]
  have HPR := Lib.hid hPR
  have z2 : (((m.kind : Nat) : Int) == 2) = false := by rw [beq_eq_false_iff_ne]; omega
  have z3 : (((m.kind : Nat) : Int) == 3) = false := by rw [beq_eq_false_iff_ne]; omega
  have z11 : (((m.kind : Nat) : Int) == 11) = true := by rw [beq_iff_eq]; omega
  have HK := Lib.hid hk
  clear hL hk ha hPR
  unfold MkL.cells zbC at HS
  go_enter Tryz.func39, Tryz.ntmps39
  unfold MkL.cells
  go_upto_region 1 with fail
  generalize hW : (w.alloc _).alloc _ = W0
  have HD : Hid (DW w #[.int .i64 m.kind, .int .i64 m.n, .string m.ch, .int .i64 m.off, .string m.info, .string m.rest, .string m.dest, .string m.title, .string m.att.id, .slice A9 m.att.cl.length c9, .slice A10 m.att.pr.length c10] W0) := Lib.hid (by rw [← hW]; exact HS.out)
  clear hW HS
  have HL0 := Lib.hid (HLi.out.below HD.out.bel)
  have hw0 := HD.out.bel.size
  have hw1 := HD.out.res.lt
  obtain ⟨p0, p1, p2, p3, p4, p5, p6, p7, p8, p9, p10, x0, x1, x2, x3, x4, x5, x6, x7, x8, x9, x10⟩ := mk_facts HD.out.mrk
  clear x0 x1 x2 x3 x4 x5 x6 x7 x8 x9 x10
  obtain ⟨k0, k1, k2, k3, k4, k5, k6, k7, k8, k9, k10, y0, y1, y2, y3, y4, y5, y6, y7, y8, y9, y10⟩ := ZB.facts HD.out.res
  go_wp2_with fail
  rw [HPR.out]
  exact blockAt_ret (blk11 HD.out.res _ _ _ _ _ _ _ _ _ _ _) rfl rfl rfl rfl (bk_some rfl (repB_mk (kind := 15) (level := 0) (att := emptyA) (AttR.empty _ _ _ _) (srcV_none _ _) (KidsV.none_ _ _)) (below11 HD.out.bel (Nat.le_succ _) _ _ _ _ _ _ _ _ _ _ _))

set_option maxRecDepth 100000 in
set_option maxHeartbeats 2000000 in
theorem n_at4 (rec : List ByteArray → Option (List BkT)) (d : Nat) (hd : d ≤ 15) (zs : List ByteArray) (A : Option Addr) (c i B : Nat) (MM : Int) (m : MkL) (A9 : Option Addr) (c9 : Nat) (A10 : Option Addr) (c10 : Nat) (w : World) (hL : LinesAt w A zs MM) (hi : i < zs.length) (hc : zs.length ≤ c) (hcm : c ≤ maxLen) (hB : B ≤ w.heap.size) (ha : AttR w (Rg B w) m.att A9 A10) (hk : m.kind = 4) (hR : RecP rec (d + 1) MM) :
    Calls Tryz.prog 39 #[.slice A zs.length c, .int .i64 i, .agg (m.cells (.slice A9 m.att.cl.length c9) (.slice A10 m.att.pr.length c10)), .int .i64 d] w (BkPost B ((rec (quoteIn zs i)).map fun k => (kidB 6 k, quoteTo zs i)) w) := by
  have hlen := hL.len
  have HLi := Lib.hid hL
  have HA := Lib.hid ha
  have HS := Lib.hid (dw_start w (m.cells (.slice A9 m.att.cl.length c9) (.slice A10 m.att.pr.length c10)))
  obtain ⟨PR, hPR⟩ : ∃ PR, PR = (rec (quoteIn zs i)).map fun k => (kidB 6 k, quoteTo zs i) := ⟨_, rfl⟩
  rw [← hPR]
  have HQ : Hid (∀ W, LinesAt W A zs MM → DW w #[.int .i64 m.kind, .int .i64 m.n, .string m.ch, .int .i64 m.off, .string m.info, .string m.rest, .string m.dest, .string m.title, .string m.att.id, .slice A9 m.att.cl.length c9, .slice A10 m.att.pr.length c10] W → Calls Tryz.prog 70 #[.slice A zs.length c, .int .i64 i, .int .i64 d] W (BkPost W.heap.size PR W)) := Lib.hid fun W hLW hDW => by
    rw [hPR]; exact n_quote rec d hd zs A c i W.heap.size MM W hR hLW hi (Nat.le_refl _)
  clear hR
  have HPR := Lib.hid hPR
  have z2 : (((m.kind : Nat) : Int) == 2) = false := by rw [beq_eq_false_iff_ne]; omega
  have z3 : (((m.kind : Nat) : Int) == 3) = false := by rw [beq_eq_false_iff_ne]; omega
  have z11 : (((m.kind : Nat) : Int) == 11) = false := by rw [beq_eq_false_iff_ne]; omega
  have z4 : (((m.kind : Nat) : Int) == 4) = true := by rw [beq_iff_eq]; omega
  have HK := Lib.hid hk
  clear hL hk ha hPR
  unfold MkL.cells zbC at HS
  go_enter Tryz.func39, Tryz.ntmps39
  unfold MkL.cells
  go_upto_region 1 with fail
  generalize hW : (w.alloc _).alloc _ = W0
  have HD : Hid (DW w #[.int .i64 m.kind, .int .i64 m.n, .string m.ch, .int .i64 m.off, .string m.info, .string m.rest, .string m.dest, .string m.title, .string m.att.id, .slice A9 m.att.cl.length c9, .slice A10 m.att.pr.length c10] W0) := Lib.hid (by rw [← hW]; exact HS.out)
  clear hW HS
  have HL0 := Lib.hid (HLi.out.below HD.out.bel)
  have hw0 := HD.out.bel.size
  have hw1 := HD.out.res.lt
  obtain ⟨p0, p1, p2, p3, p4, p5, p6, p7, p8, p9, p10, x0, x1, x2, x3, x4, x5, x6, x7, x8, x9, x10⟩ := mk_facts HD.out.mrk
  clear x0 x1 x2 x3 x4 x5 x6 x7 x8 x9 x10
  go_wp2_with fail
  ((with_reducible refine (HQ.out _ HL0.out HD.out).mono ?_))
  rintro e w2 ⟨b2, hp⟩
  have HD2 := Lib.hid (HD.out.next b2)
  have hz2 := b2.size
  obtain ⟨k0, k1, k2, k3, k4, k5, k6, k7, k8, k9, k10, y0, y1, y2, y3, y4, y5, y6, y7, y8, y9, y10⟩ := ZB.facts HD2.out.res
  clear HQ p0 p1 p2 p3 p4 p5 p6 p7 p8 p9 p10
  cases PR with
  | none =>
    obtain ⟨v, u, ⟨i0, i1, s2, s3, s4, s5, s6, A7, n7, c7, A8, n8, c8, D9, n9, d9, D10, n10, d10, rfl⟩, rfl⟩ := hp
    go_wp2_with fail
    exact blockAt_ret (blk11 HD2.out.res _ _ _ _ _ _ _ _ _ _ _) rfl rfl rfl rfl (bk_none rfl ⟨_, _, _, _, _, _, _, _, _, _, _, _, _, _, _, _, _, _, _, rfl⟩ (below11 HD2.out.bel (Nat.le_succ _) _ _ _ _ _ _ _ _ _ _ _))
  | some r =>
    obtain ⟨bk, tq⟩ := r
    obtain ⟨v, rfl, hrep⟩ := hp
    obtain ⟨f0, f1, f2, f3, f4, f5, f6, D9, n9, d9, D10, n10, d10, D11, n11, d11, D12, n12, d12, rfl⟩ := hrep.form
    have HREP := Lib.hid hrep
    clear hrep
    go_wp2_with fail
    have hrep := HREP.out
    exact blockAt_ret (blk11 HD2.out.res _ _ _ _ _ _ _ _ _ _ _) rfl rfl rfl rfl (bk_some rfl (hrep.far (grown11 _ _ _ _ _ _ _ _ _ _ _ _ _) hw1 (by omega)) (below11 HD2.out.bel (Nat.le_succ _) _ _ _ _ _ _ _ _ _ _ _))

set_option maxRecDepth 100000 in
set_option maxHeartbeats 2000000 in
theorem n_at7 (d : Nat) (hd : d ≤ 15) (zs : List ByteArray) (A : Option Addr) (c i B : Nat) (MM : Int) (m : MkL) (A9 : Option Addr) (c9 : Nat) (A10 : Option Addr) (c10 : Nat) (w : World) (hL : LinesAt w A zs MM) (hi : i < zs.length) (hc : zs.length ≤ c) (hcm : c ≤ maxLen) (hB : B ≤ w.heap.size) (ha : AttR w (Rg B w) m.att A9 A10) (hk : m.kind = 7) (ho : m.off ≤ 1000000) :
    Calls Tryz.prog 39 #[.slice A zs.length c, .int .i64 i, .agg (m.cells (.slice A9 m.att.cl.length c9) (.slice A10 m.att.pr.length c10)), .int .i64 d] w (BkPost B (some (BkT.mk 3 0 m.info (mk (joinN ((cutL zs (i + 1) (closeI zs m (i + 1))).map fun z => stripB z m.off))) ⟨#[]⟩ ⟨#[]⟩ emptyA ⟨#[]⟩ [], min (closeI zs m (i + 1) + 1) zs.length)) w) := by
  have hlen := hL.len
  have HLi := Lib.hid hL
  have HA := Lib.hid ha
  have HS := Lib.hid (dw_start w (m.cells (.slice A9 m.att.cl.length c9) (.slice A10 m.att.pr.length c10)))
  obtain ⟨PR, hPR⟩ : ∃ PR, PR = some (BkT.mk 3 0 m.info (mk (joinN ((cutL zs (i + 1) (closeI zs m (i + 1))).map fun z => stripB z m.off))) ⟨#[]⟩ ⟨#[]⟩ emptyA ⟨#[]⟩ [], min (closeI zs m (i + 1) + 1) zs.length) := ⟨_, rfl⟩
  rw [← hPR]
  have HQ : Hid (∀ W, LinesAt W A zs MM → DW w #[.int .i64 m.kind, .int .i64 m.n, .string m.ch, .int .i64 m.off, .string m.info, .string m.rest, .string m.dest, .string m.title, .string m.att.id, .slice A9 m.att.cl.length c9, .slice A10 m.att.pr.length c10] W → Calls Tryz.prog 71 #[.slice A zs.length c, .int .i64 i, .agg #[.int .i64 m.kind, .int .i64 m.n, .string m.ch, .int .i64 m.off, .string m.info, .string m.rest, .string m.dest, .string m.title, .string m.att.id, .slice A9 m.att.cl.length c9, .slice A10 m.att.pr.length c10]] W (BkPost W.heap.size PR W)) := Lib.hid fun W hLW hDW => by
    rw [hPR]; exact n_fence zs A c i W.heap.size MM m A9 c9 A10 c10 W hLW hi hc hcm (Nat.le_refl _) ho
  have HPR := Lib.hid hPR
  have z2 : (((m.kind : Nat) : Int) == 2) = false := by rw [beq_eq_false_iff_ne]; omega
  have z3 : (((m.kind : Nat) : Int) == 3) = false := by rw [beq_eq_false_iff_ne]; omega
  have z11 : (((m.kind : Nat) : Int) == 11) = false := by rw [beq_eq_false_iff_ne]; omega
  have z4 : (((m.kind : Nat) : Int) == 4) = false := by rw [beq_eq_false_iff_ne]; omega
  have z7 : (((m.kind : Nat) : Int) == 7) = true := by rw [beq_iff_eq]; omega
  have HK := Lib.hid hk
  clear hL hk ha hPR
  unfold MkL.cells zbC at HS
  go_enter Tryz.func39, Tryz.ntmps39
  unfold MkL.cells
  go_upto_region 1 with fail
  generalize hW : (w.alloc _).alloc _ = W0
  have HD : Hid (DW w #[.int .i64 m.kind, .int .i64 m.n, .string m.ch, .int .i64 m.off, .string m.info, .string m.rest, .string m.dest, .string m.title, .string m.att.id, .slice A9 m.att.cl.length c9, .slice A10 m.att.pr.length c10] W0) := Lib.hid (by rw [← hW]; exact HS.out)
  clear hW HS
  have HL0 := Lib.hid (HLi.out.below HD.out.bel)
  have hw0 := HD.out.bel.size
  have hw1 := HD.out.res.lt
  obtain ⟨p0, p1, p2, p3, p4, p5, p6, p7, p8, p9, p10, x0, x1, x2, x3, x4, x5, x6, x7, x8, x9, x10⟩ := mk_facts HD.out.mrk
  clear x0 x1 x2 x3 x4 x5 x6 x7 x8 x9 x10
  go_wp2_with fail
  ((with_reducible refine (HQ.out _ HL0.out HD.out).mono ?_))
  rintro e w2 ⟨b2, hp⟩
  have HD2 := Lib.hid (HD.out.next b2)
  have hz2 := b2.size
  obtain ⟨k0, k1, k2, k3, k4, k5, k6, k7, k8, k9, k10, y0, y1, y2, y3, y4, y5, y6, y7, y8, y9, y10⟩ := ZB.facts HD2.out.res
  clear HQ p0 p1 p2 p3 p4 p5 p6 p7 p8 p9 p10
  cases PR with
  | none =>
    obtain ⟨v, u, ⟨i0, i1, s2, s3, s4, s5, s6, A7, n7, c7, A8, n8, c8, D9, n9, d9, D10, n10, d10, rfl⟩, rfl⟩ := hp
    go_wp2_with fail
    exact blockAt_ret (blk11 HD2.out.res _ _ _ _ _ _ _ _ _ _ _) rfl rfl rfl rfl (bk_none rfl ⟨_, _, _, _, _, _, _, _, _, _, _, _, _, _, _, _, _, _, _, rfl⟩ (below11 HD2.out.bel (Nat.le_succ _) _ _ _ _ _ _ _ _ _ _ _))
  | some r =>
    obtain ⟨bk, tq⟩ := r
    obtain ⟨v, rfl, hrep⟩ := hp
    obtain ⟨f0, f1, f2, f3, f4, f5, f6, D9, n9, d9, D10, n10, d10, D11, n11, d11, D12, n12, d12, rfl⟩ := hrep.form
    have HREP := Lib.hid hrep
    clear hrep
    go_wp2_with fail
    have hrep := HREP.out
    exact blockAt_ret (blk11 HD2.out.res _ _ _ _ _ _ _ _ _ _ _) rfl rfl rfl rfl (bk_some rfl (hrep.far (grown11 _ _ _ _ _ _ _ _ _ _ _ _ _) hw1 (by omega)) (below11 HD2.out.bel (Nat.le_succ _) _ _ _ _ _ _ _ _ _ _ _))

set_option maxRecDepth 100000 in
set_option maxHeartbeats 2000000 in
theorem n_at9 (rec : List ByteArray → Option (List BkT)) (d : Nat) (hd : d ≤ 15) (zs : List ByteArray) (A : Option Addr) (c i B : Nat) (MM : Int) (m : MkL) (A9 : Option Addr) (c9 : Nat) (A10 : Option Addr) (c10 : Nat) (w : World) (hL : LinesAt w A zs MM) (hi : i < zs.length) (hc : zs.length ≤ c) (hcm : c ≤ maxLen) (hB : B ≤ w.heap.size) (ha : AttR w (Rg B w) m.att A9 A10) (hk : m.kind = 9) (hR : RecP rec (d + 1) MM) :
    Calls Tryz.prog 39 #[.slice A zs.length c, .int .i64 i, .agg (m.cells (.slice A9 m.att.cl.length c9) (.slice A10 m.att.pr.length c10)), .int .i64 d] w (BkPost B ((rec (cutL zs (i + 1) (closeI zs m (i + 1)))).map fun k => (BkT.mk 13 0 m.info ⟨#[]⟩ ⟨#[]⟩ ⟨#[]⟩ m.att ⟨#[]⟩ k, min (closeI zs m (i + 1) + 1) zs.length)) w) := by
  have hlen := hL.len
  have HLi := Lib.hid hL
  have HA := Lib.hid ha
  have HS := Lib.hid (dw_start w (m.cells (.slice A9 m.att.cl.length c9) (.slice A10 m.att.pr.length c10)))
  obtain ⟨PR, hPR⟩ : ∃ PR, PR = (rec (cutL zs (i + 1) (closeI zs m (i + 1)))).map fun k => (BkT.mk 13 0 m.info ⟨#[]⟩ ⟨#[]⟩ ⟨#[]⟩ m.att ⟨#[]⟩ k, min (closeI zs m (i + 1) + 1) zs.length) := ⟨_, rfl⟩
  rw [← hPR]
  have HQ : Hid (∀ W, LinesAt W A zs MM → DW w #[.int .i64 m.kind, .int .i64 m.n, .string m.ch, .int .i64 m.off, .string m.info, .string m.rest, .string m.dest, .string m.title, .string m.att.id, .slice A9 m.att.cl.length c9, .slice A10 m.att.pr.length c10] W → Calls Tryz.prog 74 #[.slice A zs.length c, .int .i64 i, .agg #[.int .i64 m.kind, .int .i64 m.n, .string m.ch, .int .i64 m.off, .string m.info, .string m.rest, .string m.dest, .string m.title, .string m.att.id, .slice A9 m.att.cl.length c9, .slice A10 m.att.pr.length c10], .int .i64 d] W (BkPostS (fun w' g => Rg B w g ∨ Rg W.heap.size w' g) PR W)) := Lib.hid fun W hLW hDW => by
    rw [hPR]; exact n_div2 rec d hd zs A c i MM m A9 c9 A10 c10 W hR hLW hi hc hcm (Rg B w) (fun g h => Nat.lt_of_lt_of_le h.2 hDW.bel.size) (ha.keep (fun g h => hDW.bel.block g h.2) fun g h => h)
  clear hR
  have HPR := Lib.hid hPR
  have z2 : (((m.kind : Nat) : Int) == 2) = false := by rw [beq_eq_false_iff_ne]; omega
  have z3 : (((m.kind : Nat) : Int) == 3) = false := by rw [beq_eq_false_iff_ne]; omega
  have z11 : (((m.kind : Nat) : Int) == 11) = false := by rw [beq_eq_false_iff_ne]; omega
  have z4 : (((m.kind : Nat) : Int) == 4) = false := by rw [beq_eq_false_iff_ne]; omega
  have z7 : (((m.kind : Nat) : Int) == 7) = false := by rw [beq_eq_false_iff_ne]; omega
  have z8 : (((m.kind : Nat) : Int) == 8) = false := by rw [beq_eq_false_iff_ne]; omega
  have z9 : (((m.kind : Nat) : Int) == 9) = true := by rw [beq_iff_eq]; omega
  have HK := Lib.hid hk
  clear hL hk ha hPR
  unfold MkL.cells zbC at HS
  go_enter Tryz.func39, Tryz.ntmps39
  unfold MkL.cells
  go_upto_region 1 with fail
  generalize hW : (w.alloc _).alloc _ = W0
  have HD : Hid (DW w #[.int .i64 m.kind, .int .i64 m.n, .string m.ch, .int .i64 m.off, .string m.info, .string m.rest, .string m.dest, .string m.title, .string m.att.id, .slice A9 m.att.cl.length c9, .slice A10 m.att.pr.length c10] W0) := Lib.hid (by rw [← hW]; exact HS.out)
  clear hW HS
  have HL0 := Lib.hid (HLi.out.below HD.out.bel)
  have hw0 := HD.out.bel.size
  have hw1 := HD.out.res.lt
  obtain ⟨p0, p1, p2, p3, p4, p5, p6, p7, p8, p9, p10, x0, x1, x2, x3, x4, x5, x6, x7, x8, x9, x10⟩ := mk_facts HD.out.mrk
  clear x0 x1 x2 x3 x4 x5 x6 x7 x8 x9 x10
  go_wp2_with fail
  ((with_reducible refine (HQ.out _ HL0.out HD.out).mono ?_))
  rintro e w2 ⟨b2, hp⟩
  have HD2 := Lib.hid (HD.out.next b2)
  have hz2 := b2.size
  obtain ⟨k0, k1, k2, k3, k4, k5, k6, k7, k8, k9, k10, y0, y1, y2, y3, y4, y5, y6, y7, y8, y9, y10⟩ := ZB.facts HD2.out.res
  clear HQ p0 p1 p2 p3 p4 p5 p6 p7 p8 p9 p10
  cases PR with
  | none =>
    obtain ⟨v, u, ⟨i0, i1, s2, s3, s4, s5, s6, A7, n7, c7, A8, n8, c8, D9, n9, d9, D10, n10, d10, rfl⟩, rfl⟩ := hp
    go_wp2_with fail
    exact blockAt_ret (blk11 HD2.out.res _ _ _ _ _ _ _ _ _ _ _) rfl rfl rfl rfl (bk_none rfl ⟨_, _, _, _, _, _, _, _, _, _, _, _, _, _, _, _, _, _, _, rfl⟩ (below11 HD2.out.bel (Nat.le_succ _) _ _ _ _ _ _ _ _ _ _ _))
  | some r =>
    obtain ⟨bk, tq⟩ := r
    obtain ⟨v, rfl, hrep⟩ := hp
    obtain ⟨f0, f1, f2, f3, f4, f5, f6, D9, n9, d9, D10, n10, d10, D11, n11, d11, D12, n12, d12, rfl⟩ := hrep.form
    have HREP := Lib.hid hrep
    clear hrep
    go_wp2_with fail
    have hrep := HREP.out
    exact blockAt_ret (blk11 HD2.out.res _ _ _ _ _ _ _ _ _ _ _) rfl rfl rfl rfl (bk_some rfl (hrep.keep (fun x hx => (grown11 _ (w.heap.size + 1) _ _ _ _ _ _ _ _ _ _ _).block x (by rcases hx with hx | hx; exact (by have := hx.2; omega); exact hx.2) (fun e => by injection e with e; rcases hx with hx | hx; (have := hx.2; omega); (have := hx.1; omega))) (fun x hx => ⟨by rcases hx with hx | hx; exact hx.1; (have := hx.1; omega), by have := (grown11 w2 (w.heap.size + 1) (.int .i64 f0) (.int .i64 f1) (.string f2) (.string f3) (.string f4) (.string f5) (.string f6) (.slice D9 n9 d9) (.slice D10 n10 d10) (.slice D11 n11 d11) (.slice D12 n12 d12)).size; rcases hx with hx | hx; (have := hx.2; omega); (have := hx.2; omega)⟩)) (below11 HD2.out.bel (Nat.le_succ _) _ _ _ _ _ _ _ _ _ _ _))

set_option maxRecDepth 100000 in
set_option maxHeartbeats 2000000 in
theorem n_at56 (rec : List ByteArray → Option (List BkT)) (d : Nat) (hd : d ≤ 15) (zs : List ByteArray) (A : Option Addr) (c i B : Nat) (MM : Int) (m : MkL) (A9 : Option Addr) (c9 : Nat) (A10 : Option Addr) (c10 : Nat) (w : World) (hL : LinesAt w A zs MM) (hi : i < zs.length) (hc : zs.length ≤ c) (hcm : c ≤ maxLen) (hB : B ≤ w.heap.size) (ha : AttR w (Rg B w) m.att A9 A10) (hk : m.kind = 5 ∨ m.kind = 6) (hR : d + 1 ≤ 15 → RecP rec (d + 2) MM) (hok : MkOk m) :
    Calls Tryz.prog 39 #[.slice A zs.length c, .int .i64 i, .agg (m.cells (.slice A9 m.att.cl.length c9) (.slice A10 m.att.pr.length c10)), .int .i64 d] w (BkPost B (if decide (d + 1 ≤ 15) = true then (itemsT rec zs i m).map (fun r => (listB m r.1, r.2)) else none) w) := by
  have hlen := hL.len
  have HLi := Lib.hid hL
  have HA := Lib.hid ha
  have HS := Lib.hid (dw_start w (m.cells (.slice A9 m.att.cl.length c9) (.slice A10 m.att.pr.length c10)))
  obtain ⟨PR, hPR⟩ : ∃ PR, PR = if decide (d + 1 ≤ 15) = true then (itemsT rec zs i m).map (fun r => (listB m r.1, r.2)) else none := ⟨_, rfl⟩
  rw [← hPR]
  have HQ : Hid (∀ W, LinesAt W A zs MM → DW w #[.int .i64 m.kind, .int .i64 m.n, .string m.ch, .int .i64 m.off, .string m.info, .string m.rest, .string m.dest, .string m.title, .string m.att.id, .slice A9 m.att.cl.length c9, .slice A10 m.att.pr.length c10] W → Calls Tryz.prog 76 #[.slice A zs.length c, .int .i64 i, .agg #[.int .i64 m.kind, .int .i64 m.n, .string m.ch, .int .i64 m.off, .string m.info, .string m.rest, .string m.dest, .string m.title, .string m.att.id, .slice A9 m.att.cl.length c9, .slice A10 m.att.pr.length c10], .int .i64 d] W (BkPost W.heap.size PR W)) := Lib.hid fun W hLW hDW => by
    rw [hPR]; exact n_list rec d hd zs A c i W.heap.size MM m A9 m.att.cl.length c9 A10 m.att.pr.length c10 W hR hLW hi hc hcm (Nat.le_refl _) hok hk
  clear hR
  have z2 : (((m.kind : Nat) : Int) == 2) = false := by rw [beq_eq_false_iff_ne]; omega
  have z3 : (((m.kind : Nat) : Int) == 3) = false := by rw [beq_eq_false_iff_ne]; omega
  have z11 : (((m.kind : Nat) : Int) == 11) = false := by rw [beq_eq_false_iff_ne]; omega
  have z4 : (((m.kind : Nat) : Int) == 4) = false := by rw [beq_eq_false_iff_ne]; omega
  have z7 : (((m.kind : Nat) : Int) == 7) = false := by rw [beq_eq_false_iff_ne]; omega
  have z8 : (((m.kind : Nat) : Int) == 8) = false := by rw [beq_eq_false_iff_ne]; omega
  have z9 : (((m.kind : Nat) : Int) == 9) = false := by rw [beq_eq_false_iff_ne]; omega
  have z10 : (((m.kind : Nat) : Int) == 10) = false := by rw [beq_eq_false_iff_ne]; omega
  have HPR := Lib.hid hPR
  have HK := Lib.hid hk
  clear hL hk ha hPR
  unfold MkL.cells zbC at HS
  go_enter Tryz.func39, Tryz.ntmps39
  unfold MkL.cells
  go_upto_region 1 with fail
  generalize hW : (w.alloc _).alloc _ = W0
  have HD : Hid (DW w #[.int .i64 m.kind, .int .i64 m.n, .string m.ch, .int .i64 m.off, .string m.info, .string m.rest, .string m.dest, .string m.title, .string m.att.id, .slice A9 m.att.cl.length c9, .slice A10 m.att.pr.length c10] W0) := Lib.hid (by rw [← hW]; exact HS.out)
  clear hW HS
  have HL0 := Lib.hid (HLi.out.below HD.out.bel)
  have hw0 := HD.out.bel.size
  have hw1 := HD.out.res.lt
  obtain ⟨p0, p1, p2, p3, p4, p5, p6, p7, p8, p9, p10, x0, x1, x2, x3, x4, x5, x6, x7, x8, x9, x10⟩ := mk_facts HD.out.mrk
  clear x0 x1 x2 x3 x4 x5 x6 x7 x8 x9 x10
  rcases HK.out with h5 | h6
  · have z5 : (((m.kind : Nat) : Int) == 5) = true := by rw [beq_iff_eq]; omega
    clear h5
    go_wp2_with fail
    ((with_reducible refine (HQ.out _ HL0.out HD.out).mono ?_))
    rintro e w2 ⟨b2, hp⟩
    have HD2 := Lib.hid (HD.out.next b2)
    have hz2 := b2.size
    obtain ⟨k0, k1, k2, k3, k4, k5, k6, k7, k8, k9, k10, y0, y1, y2, y3, y4, y5, y6, y7, y8, y9, y10⟩ := ZB.facts HD2.out.res
    clear HQ p0 p1 p2 p3 p4 p5 p6 p7 p8 p9 p10
    cases PR with
    | none =>
      obtain ⟨v, u, ⟨i0, i1, s2, s3, s4, s5, s6, A7, n7, c7, A8, n8, c8, D9, n9, d9, D10, n10, d10, rfl⟩, rfl⟩ := hp
      go_wp2_with fail
      exact blockAt_ret (blk11 HD2.out.res _ _ _ _ _ _ _ _ _ _ _) rfl rfl rfl rfl (bk_none rfl ⟨_, _, _, _, _, _, _, _, _, _, _, _, _, _, _, _, _, _, _, rfl⟩ (below11 HD2.out.bel (Nat.le_succ _) _ _ _ _ _ _ _ _ _ _ _))
    | some r =>
      obtain ⟨bk, tq⟩ := r
      obtain ⟨v, rfl, hrep⟩ := hp
      obtain ⟨f0, f1, f2, f3, f4, f5, f6, D9, n9, d9, D10, n10, d10, D11, n11, d11, D12, n12, d12, rfl⟩ := hrep.form
      have HREP := Lib.hid hrep
      clear hrep
      go_wp2_with fail
      have hrep := HREP.out
      exact blockAt_ret (blk11 HD2.out.res _ _ _ _ _ _ _ _ _ _ _) rfl rfl rfl rfl (bk_some rfl (hrep.far (grown11 _ _ _ _ _ _ _ _ _ _ _ _ _) hw1 (by omega)) (below11 HD2.out.bel (Nat.le_succ _) _ _ _ _ _ _ _ _ _ _ _))
  · have z5 : (((m.kind : Nat) : Int) == 5) = false := by rw [beq_eq_false_iff_ne]; omega
    have z6 : (((m.kind : Nat) : Int) == 6) = true := by rw [beq_iff_eq]; omega
    clear h6
    go_wp2_with fail
    ((with_reducible refine (HQ.out _ HL0.out HD.out).mono ?_))
    rintro e w2 ⟨b2, hp⟩
    have HD2 := Lib.hid (HD.out.next b2)
    have hz2 := b2.size
    obtain ⟨k0, k1, k2, k3, k4, k5, k6, k7, k8, k9, k10, y0, y1, y2, y3, y4, y5, y6, y7, y8, y9, y10⟩ := ZB.facts HD2.out.res
    clear HQ p0 p1 p2 p3 p4 p5 p6 p7 p8 p9 p10
    cases PR with
    | none =>
      obtain ⟨v, u, ⟨i0, i1, s2, s3, s4, s5, s6, A7, n7, c7, A8, n8, c8, D9, n9, d9, D10, n10, d10, rfl⟩, rfl⟩ := hp
      go_wp2_with fail
      exact blockAt_ret (blk11 HD2.out.res _ _ _ _ _ _ _ _ _ _ _) rfl rfl rfl rfl (bk_none rfl ⟨_, _, _, _, _, _, _, _, _, _, _, _, _, _, _, _, _, _, _, rfl⟩ (below11 HD2.out.bel (Nat.le_succ _) _ _ _ _ _ _ _ _ _ _ _))
    | some r =>
      obtain ⟨bk, tq⟩ := r
      obtain ⟨v, rfl, hrep⟩ := hp
      obtain ⟨f0, f1, f2, f3, f4, f5, f6, D9, n9, d9, D10, n10, d10, D11, n11, d11, D12, n12, d12, rfl⟩ := hrep.form
      have HREP := Lib.hid hrep
      clear hrep
      go_wp2_with fail
      have hrep := HREP.out
      exact blockAt_ret (blk11 HD2.out.res _ _ _ _ _ _ _ _ _ _ _) rfl rfl rfl rfl (bk_some rfl (hrep.far (grown11 _ _ _ _ _ _ _ _ _ _ _ _ _) hw1 (by omega)) (below11 HD2.out.bel (Nat.le_succ _) _ _ _ _ _ _ _ _ _ _ _))

set_option maxRecDepth 100000 in
set_option maxHeartbeats 2000000 in
theorem n_at10 (rec : List ByteArray → Option (List BkT)) (d : Nat) (hd : d ≤ 15) (zs : List ByteArray) (A : Option Addr) (c i B : Nat) (MM : Int) (m : MkL) (A9 : Option Addr) (c9 : Nat) (A10 : Option Addr) (c10 : Nat) (w : World) (hL : LinesAt w A zs MM) (hi : i < zs.length) (hc : zs.length ≤ c) (hcm : c ≤ maxLen) (hB : B ≤ w.heap.size) (ha : AttR w (Rg B w) m.att A9 A10) (hk : m.kind = 10) (hR : RecP rec (d + 1) MM) (hok : MkOk m) :
    Calls Tryz.prog 39 #[.slice A zs.length c, .int .i64 i, .agg (m.cells (.slice A9 m.att.cl.length c9) (.slice A10 m.att.pr.length c10)), .int .i64 d] w (BkPost B ((rec (contL zs i m).1).map fun k => (BkT.mk 14 0 m.info ⟨#[]⟩ ⟨#[]⟩ ⟨#[]⟩ emptyA ⟨#[]⟩ k, (contL zs i m).2)) w) := by
  have hlen := hL.len
  have HLi := Lib.hid hL
  have HA := Lib.hid ha
  have HS := Lib.hid (dw_start w (m.cells (.slice A9 m.att.cl.length c9) (.slice A10 m.att.pr.length c10)))
  obtain ⟨PR, hPR⟩ : ∃ PR, PR = (rec (contL zs i m).1).map fun k => (BkT.mk 14 0 m.info ⟨#[]⟩ ⟨#[]⟩ ⟨#[]⟩ emptyA ⟨#[]⟩ k, (contL zs i m).2) := ⟨_, rfl⟩
  rw [← hPR]
  have HC : Hid (∀ W, LinesAt W A zs MM → Calls Tryz.prog 75 #[.slice A zs.length c, .int .i64 i, .agg #[.int .i64 m.kind, .int .i64 m.n, .string m.ch, .int .i64 m.off, .string m.info, .string m.rest, .string m.dest, .string m.title, .string m.att.id, .slice A9 m.att.cl.length c9, .slice A10 m.att.pr.length c10]] W (ContPost (contL zs i m) MM W)) := Lib.hid fun W hLW => n_content zs A c i MM m A9 m.att.cl.length c9 A10 m.att.pr.length c10 W hLW hi hc hcm hok.off hok.rest
  unfold ContPost at HC
  have HRec := Lib.hid hR
  have HDD := Lib.hid (show (d : Int) + 1 = ((d + 1 : Nat) : Int) by omega)
  clear hR
  have HPR := Lib.hid hPR
  have z2 : (((m.kind : Nat) : Int) == 2) = false := by rw [beq_eq_false_iff_ne]; omega
  have z3 : (((m.kind : Nat) : Int) == 3) = false := by rw [beq_eq_false_iff_ne]; omega
  have z11 : (((m.kind : Nat) : Int) == 11) = false := by rw [beq_eq_false_iff_ne]; omega
  have z4 : (((m.kind : Nat) : Int) == 4) = false := by rw [beq_eq_false_iff_ne]; omega
  have z7 : (((m.kind : Nat) : Int) == 7) = false := by rw [beq_eq_false_iff_ne]; omega
  have z8 : (((m.kind : Nat) : Int) == 8) = false := by rw [beq_eq_false_iff_ne]; omega
  have z9 : (((m.kind : Nat) : Int) == 9) = false := by rw [beq_eq_false_iff_ne]; omega
  have z10 : (((m.kind : Nat) : Int) == 10) = true := by rw [beq_iff_eq]; omega
  have HK := Lib.hid hk
  clear hL hk ha hPR
  unfold MkL.cells zbC at HS
  go_enter Tryz.func39, Tryz.ntmps39
  unfold MkL.cells
  go_upto_region 1 with fail
  generalize hW : (w.alloc _).alloc _ = W0
  have HD : Hid (DW w #[.int .i64 m.kind, .int .i64 m.n, .string m.ch, .int .i64 m.off, .string m.info, .string m.rest, .string m.dest, .string m.title, .string m.att.id, .slice A9 m.att.cl.length c9, .slice A10 m.att.pr.length c10] W0) := Lib.hid (by rw [← hW]; exact HS.out)
  clear hW HS
  have HL0 := Lib.hid (HLi.out.below HD.out.bel)
  have hw0 := HD.out.bel.size
  have hw1 := HD.out.res.lt
  obtain ⟨p0, p1, p2, p3, p4, p5, p6, p7, p8, p9, p10, x0, x1, x2, x3, x4, x5, x6, x7, x8, x9, x10⟩ := mk_facts HD.out.mrk
  clear x0 x1 x2 x3 x4 x5 x6 x7 x8 x9 x10
  go_wp2_with fail
  ((with_reducible refine (HC.out _ HL0.out).mono ?_))
  rintro e w1 ⟨⟨A1, c1, rfl, hc1, hc2, hLn⟩, b1⟩
  have HRi := Lib.hid (HRec.out _ A1 c1 w1 hLn hc1 hc2)
  have HD1 := Lib.hid (HD.out.next b1)
  have hw2 := HD1.out.res.lt
  clear HC hLn b1 p0 p1 p2 p3 p4 p5 p6 p7 p8 p9 p10 HRec
  go_wp2_with fail
  rw [HDD.out]
  ((with_reducible refine (HRi.out).mono ?_))
  rintro e w2 ⟨hp, b2⟩
  have HD2 := Lib.hid (HD1.out.next b2)
  have hz2 := b2.size
  obtain ⟨p0, p1, p2, p3, p4, p5, p6, p7, p8, p9, p10, x0, x1, x2, x3, x4, x5, x6, x7, x8, x9, x10⟩ := mk_facts HD2.out.mrk
  obtain ⟨k0, k1, k2, k3, k4, k5, k6, k7, k8, k9, k10, y0, y1, y2, y3, y4, y5, y6, y7, y8, y9, y10⟩ := ZB.facts HD2.out.res
  clear x0 x1 x2 x3 x4 x5 x6 x7 x8 x9 x10 b2 HRi
  cases hrc : rec (contL zs i m).1 with
  | none =>
    have HRc := Lib.hid hrc
    rw [hrc] at hp
    subst hp
    unfold bkErr
    clear hrc
    go_wp2_with fail
    exact blockAt_ret (blk11 HD2.out.res _ _ _ _ _ _ _ _ _ _ _) rfl rfl rfl rfl (bk_none (by rw [HPR.out, HRc.out]; rfl) ⟨_, _, _, _, _, _, _, _, _, _, _, _, _, _, _, _, _, _, _, rfl⟩ (below11 HD2.out.bel (Nat.le_succ _) _ _ _ _ _ _ _ _ _ _ _))
  | some bs =>
    have HRc := Lib.hid hrc
    rw [hrc] at hp
    obtain ⟨A5, c5, A6, n6, c6, rfl, hk⟩ := hp
    have HK5 := Lib.hid hk
    clear hrc hk
    go_wp2_with fail
    exact blockAt_ret (blk11 HD2.out.res _ _ _ _ _ _ _ _ _ _ _) rfl rfl rfl rfl (bk_some (by rw [HPR.out, HRc.out]; rfl) (repB_mk (kind := 14) (level := 0) (att := emptyA) (AttR.empty _ _ _ _) (srcV_none _ _) (HK5.out.far (grown11 _ _ _ _ _ _ _ _ _ _ _ _ _) hw2 (by have := HD1.out.bel.size; omega))) (below11 HD2.out.bel (Nat.le_succ _) _ _ _ _ _ _ _ _ _ _ _))

end Go.Proofs.YtpoafhgbhnblmaaGreatDoor
