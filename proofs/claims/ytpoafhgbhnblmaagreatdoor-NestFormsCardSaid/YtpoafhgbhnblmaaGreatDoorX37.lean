/-
  Texts of the proof, put together (what this law reaches): TabHB.
-/
import Derived.Test.YtpoafhgbhnblmaaGreatDoorX24
set_option linter.unusedVariables false
set_option linter.unusedSimpArgs false
namespace Go.Proofs.YtpoafhgbhnblmaaGreatDoor
open Go.RowKit Go.Pub
set_option maxRecDepth 100000 in
set_option maxHeartbeats 2000000 in
theorem t_fit2 (zs : List ByteArray) (A : Option Addr) (c B : Nat) (col : Int) (w : World) (hr : Reads w B 1 A zs.length (strs zs)) (hB : B ≤ w.heap.size) (h1 : -9223372036854775808 ≤ col) (h2 : col ≤ 9223372036854775807) (hl : zs.length ≤ 10000000) :
    Calls Tryz.prog 174 #[.slice A zs.length c, .int .i64 col] w fun e W' => ∃ v, e = .returned v ∧ W'.ownsRow w.heap.size 9 1 v (colN col) (strs (fitL zs (colN col))) ∧ Below w.heap.size w W' := by
  obtain ⟨i0, hi, hi0, hi1, hi2⟩ := info_parts strInfo
  have hn : colN col ≤ 32 := by unfold colN; omega
  have HMx : ∀ w : World, (Builtin.max_ #[3, 3] 3 #[.int .i64 col, .int .i64 0]).run Tryz.prog w = .ok (.int .i64 (col.toNat : Nat)) w := fun w => by
    rw [run_max_int2]
    congr 2
    split <;> omega
  have HMn : ∀ w : World, (Builtin.min_ #[3, 3] 3 #[.int .i64 (col.toNat : Nat), .int .i64 32]).run Tryz.prog w = .ok (.int .i64 (colN col : Nat)) w := fun w => by
    rw [run_min_int2]
    congr 2
    unfold colN
    split <;> omega
  have hmk : ∀ W : World, (Instr.makeSlice 22 (.int .i64 (colN col : Nat)) (.int .i64 (colN col : Nat))).run Tryz.prog W = .ok (.slice (some ⟨W.heap.size, 0, none⟩) (colN col) (colN col)) (W.alloc (.cells (List.replicate (colN col) (Value.string ⟨#[]⟩)).toArray 9)) := fun W => by
    have h := run_make (P := Tryz.prog) W 22 9 i0 (.string ⟨#[]⟩) Tryz.underlying22 hi hi0 .i64 .i64 (colN col : Nat) (colN col : Nat) (by omega) (by omega) (by rw [hi2]; omega) (by omega)
    rw [Int.toNat_natCast, hi1, Nat.mul_one] at h
    rw [h]
    have : (Value.string ⟨#[]⟩).cells = #[Value.string ⟨#[]⟩] := rfl
    rw [this, made_rep]
  have hcs : ∀ u ∈ strs (zs.take (colN col)), u.oneCell' = true := by
    intro u hu
    unfold strs at hu
    obtain ⟨z, _, rfl⟩ := List.mem_map.1 hu
    rfl
  have HSP := Lib.hid (splice_fit zs (colN col))
  have hfl := fitL_len zs (colN col)
  have HRd := Lib.hid hr
  clear hr
  generalize colN col = n at *
  generalize (col.toNat : Nat) = cc at *
  have HCS := Lib.hid hcs
  clear hcs
  have HG0 : Hid ((w.alloc (.cells (Array.replicate n (Value.string ⟨#[]⟩)) 9)).heap[w.heap.size]? = some (.cells (List.replicate n (Value.string ⟨#[]⟩)).toArray 9 (0, 0))) := Lib.hid (by
    rw [List.toArray_replicate]; exact heap_alloc_new w _)
  have hsz : (Tryz.prog.info? 9).map (·.size) = some 1 := by rw [hi]; simp [hi1]
  obtain ⟨r, w2, hcp, HG, hbw⟩ : ∃ r w2, (Builtin.copy_ #[22, 22] 3 #[.slice (some ⟨w.heap.size, 0, none⟩) n n, .slice A zs.length c]).run Tryz.prog (w.alloc (.cells (Array.replicate n (Value.string ⟨#[]⟩)) 9)) = .ok r w2 ∧
      Hid (w2.heap[w.heap.size]? = some (.cells (strs (fitL zs n)).toArray 9 (0, 0))) ∧ Below w.heap.size w w2 := by
    by_cases h0 : Nat.min zs.length n = 0
    · refine ⟨_, _, run_copy_none (P := Tryz.prog) _ 22 22 3 9 _ _ _ _ _ _ Tryz.underlying22 hsz h0, ?_, (Below.refl _ _).alloc (Nat.le_refl _) _⟩
      refine Lib.hid (HG0.out.trans ?_)
      have e : strs (zs.take n) = [] := by
        have : (strs (zs.take n)).length = 0 := by rw [strs_len, List.length_take, Nat.min_comm]; exact h0
        exact List.length_eq_zero_iff.1 this
      have h2 := HSP.out
      rw [e] at h2
      rw [← h2]
      simp [splice]
    · have hpos : 0 < zs.length := by
        rcases Nat.eq_zero_or_pos zs.length with h | h
        · rw [h] at h0; exact absurd (Nat.zero_min _) h0
        · exact h
      obtain ⟨b, off, rfl, hbB, hcell⟩ := reads_get HRd.out hpos
      have hrun := run_copy_row (P := Tryz.prog) (w.alloc (.cells (Array.replicate n (Value.string ⟨#[]⟩)) 9)) 22 22 3 9 w.heap.size 0 n n ⟨b, off, none⟩ zs.length c (List.replicate n (Value.string ⟨#[]⟩)).toArray 9 (strs (zs.take n)) Tryz.underlying22 hsz HG0.out (by rw [strs_len, List.length_take]; exact Nat.min_comm _ _) (fun j v hj => by
        have hj' : j < (zs.take n).length := by
          rw [← strs_len]
          exact (List.getElem?_eq_some_iff.1 hj).1
        rw [strs_at _ j hj'] at hj
        cases hj
        rw [List.length_take] at hj'
        rw [List.getElem_take]
        have := hcell j (by omega)
        rw [World.cell?_alloc_lt w _ _ (by rw [block_of_add]; show b < _; omega)]
        unfold Addr.add
        by_cases h0 : j = 0
        · subst h0; simpa using this
        · simpa [h0] using this) (by simp [strs_len]; omega) HCS.out
      refine ⟨_, _, hrun, Lib.hid ?_, below_setRow ((Below.refl _ _).alloc (Nat.le_refl _) _) (Nat.le_refl _) _⟩
      rw [setRow_heap _ _ _ _ _ _ HG0.out, ← HSP.out]
      simp [splice]
  go_enter Tryz.func174, Tryz.ntmps174
  go_wp2_with fail
  go_ret
  refine ⟨_, rfl, ⟨by rw [strs_len, hfl]; omega, .inr ⟨w.heap.size, n, (strs (fitL zs n)).toArray, rfl, Nat.le_refl _, HG.out, Nat.le_refl _, by unfold maxLen; omega, by simp [strs_len, hfl], by rw [Nat.mul_one]; exact List.take_of_length_le (by show (strs (fitL zs n)).length ≤ n; rw [strs_len, hfl]; omega)⟩⟩, hbw⟩

end Go.Proofs.YtpoafhgbhnblmaaGreatDoor
