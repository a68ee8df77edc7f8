/-
  The reference's Row; table.Fit and the reference's.
-/
import Derived.Test.YtoageahnddepcaaDoorTabG
import Derived.Laws.CopyOwn
import Derived.Laws.MakeOwn
set_option linter.unusedVariables false
set_option linter.unusedSimpArgs false
namespace Go.Pub
open Go.RowKit
/-- Cells, cut or padded. -/
def fitL (zs : List ByteArray) (n : Nat) : List ByteArray := zs.take n ++ List.replicate (n - zs.length) ⟨#[]⟩
theorem fitL_len (zs : List ByteArray) (n : Nat) : (fitL zs n).length = n := by unfold fitL; simp; omega
theorem fitL_succ (zs : List ByteArray) (n : Nat) : fitL zs (n + 1) = fitL zs n ++ [if h : n < zs.length then zs[n] else ⟨#[]⟩] := by
  unfold fitL
  by_cases h : n < zs.length
  · rw [dif_pos h, List.take_succ_eq_append_getElem h, show n + 1 - zs.length = 0 by omega, show n - zs.length = 0 by omega]; simp
  · rw [dif_neg h, List.take_of_length_le (by omega), List.take_of_length_le (by omega), show n + 1 - zs.length = (n - zs.length) + 1 by omega, List.replicate_succ']; simp
/-- The number of columns. -/
def colN (c : Int) : Nat := min c.toNat 32
theorem made_rep (z : Value) (n : Nat) : madeCells #[z] n = (List.replicate n z).toArray := by
  unfold madeCells
  apply Array.ext
  · simp
  · intro i h1 h2
    simp [Nat.mod_one]
theorem splice_fit (zs : List ByteArray) (n : Nat) : splice (List.replicate n (Value.string ⟨#[]⟩)) 0 (strs (zs.take n)) = strs (fitL zs n) := by
  unfold splice fitL strs
  simp [List.map_append, List.map_replicate, List.drop_replicate]
  by_cases h : n ≤ zs.length
  · rw [show min n zs.length = n by omega, show n - n = 0 by omega, show n - zs.length = 0 by omega]
  · rw [show min n zs.length = zs.length by omega]
end Go.Pub
namespace Go.Proofs.YtoageahnddepcaaDoor
open Go.RowKit Go.Pub

set_option maxRecDepth 100000 in
set_option maxHeartbeats 2000000 in
theorem r_row (zs : List ByteArray) (A : Option Addr) (c B : Nat) (w : World) (hr : Reads w B 1 A zs.length (strs zs)) (hl : zs.length ≤ 10000) (hM : ∀ z ∈ zs, z.size ≤ 100000) :
    Calls Tryd.prog 22 #[.slice A zs.length c] w fun e w' => e = .returned (.string (mk (rowL zs))) ∧ w = w' := by
  have HX : Hid (rowL zs = rowL (zs.take zs.length)) := Lib.hid (by rw [List.take_length])
  have HL := Lib.hid (row_len zs 100000 hM)
  have HM := Lib.hid hM
  have HRd := Lib.hid hr
  generalize rowL zs = R at *
  clear hr hM
  go_enter Tryd.func22, Tryd.ntmps22
  go_wp2_with fail
  go_loop [3, 4] (fun v3 v4 => ∃ (k : Nat) (acc : List UInt8), v3 = .string (mk acc) ∧ v4 = .int .i64 k ∧ k ≤ zs.length ∧ Hid (acc = rowL (zs.take k))) (fun _ v => zs.length - (intOf v).toNat)
  case atStart => exact ⟨0, [124], rfl, rfl, by omega, Lib.hid rfl⟩
  case round =>
    obtain ⟨k, acc, rfl, rfl, hk, Hacc⟩ := hrel
    have hal : acc.length ≤ 1 + k * 200003 := by rw [Hacc.out]; exact HL.out k
    have hkm : k * 200003 ≤ 10000 * 200003 := Nat.mul_le_mul_right _ (by omega)
    by_cases hlt : k < zs.length
    · obtain ⟨b, off, rfl, hbB, hcell⟩ := reads_get HRd.out (by omega)
      have hc := hcell k hlt
      have hst : Hid (rowL (zs.take (k + 1)) = acc ++ [32] ++ barL (bytesL zs[k]) ++ [32, 124]) := Lib.hid (by rw [row_take zs k hlt, ← Hacc.out]; unfold row1; simp)
      have hzk := HM.out zs[k] (List.getElem_mem hlt)
      have hbl := barL_len (bytesL zs[k])
      rw [bytesL_length] at hbl
      have HP0 : Hid (acc ++ [32] ++ barL (sfx zs[k] 0) = acc ++ [32] ++ barL (bytesL zs[k])) := Lib.hid rfl
      have hPl : (acc ++ [32] ++ barL (bytesL zs[k])).length ≤ 4000000000 := by simp; omega
      generalize hP : acc ++ [32] ++ barL (bytesL zs[k]) = P at *
      have cat0 : ∀ w : World, (Op.stringOp .add (mk acc) ⟨#[32]⟩).run Tryd.prog w = .ok (.string (mk (acc ++ [32]))) w := fun w => cat_mk w acc ⟨#[32]⟩ _ (by show _ + 1 ≤ _; omega) rfl
      have catE : ∀ w : World, (Op.stringOp .add (mk P) ⟨#[32, 124]⟩).run Tryd.prog w = .ok (.string (mk (rowL (zs.take (k + 1))))) w := fun w => cat_mk w P ⟨#[32, 124]⟩ _ (by show _ + 2 ≤ _; omega) (by rw [hst.out]; rfl)
      clear hP hcell hbl
      generalize zs[k] = z at *
      go_wp2_with fail
      go_loop [3, 5] (fun v3 v5 => ∃ (j : Nat) (ac : List UInt8), v3 = .string (mk ac) ∧ v5 = .int .i64 j ∧ j ≤ z.size ∧ Hid (ac ++ barL (sfx z j) = P)) (fun _ v => z.size - (intOf v).toNat)
      case atStart => exact ⟨0, acc ++ [32], rfl, rfl, by omega, HP0⟩
      case round =>
        clear cat0 HP0
        obtain ⟨j, ac, rfl, rfl, hj, Hj⟩ := hrel
        by_cases hjl : j < z.size
        · have hlt2 : ((z[j].toNat : Nat) : Int) < 256 := by rw [get_bt z j hjl]; have := bt_lt z j; omega
          have hacl : ac.length + (barL (sfx z j)).length ≤ 4000000000 := by
            have := congrArg List.length Hj.out
            rw [List.length_append] at this; omega
          have j1 : (0 : Int) ≤ (j : Int) := by omega
          have j2 : (j : Int) ≤ (j : Int) + 1 := by omega
          have j3 : (j : Int) + 1 ≤ (z.size : Int) := by omega
          by_cases hc1 : bt z j = 124
          · have z1 : (((z[j].toNat : Nat) : Int) == 124) = true := by rw [get_bt z j hjl, hc1]; rfl
            have HN : Hid (ac ++ [92] ++ [z.get! j] ++ barL (sfx z (j + 1)) = P) := Lib.hid (by rw [← Hj.out, bar_step z j hjl, if_pos hc1]; simp)
            have cat1 : ∀ w : World, (Op.stringOp .add (mk ac) ⟨#[92]⟩).run Tryd.prog w = .ok (.string (mk (ac ++ [92]))) w := fun w => cat_mk w ac ⟨#[92]⟩ _ (by show _ + 1 ≤ _; omega) rfl
            have cat2 : ∀ w : World, (Op.stringOp .add (mk (ac ++ [92])) (z.extract j (j + 1))).run Tryd.prog w = .ok (.string (mk (ac ++ [92] ++ [z.get! j]))) w := fun w => by
              rw [run_string_add_sum w _ _ (by rw [mk_size, ByteArray.size_extract, List.length_append, List.length_singleton]; omega), mk_snoc' z _ j hjl]
            clear hc1
            go_wp2_with fail
            go_round
            case rel => exact ⟨j + 1, _, rfl, by go_num, by omega, Lib.hid (by rw [← HN.out]; simp)⟩
            case measure => simp [intOf]; omega
          · have z1 : (((z[j].toNat : Nat) : Int) == 124) = false := by rw [get_bt z j hjl, beq_eq_false_iff_ne]; omega
            have HN : Hid (ac ++ [z.get! j] ++ barL (sfx z (j + 1)) = P) := Lib.hid (by rw [← Hj.out, bar_step z j hjl, if_neg hc1]; simp)
            have cat2 : ∀ w : World, (Op.stringOp .add (mk ac) (z.extract j (j + 1))).run Tryd.prog w = .ok (.string (mk (ac ++ [z.get! j]))) w := fun w => by
              rw [run_string_add_sum w _ _ (by rw [mk_size, ByteArray.size_extract]; omega), mk_snoc' z _ j hjl]
            clear hc1
            go_wp2_with fail
            go_round
            case rel => exact ⟨j + 1, _, rfl, by go_num, by omega, HN⟩
            case measure => simp [intOf]; omega
        · obtain rfl : ac = P := by rw [← Hj.out, sfx_nil z j (by omega)]; simp [barL]
          go_wp2_with fail
          go_round
          case rel => exact ⟨k + 1, _, rfl, by go_num, by omega, Lib.hid rfl⟩
          case measure => simp [intOf]; omega
    · have HF : Hid (acc = R) := Lib.hid (by rw [Hacc.out, HX.out, show k = zs.length by omega])
      go_wp2_with fail
      go_ret
      exact ⟨ret_str (by rw [HF.out]), rfl⟩

set_option maxRecDepth 100000 in
set_option maxHeartbeats 2000000 in
theorem t_fit (zs : List ByteArray) (A : Option Addr) (c B : Nat) (col : Int) (w : World) (hr : Reads w B 1 A zs.length (strs zs)) (hB : B ≤ w.heap.size) (h1 : -9223372036854775808 ≤ col) (h2 : col ≤ 9223372036854775807) (hl : zs.length ≤ 10000) :
    Calls Tryd.prog 23 #[.slice A zs.length c, .int .i64 col] w fun e W' => ∃ v, e = .returned v ∧ W'.ownsRow w.heap.size 9 1 v (colN col) (strs (fitL zs (colN col))) ∧ Below w.heap.size w W' := by
  obtain ⟨i0, hi, hi0, hi1, hi2⟩ := info_parts strInfo
  have hn : colN col ≤ 32 := by unfold colN; omega
  have HMx : ∀ w : World, (Builtin.max_ #[3, 3] 3 #[.int .i64 col, .int .i64 0]).run Tryd.prog w = .ok (.int .i64 (col.toNat : Nat)) w := fun w => by
    rw [run_max_int2]
    congr 2
    split <;> omega
  have HMn : ∀ w : World, (Builtin.min_ #[3, 3] 3 #[.int .i64 (col.toNat : Nat), .int .i64 32]).run Tryd.prog w = .ok (.int .i64 (colN col : Nat)) w := fun w => by
    rw [run_min_int2]
    congr 2
    unfold colN
    split <;> omega
  have hmk : ∀ W : World, (Instr.makeSlice 23 (.int .i64 (colN col : Nat)) (.int .i64 (colN col : Nat))).run Tryd.prog W = .ok (.slice (some ⟨W.heap.size, 0, none⟩) (colN col) (colN col)) (W.alloc (.cells (List.replicate (colN col) (Value.string ⟨#[]⟩)).toArray 9)) := fun W => by
    have h := run_make (P := Tryd.prog) W 23 9 i0 (.string ⟨#[]⟩) Tryd.underlying23 hi hi0 .i64 .i64 (colN col : Nat) (colN col : Nat) (by omega) (by omega) (by rw [hi2]; omega) (by omega)
    rw [Int.toNat_natCast, hi1, Nat.mul_one] at h
    rw [h]
    have : (Value.string ⟨#[]⟩).cells = #[Value.string ⟨#[]⟩] := rfl
    rw [this, made_rep]
  have hcs : ∀ u ∈ strs (zs.take (colN col)), u.oneCell' = true := by
    intro u hu
    unfold strs at hu
    obtain ⟨z, _, rfl⟩ := List.mem_map.1 hu
    rfl
  have HSP := Lib.hid (splice_fit zs (colN col))
  have hfl := fitL_len zs (colN col)
  have HRd := Lib.hid hr
  clear hr
  generalize colN col = n at *
  generalize (col.toNat : Nat) = cc at *
  have HCS := Lib.hid hcs
  clear hcs
  have HG0 : Hid ((w.alloc (.cells (Array.replicate n (Value.string ⟨#[]⟩)) 9)).heap[w.heap.size]? = some (.cells (List.replicate n (Value.string ⟨#[]⟩)).toArray 9 (0, 0))) := Lib.hid (by
    rw [List.toArray_replicate]; exact heap_alloc_new w _)
  have hsz : (Tryd.prog.info? 9).map (·.size) = some 1 := by rw [hi]; simp [hi1]
  obtain ⟨r, w2, hcp, HG, hbw⟩ : ∃ r w2, (Builtin.copy_ #[23, 23] 3 #[.slice (some ⟨w.heap.size, 0, none⟩) n n, .slice A zs.length c]).run Tryd.prog (w.alloc (.cells (Array.replicate n (Value.string ⟨#[]⟩)) 9)) = .ok r w2 ∧
      Hid (w2.heap[w.heap.size]? = some (.cells (strs (fitL zs n)).toArray 9 (0, 0))) ∧ Below w.heap.size w w2 := by
    by_cases h0 : Nat.min zs.length n = 0
    · refine ⟨_, _, run_copy_none (P := Tryd.prog) _ 23 23 3 9 _ _ _ _ _ _ Tryd.underlying23 hsz h0, ?_, (Below.refl _ _).alloc (Nat.le_refl _) _⟩
      refine Lib.hid (HG0.out.trans ?_)
      have e : strs (zs.take n) = [] := by
        have : (strs (zs.take n)).length = 0 := by rw [strs_len, List.length_take, Nat.min_comm]; exact h0
        exact List.length_eq_zero_iff.1 this
      have h2 := HSP.out
      rw [e] at h2
      rw [← h2]
      simp [splice]
    · have hpos : 0 < zs.length := by
        rcases Nat.eq_zero_or_pos zs.length with h | h
        · rw [h] at h0; exact absurd (Nat.zero_min _) h0
        · exact h
      obtain ⟨b, off, rfl, hbB, hcell⟩ := reads_get HRd.out hpos
      have hrun := run_copy_row (P := Tryd.prog) (w.alloc (.cells (Array.replicate n (Value.string ⟨#[]⟩)) 9)) 23 23 3 9 w.heap.size 0 n n ⟨b, off, none⟩ zs.length c (List.replicate n (Value.string ⟨#[]⟩)).toArray 9 (strs (zs.take n)) Tryd.underlying23 hsz HG0.out (by rw [strs_len, List.length_take]; exact Nat.min_comm _ _) (fun j v hj => by
        have hj' : j < (zs.take n).length := by
          rw [← strs_len]
          exact (List.getElem?_eq_some_iff.1 hj).1
        rw [strs_at _ j hj'] at hj
        cases hj
        rw [List.length_take] at hj'
        rw [List.getElem_take]
        have := hcell j (by omega)
        rw [World.cell?_alloc_lt w _ _ (by rw [block_of_add]; show b < _; omega)]
        unfold Addr.add
        by_cases h0 : j = 0
        · subst h0; simpa using this
        · simpa [h0] using this) (by simp [strs_len]; omega) HCS.out
      refine ⟨_, _, hrun, Lib.hid ?_, below_setRow ((Below.refl _ _).alloc (Nat.le_refl _) _) (Nat.le_refl _) _⟩
      rw [setRow_heap _ _ _ _ _ _ HG0.out, ← HSP.out]
      simp [splice]
  go_enter Tryd.func23, Tryd.ntmps23
  go_wp2_with fail
  go_ret
  refine ⟨_, rfl, ⟨by rw [strs_len, hfl]; omega, .inr ⟨w.heap.size, n, (strs (fitL zs n)).toArray, rfl, Nat.le_refl _, HG.out, Nat.le_refl _, by unfold maxLen; omega, by simp [strs_len, hfl], by rw [Nat.mul_one]; exact List.take_of_length_le (by show (strs (fitL zs n)).length ≤ n; rw [strs_len, hfl]; omega)⟩⟩, hbw⟩

def FitRel (zs : List ByteArray) (n : Nat) (w : World) (v5 v6 : Value) (wr : World) : Prop :=
  ∃ k : Nat, v6 = .int .i64 k ∧ k ≤ n ∧ wr.ownsRow w.heap.size 9 1 v5 k (strs (fitL zs k)) ∧ Below w.heap.size w wr

set_option maxRecDepth 100000 in
set_option maxHeartbeats 2000000 in
theorem r_fit (zs : List ByteArray) (A : Option Addr) (c B : Nat) (col : Int) (w : World) (hr : Reads w B 1 A zs.length (strs zs)) (hB : B ≤ w.heap.size) (h1 : -9223372036854775808 ≤ col) (h2 : col ≤ 9223372036854775807) (hl : zs.length ≤ 10000) :
    Calls Tryd.prog 24 #[.slice A zs.length c, .int .i64 col] w fun e W' => ∃ v, e = .returned v ∧ W'.ownsRow w.heap.size 9 1 v (colN col) (strs (fitL zs (colN col))) ∧ Below w.heap.size w W' := by
  obtain ⟨i0, hi, hi0, hi1, hi2⟩ := info_parts strInfo
  have hn : colN col ≤ 32 := by unfold colN; omega
  have HRd := Lib.hid hr
  clear hr
  have HC : Hid (∀ k : Nat, k ≤ colN col → (32 < col ∨ col ≤ 32) ∧ ((k : Int) < min col 32 ↔ k < colN col)) := Lib.hid fun k hk => ⟨by omega, by unfold colN; omega⟩
  generalize hn0 : colN col = n at *
  clear hn0
  go_enter Tryd.func24, Tryd.ntmps24
  go_upto_if 9 with fail
  go_cut [1] (fun s1 wx => (∃ cc : Int, s1 = .int .i64 cc ∧ cc = min col 32) ∧ w = wx)
  case first =>
    by_cases h : 32 < col
    · go_wp2_with fail
      go_meet
      exact ⟨⟨32, rfl, by omega⟩, rfl⟩
    · go_wp2_with fail
      go_meet
      exact ⟨⟨col, rfl, by omega⟩, rfl⟩
  case rest =>
  obtain ⟨⟨cc, rfl, hcc⟩, rfl⟩ := hcut
  have HC2 : Hid (∀ k : Nat, k ≤ n → ((k : Int) < cc ↔ k < n)) := Lib.hid fun k hk => by rw [hcc]; exact (HC.out k hk).2
  clear hcc HC
  go_wp2_with fail
  go_loopw [5, 6] (fun v5 v6 wr => FitRel zs n w v5 v6 wr) (fun _ v _ => n - (intOf v).toNat)
  case atStart => exact ⟨0, rfl, by omega, by rw [show strs (fitL zs 0) = [] by unfold fitL strs; simp]; exact World.ownsRow_nil _ _ _ _, Below.refl _ _⟩
  case round =>
    obtain ⟨k, rfl, hk, hown, hbw⟩ := hrel
    have hz := hbw.size
    by_cases hlt : k < n
    · have hkc : (k : Int) < cc := (HC2.out k hk).2 hlt
      have HS := Lib.hid (fitL_succ zs k)
      by_cases hzk : k < zs.length
      · obtain ⟨b, off, rfl, hbB, hcell⟩ := reads_get HRd.out (by omega)
        have hc : wr.cell? ⟨b, off + k, none⟩ = some (.string zs[k]) := (hbw.cell (p := ⟨b, off + k, none⟩) (by show b < _; omega)).trans (hcell k hzk)
        have HE : Hid (strs (fitL zs (k + 1)) = strs (fitL zs k) ++ [.string zs[k]]) := Lib.hid (by rw [HS.out, dif_pos hzk]; unfold strs; simp)
        clear hcell HS
        generalize zs[k] = z at *
        go_wp2_with (at_builtin; refine wpList_append_own _ rfl _ _ 23 rfl w.heap.size 9 i0 _ 1 16 Tryd.underlying23 hi hi0 hi1 hi2 rfl (by decide) _ _ _ rfl (hown.alloc _) ⟨wr.heap.size, 0, none⟩ 1 1 [.string z] rfl rfl ?c1 ?c2 ?c3 ?c4 ?c5 ?_)
        case c1 =>
          intro j u hj
          match j, hj with
          | 0, hj => simp at hj; subst hj; simp [Addr.add]
        case c2 => intro u hu; simp at hu; subst hu; rfl
        case c3 => unfold maxLen; omega
        case c4 => omega
        case c5 => simp; omega
        intro v' w2 hown3 hgrow _
        have hnx : Below w.heap.size w w2 := (hbw.alloc hz _).grown hgrow (by simp; omega) (fun k hk => (hown.lt k hk).1)
        go_wp2_with fail
        go_roundw
        case rel => exact ⟨k + 1, by go_num, by omega, by rw [HE.out]; exact hown3, hnx⟩
        case measure => simp [intOf]; omega
      · have HE : Hid (strs (fitL zs (k + 1)) = strs (fitL zs k) ++ [.string ⟨#[]⟩]) := Lib.hid (by rw [HS.out, dif_neg hzk]; unfold strs; simp)
        clear HS
        go_wp2_with (at_builtin; refine wpList_append_own _ rfl _ _ 23 rfl w.heap.size 9 i0 _ 1 16 Tryd.underlying23 hi hi0 hi1 hi2 rfl (by decide) _ _ _ rfl (hown.alloc _) ⟨wr.heap.size, 0, none⟩ 1 1 [.string ⟨#[]⟩] rfl rfl ?c1 ?c2 ?c3 ?c4 ?c5 ?_)
        case c1 =>
          intro j u hj
          match j, hj with
          | 0, hj => simp at hj; subst hj; simp [Addr.add]
        case c2 => intro u hu; simp at hu; subst hu; rfl
        case c3 => unfold maxLen; omega
        case c4 => omega
        case c5 => simp; omega
        intro v' w2 hown3 hgrow _
        have hnx : Below w.heap.size w w2 := (hbw.alloc hz _).grown hgrow (by simp; omega) (fun k hk => (hown.lt k hk).1)
        go_wp2_with fail
        go_roundw
        case rel => exact ⟨k + 1, by go_num, by omega, by rw [HE.out]; exact hown3, hnx⟩
        case measure => simp [intOf]; omega
    · obtain rfl : k = n := by omega
      have hkc : ¬ (k : Int) < cc := fun h => hlt ((HC2.out k hk).1 h)
      have d1 : decide ((k : Int) < cc) = false := decide_eq_false hkc
      go_wp2_with fail
      go_ret
      exact ⟨_, rfl, hown, hbw⟩
end Go.Proofs.YtoageahnddepcaaDoor
