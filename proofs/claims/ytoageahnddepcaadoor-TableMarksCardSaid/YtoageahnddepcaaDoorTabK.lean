/-
  The reference's Align; table.Head and the reference's.
-/
import Derived.Test.YtoageahnddepcaaDoorTabJ
set_option linter.unusedVariables false
set_option linter.unusedSimpArgs false
namespace Go.Pub
open Go.RowKit
/-- The cells of a line. -/
def cellsB (l : List UInt8) : List ByteArray := (partsL l).map fun p => mk (cellL p)
theorem cellsB_strs (l : List UInt8) : ((partsL l).map fun p => Value.string (mk (cellL p))) = strs (cellsB l) := by unfold cellsB strs; rw [List.map_map]; rfl
theorem cellsB_len (l : List UInt8) : (cellsB l).length = (partsL l).length := by unfold cellsB; rw [List.length_map]
theorem partsL_pos (l : List UInt8) : 0 < (partsL l).length := List.length_pos_iff.2 (splitGo_ne _ _)
theorem partsL_len (l : List UInt8) : (partsL l).length ≤ l.length + 1 := by
  unfold partsL
  have h1 := splitGo_len (bytesL (coreB l)) false
  have h2 := coreB_size l
  rw [bytesL_length] at h1; omega
theorem partsL_mem (l : List UInt8) : ∀ p ∈ partsL l, p.length ≤ l.length := fun p hp => by
  have h1 := splitGo_mem _ _ p hp
  have h2 := coreB_size l
  rw [bytesL_length] at h1; omega
theorem cellL_len (p : List UInt8) : (cellL p).length ≤ p.length := Nat.le_trans (unbarL_len _ _ (Nat.le_refl _)) (trimS_len p)
theorem cellsB_mem (l : List UInt8) : ∀ z ∈ cellsB l, z.size ≤ l.length := fun z hz => by
  unfold cellsB at hz
  obtain ⟨p, hp, rfl⟩ := List.mem_map.1 hz
  rw [mk_size]
  exact Nat.le_trans (cellL_len p) (partsL_mem l p hp)
theorem mem_inn1 {c : UInt8} {t : List UInt8} (hc : c ∈ t) (h : c ≠ 58) : c ∈ inn1 t := by
  unfold inn1 Lib.trimPrefix
  split
  · rename_i hp
    cases t with
    | nil => cases hc
    | cons a t =>
      have : a = 58 := by
        have : ((58 : UInt8) == a && true) = true := hp
        simpa using (by simpa using this : (58 : UInt8) = a).symm
      rcases List.mem_cons.1 hc with rfl | hc
      · exact absurd this h
      · exact hc
  · exact hc
theorem mem_tsuf {c : UInt8} {t : List UInt8} (hc : c ∈ t) (h : c ≠ 58) : c ∈ Lib.trimSuffix t [58] := by
  unfold Lib.trimSuffix
  split
  · rename_i hp
    rcases List.eq_nil_or_concat t with rfl | ⟨l, a, rfl⟩
    · cases hc
    · rw [List.concat_eq_append] at *
      rw [suf_snoc] at hp
      have ha : a = 58 := by simpa using hp
      show c ∈ (l ++ [a]).take ((l ++ [a]).length - 1)
      rw [List.length_append, List.length_singleton, Nat.add_sub_cancel, List.take_left]
      rcases List.mem_append.1 hc with hc | hc
      · exact hc
      · rw [List.mem_singleton] at hc; rw [hc] at h; exact absurd ha h
  · exact hc
theorem let_bad {t : List UInt8} (c : UInt8) (hc : c ∈ t) (h1 : c ≠ 45) (h2 : c ≠ 58) : letL t = [] := by
  have hm : c ∈ inn2 t := mem_tsuf (mem_inn1 hc h2) h2
  unfold letL
  rw [if_pos (Or.inr ?_)]
  rw [List.all_eq_false]
  exact ⟨c, hm, by simpa using h1⟩
theorem unbar_alt : ∀ (n : Nat) (t : List UInt8), t.length ≤ n → unbarL t = t ∨ ((92 : UInt8) ∈ t ∧ (124 : UInt8) ∈ unbarL t)
  | 0, t, h => by cases t with
    | nil => exact Or.inl rfl
    | cons c l => simp at h
  | n + 1, [], _ => Or.inl rfl
  | n + 1, c :: l, h => by
    rw [unbarL_cons]
    split
    · rename_i hc
      obtain ⟨rfl, hc⟩ := hc
      cases l with
      | nil => simp at hc
      | cons d l =>
        obtain rfl : d = 124 := by simpa using hc
        exact Or.inr ⟨List.mem_cons_self, List.mem_cons_self⟩
    · rcases unbar_alt n l (by simp at h; omega) with h1 | ⟨h1, h2⟩
      · exact Or.inl (by rw [h1])
      · exact Or.inr ⟨List.mem_cons_of_mem _ h1, List.mem_cons_of_mem _ h2⟩
theorem let_cell (p : List UInt8) : letL (cellL p) = letP p := by
  unfold cellL letP
  rcases unbar_alt _ (trimS p) (Nat.le_refl _) with h | ⟨h1, h2⟩
  · rw [h]
  · rw [let_bad 124 h2 (by decide) (by decide), let_bad 92 h1 (by decide) (by decide)]
theorem has_end (s : ByteArray) (k : Nat) (h : s.size ≤ k) : (sfx s k).contains 124 = false := by rw [sfx_nil s k h]; rfl
theorem has_step (s : ByteArray) (k : Nat) (h : k < s.size) : (sfx s k).contains 124 = ((bt s k == 124) || (sfx s (k + 1)).contains 124) := by
  rw [sfx_cons s k h, List.contains_cons]
  congr 1
  rw [Bool.eq_iff_iff]
  simp only [beq_iff_eq]
  rw [← bt_u8 s k 124 (by decide)]
  exact ⟨fun e => e.symm, fun e => e.symm⟩
theorem aln_take (ps : List (List UInt8)) (k : Nat) (h : k < ps.length) : (ps.take (k + 1)).flatMap letP = (ps.take k).flatMap letP ++ letP ps[k] := by
  rw [List.take_succ_eq_append_getElem h, List.flatMap_append]; simp
end Go.Pub
namespace Go.Proofs.YtoageahnddepcaaDoor
open Go.RowKit Go.Pub

def CellsPost (l : List UInt8) (w : World) (e : Ending) (W' : World) : Prop := ∃ A c, e = .returned (.slice A (cellsB l).length c) ∧ W'.ownsRow w.heap.size 9 1 (.slice A (cellsB l).length c) (cellsB l).length (strs (cellsB l)) ∧ Below w.heap.size w W'
theorem t_cellsP (s : ByteArray) (m : Int) (w : World) (hs : s.size ≤ 1000000) (hm : w.cell? ⟨0, 0, none⟩ = some (.int .i64 m)) : Calls Tryd.prog 12 #[.string s] w (CellsPost (bytesL s) w) := by
  refine (t_cells s m w hs hm).mono ?_
  rintro e W' ⟨v, rfl, hown, hb⟩
  rw [cellsB_strs, ← cellsB_len] at hown
  obtain ⟨A, c, rfl⟩ := own_slice hown
  exact ⟨A, c, rfl, hown, hb⟩
theorem r_cellsP (s : ByteArray) (w : World) (hs : s.size ≤ 1000000) : Calls Tryd.prog 15 #[.string s] w (CellsPost (bytesL s) w) := by
  refine (r_cells s w hs).mono ?_
  rintro e W' ⟨v, rfl, hown, hb⟩
  have e1 : (partsL (bytesL s)).map cellS = strs (cellsB (bytesL s)) := cellsB_strs _
  rw [e1, ← cellsB_len] at hown
  obtain ⟨A, c, rfl⟩ := own_slice hown
  exact ⟨A, c, rfl, hown, hb⟩

set_option maxRecDepth 100000 in
set_option maxHeartbeats 4000000 in
theorem r_align (s : ByteArray) (w : World) (hs : s.size ≤ 1000000) : Calls Tryd.prog 17 #[.string s] w (AlnPost (alignR (bytesL s)) w) := by
  have HC := Lib.hid fun W => r_cellsP s W hs
  have HA : Hid (alignR (bytesL s) = if (bytesL s).contains 124 = true then (if (partsL (bytesL s)).length ≤ 32 ∧ ((partsL (bytesL s)).all fun p => !(letP p).isEmpty) = true then some ((partsL (bytesL s)).flatMap letP) else none) else none) := Lib.hid rfl
  have HK : Hid ((bytesL s).contains 124 = (sfx s 0).contains 124) := Lib.hid rfl
  have HZ := Lib.hid (cellsB_len (bytesL s))
  have HG : Hid (∀ k (h : k < (cellsB (bytesL s)).length), ∃ h' : k < (partsL (bytesL s)).length, letL (bytesL (cellsB (bytesL s))[k]) = letP (partsL (bytesL s))[k]) := Lib.hid fun k h => ⟨by rw [← cellsB_len]; exact h, by
    have e : (cellsB (bytesL s))[k] = mk (cellL ((partsL (bytesL s))[k]'(by rw [← cellsB_len]; exact h))) := by simp [cellsB]
    rw [e, bytesL_mk', let_cell]⟩
  have HM := Lib.hid (cellsB_mem (bytesL s))
  rw [bytesL_length] at HM
  unfold CellsPost at HC
  generalize alignR (bytesL s) = R at *
  generalize cellsB (bytesL s) = zs at *
  generalize partsL (bytesL s) = ps at *
  generalize (bytesL s).contains 124 = hb at *
  go_enter Tryd.func17, Tryd.ntmps17
  go_wp2_with fail
  go_loop [4, 5] (fun v4 v5 => ∃ (k : Nat) (b : Bool), v4 = .bool b ∧ v5 = .int .i64 k ∧ k ≤ s.size ∧ Hid (hb = (b || (sfx s k).contains 124))) (fun _ v => s.size - (intOf v).toNat)
  case atStart => exact ⟨0, false, rfl, rfl, by omega, Lib.hid (by rw [HK.out]; rfl)⟩
  case round =>
    obtain ⟨k, b, rfl, rfl, hk, Hk⟩ := hrel
    by_cases hlt : k < s.size
    · have hst := Lib.hid (has_step s k hlt)
      cases b
      · have HB : Hid ((((s[k].toNat : Nat) : Int) == 124) = (bt s k == 124)) := Lib.hid (by rw [get_bt s k hlt, Bool.eq_iff_iff]; simp only [beq_iff_eq]; omega)
        go_wp2_with fail
        go_round
        case rel => exact ⟨k + 1, (((s[k].toNat : Nat) : Int) == 124), rfl, by go_num, by omega, Lib.hid (by rw [Hk.out, hst.out, HB.out]; rfl)⟩
        case measure => simp [intOf]; omega
      · go_wp2_with fail
        go_round
        case rel => exact ⟨k + 1, true, rfl, by go_num, by omega, Lib.hid (by rw [Hk.out]; rfl)⟩
        case measure => simp [intOf]; omega
    · have HB : Hid (hb = b) := Lib.hid (by rw [Hk.out, has_end s k (by omega), Bool.or_false])
      clear Hk HK
      go_wp2_with fail
      ((with_reducible refine (HC.out _).mono ?_))
      rintro e w1 ⟨A, c, rfl, hown, b1⟩
      have hrd := Reads.of_own hown
      have HRd := Lib.hid hrd
      clear hrd hown
      cases b
      · have HF : Hid (R = none) := Lib.hid (by rw [HA.out, HB.out]; rfl)
        go_wp2_with fail
        go_ret2
        exact ⟨by rw [HF.out]; rfl, b1⟩
      · by_cases h32 : 32 < zs.length
        · have HF : Hid (R = none) := Lib.hid (by
            rw [HA.out, HB.out, if_pos rfl, if_neg]
            intro h
            have := HZ.out
            omega)
          go_wp2_with fail
          go_ret2
          exact ⟨by rw [HF.out]; rfl, b1⟩
        · have HA2 : Hid (R = if (ps.all fun p => !(letP p).isEmpty) = true then some (ps.flatMap letP) else none) := Lib.hid (by
            rw [HA.out, HB.out, if_pos rfl]
            have := HZ.out
            by_cases h : (ps.all fun p => !(letP p).isEmpty) = true
            · rw [if_pos ⟨by omega, h⟩, if_pos h]
            · rw [if_neg (fun e => h e.2), if_neg h])
          clear HA HB
          go_wp2_with fail
          go_loop [7, 8] (fun v7 v8 => ∃ (j : Nat) (acc : List UInt8), v7 = .string (mk acc) ∧ v8 = .int .i64 j ∧ j ≤ zs.length ∧ acc.length ≤ j ∧ Hid (acc = (ps.take j).flatMap letP ∧ ∀ i (h : i < ps.length), i < j → letP ps[i] ≠ [])) (fun _ v => zs.length - (intOf v).toNat)
          case atStart => exact ⟨0, [], rfl, rfl, by omega, by simp, Lib.hid ⟨by simp, fun i _ h => by omega⟩⟩
          case round =>
            obtain ⟨j, acc, rfl, rfl, hj, hal, Hj⟩ := hrel
            by_cases hjl : j < zs.length
            · obtain ⟨ba, off, rfl, hbB, hcell⟩ := reads_get HRd.out (by omega)
              have hc := hcell j hjl
              have HL := Lib.hid fun W => r_letter zs[j] W (by have := HM.out zs[j] (List.getElem_mem hjl); omega)
              obtain ⟨hjp, hle⟩ := HG.out j hjl
              rw [hle] at HL
              have hl1 : (letP ps[j]).length ≤ 1 := letL_len _
              have HT := Lib.hid (aln_take ps j hjp)
              clear hcell hle
              generalize zs[j] = z at *
              by_cases h0 : letP ps[j] = []
              · have HF : Hid (R = none) := Lib.hid (by
                  rw [HA2.out, if_neg]
                  intro h
                  have := List.all_eq_true.1 h ps[j] (List.getElem_mem hjp)
                  rw [h0] at this
                  cases this)
                have HL' : Hid (∀ W, Calls Tryd.prog 34 #[.string z] W fun e w' => e = .returned (.string ⟨#[]⟩) ∧ W = w') := Lib.hid (by rw [h0] at HL; exact HL.out)
                clear h0
                go_wp2_with fail
                ((with_reducible refine (HL'.out _).mono ?_))
                rintro e w0 ⟨rfl, rfl⟩
                go_wp2_with fail
                go_ret2
                exact ⟨by rw [HF.out]; rfl, b1⟩
              · obtain ⟨x1, x2⟩ := cons_list (mk (letP ps[j])) (by rw [bytesL_mk']; exact h0)
                have HN : Hid (∀ i (h : i < ps.length), i < j + 1 → letP ps[i] ≠ []) := Lib.hid fun i h hi => by
                  by_cases e : i = j
                  · subst e; exact h0
                  · exact Hj.out.2 i h (by omega)
                have cat : ∀ w : World, (Op.stringOp .add (mk acc) (mk (letP ps[j]))).run Tryd.prog w = .ok (.string (mk (acc ++ letP ps[j]))) w := fun w => cat_mk w acc _ _ (by rw [mk_size]; omega) (by rw [bytesL_mk'])
                clear h0
                go_wp2_with fail
                ((with_reducible refine (HL.out _).mono ?_))
                rintro e w0 ⟨rfl, rfl⟩
                go_wp2_with fail
                go_round
                case rel => exact ⟨j + 1, acc ++ letP ps[j], rfl, by go_num, by omega, by rw [List.length_append]; omega, Lib.hid ⟨by rw [HT.out, Hj.out.1], HN.out⟩⟩
                case measure => simp [intOf]; omega
            · have HF : Hid (R = some acc) := Lib.hid (by
                have hz := HZ.out
                rw [HA2.out, if_pos]
                · rw [Hj.out.1, List.take_of_length_le (by omega)]
                · rw [List.all_eq_true]
                  intro p hp
                  obtain ⟨i, hi, rfl⟩ := List.mem_iff_getElem.1 hp
                  have := Hj.out.2 i hi (by omega)
                  cases hq : letP ps[i] with
                  | nil => exact absurd hq this
                  | cons a b => rfl)
              go_wp2_with fail
              go_ret2
              exact ⟨by rw [HF.out]; rfl, b1⟩
end Go.Proofs.YtoageahnddepcaaDoor
