/-
  The laws TableRows, TableBack, TableFits, walked.
-/
import Derived.Test.YtoageahnddepcaaDoorTabQ
set_option linter.unusedVariables false
set_option linter.unusedSimpArgs false
namespace Go.Proofs.YtoageahnddepcaaDoor
open Go.RowKit Go.Pub

set_option maxRecDepth 100000 in
set_option maxHeartbeats 4000000 in
theorem lawRows_any (zs : List ByteArray) (A : Option Addr) (c : Nat) (m : Int) (w : World) (hr : Reads w w.heap.size 1 A zs.length (strs zs)) (hl : zs.length ≤ 9223372036854775807) (hz : ∀ z ∈ zs, z.size ≤ 9223372036854775807) (hm : w.cell? ⟨0, 0, none⟩ = some (.int .i64 m)) :
    Calls Tryd.prog 6 #[.slice A zs.length c] w fun e w' => e = .returned (.bool true) ∧ Below w.heap.size w w' := by
  have h0w : 0 < w.heap.size := World.block_lt_of_cell? _ _ hm
  have HM : Hid (∀ W, Below w.heap.size w W → W.cell? ⟨0, 0, none⟩ = some (.int .i64 m)) := Lib.hid fun W h => (h.cell (p := ⟨0, 0, none⟩) h0w).trans hm
  have HA : Hid (∀ W, Below w.heap.size w W → Calls Tryd.prog 11 #[] W fun e w' => e = .returned (.bool true) ∧ Below W.heap.size W w') := Lib.hid fun W h => awake_any m W (HM.out W h)
  have HL := Lib.hid (light_any zs A c w.heap.size w hr hl hz)
  have HRd := Lib.hid hr
  have HR : Hid (LightP zs → ∀ W, Below w.heap.size w W → Calls Tryd.prog 21 #[.slice A zs.length c] W fun e w' => e = .returned (.string (mk (rowL zs))) ∧ Below W.heap.size W w') := Lib.hid fun hP W hW => t_row zs A c w.heap.size m W (HRd.out.below hW) hW.size (by have := hP.1; omega) (fun z hz => by have := hP.2 z hz; omega) (HM.out W hW)
  have HS : Hid (LightP zs → ∀ W, Below w.heap.size w W → Calls Tryd.prog 22 #[.slice A zs.length c] W fun e w' => e = .returned (.string (mk (rowL zs))) ∧ W = w') := Lib.hid fun hP W hW => r_row zs A c w.heap.size W (HRd.out.below hW) (by have := hP.1; omega) (fun z hz => by have := hP.2 z hz; omega)
  clear hm hr hz
  generalize mk (rowL zs) = R at *
  have q1 : (R.toList == R.toList) = true := beq_self_eq_true _
  go_enter Tryd.func6, Tryd.ntmps6
  go_wp2_with fail
  ((with_reducible refine (HL.out).mono ?_))
  rintro e w' ⟨⟨b, rfl, hP⟩, rfl⟩
  cases b
  · go_wp2_with fail
    ((with_reducible refine (HA.out _ (Below.refl _ _)).mono ?_))
    rintro e w1 ⟨rfl, b1⟩
    go_wp2_with fail
    go_ret
    exact ⟨rfl, b1⟩
  · have HP := Lib.hid (hP rfl)
    clear hP
    go_wp2_with fail
    ((with_reducible refine (HR.out HP.out _ (Below.refl _ _)).mono ?_))
    rintro e w1 ⟨rfl, b1⟩
    have B1 := Lib.hid b1
    clear b1
    go_wp2_with fail
    ((with_reducible refine (HS.out HP.out _ B1.out).mono ?_))
    rintro e w2 ⟨rfl, rfl⟩
    go_wp2_with fail
    ((with_reducible refine (HA.out _ B1.out).mono ?_))
    rintro e w3 ⟨rfl, b3⟩
    go_wp2_with fail
    go_ret
    exact ⟨rfl, B1.out.trans (b3.mono B1.out.size)⟩

set_option maxRecDepth 100000 in
set_option maxHeartbeats 4000000 in
theorem lawFits_any (zs : List ByteArray) (A : Option Addr) (c : Nat) (col m : Int) (w : World) (hr : Reads w w.heap.size 1 A zs.length (strs zs)) (hl : zs.length ≤ 9223372036854775807) (hz : ∀ z ∈ zs, z.size ≤ 9223372036854775807) (h1 : -9223372036854775808 ≤ col) (h2 : col ≤ 9223372036854775807) (hm : w.cell? ⟨0, 0, none⟩ = some (.int .i64 m)) :
    Calls Tryd.prog 9 #[.slice A zs.length c, .int .i64 col] w fun e w' => e = .returned (.bool true) ∧ Below w.heap.size w w' := by
  have h0w : 0 < w.heap.size := World.block_lt_of_cell? _ _ hm
  have HM : Hid (∀ W, Below w.heap.size w W → W.cell? ⟨0, 0, none⟩ = some (.int .i64 m)) := Lib.hid fun W h => (h.cell (p := ⟨0, 0, none⟩) h0w).trans hm
  have HA : Hid (∀ W, Below w.heap.size w W → Calls Tryd.prog 11 #[] W fun e w' => e = .returned (.bool true) ∧ Below W.heap.size W w') := Lib.hid fun W h => awake_any m W (HM.out W h)
  have HL := Lib.hid (light_any zs A c w.heap.size w hr hl hz)
  have HRd := Lib.hid hr
  have hfl := fitL_len zs (colN col)
  have hn : colN col ≤ 32 := by unfold colN; omega
  have HR : Hid (LightP zs → ∀ W, Below w.heap.size w W → Calls Tryd.prog 23 #[.slice A zs.length c, .int .i64 col] W (SlPost (fitL zs (colN col)) W)) := Lib.hid fun hP W hW => (t_fit zs A c w.heap.size col W (HRd.out.below hW) hW.size h1 h2 (by have := hP.1; omega)).mono fun e W' ⟨v, he, ho, hb⟩ => SlPost.of (by rw [fitL_len]) he ho hb
  have HS : Hid (LightP zs → ∀ W, Below w.heap.size w W → Calls Tryd.prog 24 #[.slice A zs.length c, .int .i64 col] W (SlPost (fitL zs (colN col)) W)) := Lib.hid fun hP W hW => (r_fit zs A c w.heap.size col W (HRd.out.below hW) hW.size h1 h2 (by have := hP.1; omega)).mono fun e W' ⟨v, he, ho, hb⟩ => SlPost.of (by rw [fitL_len]) he ho hb
  have HMn : ∀ w : World, (Builtin.min_ #[3, 3] 3 #[.int .i64 col, .int .i64 32]).run Tryd.prog w = .ok (.int .i64 (min col 32)) w := fun w => by
    rw [run_min_int2]
    congr 2
    split <;> omega
  have HMx : ∀ w : World, (Builtin.max_ #[3, 3] 3 #[.int .i64 0, .int .i64 (min col 32)]).run Tryd.prog w = .ok (.int .i64 (colN col : Nat)) w := fun w => by
    rw [run_max_int2]
    congr 2
    unfold colN
    split <;> omega
  clear hm hr hz
  generalize hF : fitL zs (colN col) = F at *
  clear hF
  generalize colN col = n at *
  generalize min col 32 = mn at *
  have q1 : ((n : Int) == (n : Int)) = true := beq_self_eq_true _
  have q2 : (n == n) = true := beq_self_eq_true _
  go_enter Tryd.func9, Tryd.ntmps9
  go_wp2_with fail
  ((with_reducible refine (HL.out).mono ?_))
  rintro e w' ⟨⟨b, rfl, hP⟩, rfl⟩
  cases b
  · go_wp2_with fail
    ((with_reducible refine (HA.out _ (Below.refl _ _)).mono ?_))
    rintro e w1 ⟨rfl, b1⟩
    go_wp2_with fail
    go_ret
    exact ⟨rfl, b1⟩
  · have HP := Lib.hid (hP rfl)
    clear hP
    go_wp2_with fail
    ((with_reducible refine (HR.out HP.out _ (Below.refl _ _)).mono ?_))
    rintro e w1 ⟨A1, c1, he, hr1, b1⟩
    rw [hfl] at he
    subst he
    have R1 := Lib.hid hr1
    have B1 := Lib.hid b1
    clear b1 hr1
    go_wp2_with fail
    ((with_reducible refine (HS.out HP.out _ B1.out).mono ?_))
    rintro e w2 ⟨A2, c2, he, hr2, b2⟩
    rw [hfl] at he
    subst he
    have R2 := Lib.hid hr2
    have hz2 := b2.size
    have R1' := Lib.hid ((R1.out.below b2).more hz2)
    have B2 := Lib.hid (B1.out.trans (b2.mono B1.out.size))
    have HT := Lib.hid (texts_same F A1 A2 c1 c2 w2.heap.size w2 R1'.out R2.out (Nat.le_refl _) (by omega))
    rw [hfl] at HT
    clear b2 hr2
    go_wp2_with fail
    ((with_reducible refine (HT.out).mono ?_))
    rintro e w3 ⟨rfl, b3⟩
    have B3 := Lib.hid (B2.out.trans (b3.mono B2.out.size))
    clear b3
    go_wp2_with fail
    ((with_reducible refine (HA.out _ B3.out).mono ?_))
    rintro e w4 ⟨rfl, b4⟩
    go_wp2_with fail
    go_ret
    exact ⟨rfl, B3.out.trans (b4.mono B3.out.size)⟩

set_option maxRecDepth 100000 in
set_option maxHeartbeats 4000000 in
theorem lawBack_any (zs : List ByteArray) (A : Option Addr) (c : Nat) (m : Int) (w : World) (hr : Reads w w.heap.size 1 A zs.length (strs zs)) (hl : zs.length ≤ 9223372036854775807) (hz : ∀ z ∈ zs, z.size ≤ 9223372036854775807) (hm : w.cell? ⟨0, 0, none⟩ = some (.int .i64 m)) :
    Calls Tryd.prog 7 #[.slice A zs.length c] w fun e w' => e = .returned (.bool true) ∧ Below w.heap.size w w' := by
  have h0w : 0 < w.heap.size := World.block_lt_of_cell? _ _ hm
  have HM : Hid (∀ W, Below w.heap.size w W → W.cell? ⟨0, 0, none⟩ = some (.int .i64 m)) := Lib.hid fun W h => (h.cell (p := ⟨0, 0, none⟩) h0w).trans hm
  have HA : Hid (∀ W, Below w.heap.size w W → Calls Tryd.prog 11 #[] W fun e w' => e = .returned (.bool true) ∧ Below W.heap.size W w') := Lib.hid fun W h => awake_any m W (HM.out W h)
  have HL := Lib.hid (light_any zs A c w.heap.size w hr hl hz)
  have HRd := Lib.hid hr
  have HR : Hid (LightP zs → ∀ W, Below w.heap.size w W → Calls Tryd.prog 21 #[.slice A zs.length c] W fun e w' => e = .returned (.string (mk (rowL zs))) ∧ Below W.heap.size W w') := Lib.hid fun hP W hW => t_row zs A c w.heap.size m W (HRd.out.below hW) hW.size (by have := hP.1; omega) (fun z hz => by have := hP.2 z hz; omega) (HM.out W hW)
  have HC2 : Hid (LightP zs → zs ≠ [] → (∀ z ∈ zs, mk (trimS (bytesL z)) = z) → ∀ W, Below w.heap.size w W → Calls Tryd.prog 12 #[.string (mk (rowL zs))] W (SlPost zs W)) := Lib.hid fun hP hne ht W hW => by
    have hrl := row_len zs 400 hP.2 zs.length
    rw [List.take_length] at hrl
    have h2 : zs.length * 803 ≤ 60 * 803 := Nat.mul_le_mul_right _ hP.1
    refine (t_cellsP (mk (rowL zs)) m W (by rw [mk_size]; omega) (HM.out W hW)).mono ?_
    rintro e W' ⟨A, c, he, ho, hb⟩
    rw [bytesL_mk', cells_row zs hne ht] at he ho
    exact SlPost.of rfl he ho hb
  clear hm hr hz
  generalize mk (rowL zs) = R at *
  go_enter Tryd.func7, Tryd.ntmps7
  go_wp2_with fail
  ((with_reducible refine (HL.out).mono ?_))
  rintro e w' ⟨⟨b, rfl, hP⟩, rfl⟩
  cases b
  · go_wp2_with fail
    ((with_reducible refine (HA.out _ (Below.refl _ _)).mono ?_))
    rintro e w1 ⟨rfl, b1⟩
    go_wp2_with fail
    go_ret
    exact ⟨rfl, b1⟩
  have HP := Lib.hid (hP rfl)
  have h60 := HP.out.1
  clear hP
  by_cases hne : zs.length = 0
  · go_wp2_with fail
    ((with_reducible refine (HA.out _ (Below.refl _ _)).mono ?_))
    rintro e w1 ⟨rfl, b1⟩
    go_wp2_with fail
    go_ret
    exact ⟨rfl, b1⟩
  have z0 : ((zs.length : Int) == 0) = false := by rw [beq_eq_false_iff_ne]; omega
  have HNE : Hid (zs ≠ []) := Lib.hid (fun e => hne (by rw [e]; rfl))
  go_wp2_with fail
  go_loopw [3] (fun v wr => ∃ k : Nat, v = .int .i64 k ∧ k ≤ zs.length ∧ Below w.heap.size w wr ∧ Hid (∀ i (h : i < zs.length), i < k → mk (trimS (bytesL zs[i])) = zs[i])) (fun v _ => zs.length - (intOf v).toNat)
  case atStart => exact ⟨0, rfl, by omega, Below.refl _ _, Lib.hid fun i _ h => by omega⟩
  case round =>
    obtain ⟨k, rfl, hk, hbw, Hk⟩ := hrel
    have HBW := Lib.hid hbw
    by_cases hlt : k < zs.length
    · obtain ⟨b, off, rfl, hbB, hcell⟩ := reads_get HRd.out (by omega)
      have hc : wr.cell? ⟨b, off + k, none⟩ = some (.string zs[k]) := (hbw.cell (p := ⟨b, off + k, none⟩) hbB).trans (hcell k hlt)
      have HT := Lib.hid fun W => r_trim zs[k] W (by have := HP.out.2 zs[k] (List.getElem_mem hlt); omega)
      clear hcell
      by_cases ht : mk (trimS (bytesL zs[k])) = zs[k]
      · have HN : Hid (∀ i (h : i < zs.length), i < k + 1 → mk (trimS (bytesL zs[i])) = zs[i]) := Lib.hid fun i h hi => by
          by_cases e : i = k
          · subst e; exact ht
          · exact Hk.out i h (by omega)
        rw [ht] at HT
        clear ht
        generalize zs[k] = z at *
        have z1 : (z.toList != z.toList) = false := by simp
        have z2 : (z.toList == z.toList) = true := by simp
        go_wp2_with fail
        go_quiet ((go_at_call 13; exact quietL (HT.out _)))
        go_wp2
        go_roundw
        case rel => exact ⟨k + 1, by go_num, by omega, below_drewN HBW.out _, HN⟩
        case measure => simp [intOf]; omega
      · have z2 := (Lib.bytes_beq_false_iff (mk (trimS (bytesL zs[k]))) zs[k]).2 ht
        clear ht
        generalize mk (trimS (bytesL zs[k])) = t at *
        generalize zs[k] = z at *
        have z1 : (t.toList != z.toList) = true := by unfold bne; rw [z2]; rfl
        have z3 : ¬ t.toList = z.toList := fun e => by rw [e] at z2; simp at z2
        go_wp2_with fail
        go_quiet ((go_at_call 13; exact quietL (HT.out _)))
        go_wp2_with fail
        ((with_reducible refine (HA.out _ (below_drewN HBW.out _)).mono ?_))
        rintro e w1 ⟨rfl, b1⟩
        go_wp2_with fail
        go_ret
        exact ⟨rfl, (below_drewN HBW.out _).trans (b1.mono HBW.out.size)⟩
    · have HTr : Hid (∀ z ∈ zs, mk (trimS (bytesL z)) = z) := Lib.hid fun z hz => by
        obtain ⟨i, hi, rfl⟩ := List.mem_iff_getElem.1 hz
        exact Hk.out i hi (by omega)
      clear Hk hbw
      go_wp2_with fail
      ((with_reducible refine (HR.out HP.out _ HBW.out).mono ?_))
      rintro e w2 ⟨rfl, b2⟩
      have B2 := Lib.hid (HBW.out.trans (b2.mono HBW.out.size))
      clear b2
      go_wp2_with fail
      ((with_reducible refine (HC2.out HP.out HNE.out HTr.out _ B2.out).mono ?_))
      rintro e w3 ⟨A', c', rfl, hr3, b3⟩
      have R3 := Lib.hid hr3
      have B3 := Lib.hid (B2.out.trans (b3.mono B2.out.size))
      have R1 := Lib.hid ((HRd.out.below B3.out).more B3.out.size)
      clear b3 hr3
      go_wp2_with fail
      refine (texts_same zs A' A c' c w3.heap.size w3 R3.out R1.out (Nat.le_refl _) (by omega)).mono ?_
      rintro e w4 ⟨rfl, b4⟩
      have B4 := Lib.hid (B3.out.trans (b4.mono B3.out.size))
      clear b4
      go_wp2_with fail
      ((with_reducible refine (HA.out _ B4.out).mono ?_))
      rintro e w5 ⟨rfl, b5⟩
      go_wp2_with fail
      go_ret
      exact ⟨rfl, B4.out.trans (b5.mono B4.out.size)⟩
end Go.Proofs.YtoageahnddepcaaDoor
