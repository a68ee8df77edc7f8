/-
  The law TableMarks, walked.
-/
import Derived.Test.YtoageahnddepcaaDoorTabS
import Derived.Test.YtoageahnddepcaaDoorRowU
import Derived.Outline
set_option linter.unusedVariables false
set_option linter.unusedSimpArgs false
namespace Go.Proofs.YtoageahnddepcaaDoor
open Go.RowKit Go.Pub

theorem cat_rev {P : Program} (w : World) (a b r : List UInt8) (h : a.length + b.length ≤ 9223372036854775807) (hr : a ++ b = r) : (Op.stringOp .add (mk a) (mk b)).run P w = .ok (.string (mk r)) w :=
  cat_mk w a (mk b) r (by rw [mk_size]; exact h) (by rw [bytesL_mk']; exact hr)

set_option maxRecDepth 100000 in
set_option maxHeartbeats 2000000 in
theorem mark_any (k d : Nat) (hk : k < 256) (hd : d < 256) (w : World) : Calls Tryd.prog 25 #[.int .u8 k, .int .u8 d] w fun e w' => e = .returned (.string (mk (markL k d))) ∧ w = w' := by
  obtain ⟨r, hr⟩ : ∃ r, r = d % 4 := ⟨_, rfl⟩
  have hr4 : r < 4 := by omega
  have hri : (d : Int) % 4 = (r : Int) := by omega
  have HR := Lib.hid hr
  clear hr
  obtain ⟨q, hq⟩ : ∃ q, q = k % 4 := ⟨_, rfl⟩
  have hq4 : q < 4 := by omega
  have hqi : (k : Int) % 4 = (q : Int) := by omega
  have HQ := Lib.hid hq
  clear hq
  go_enter Tryd.func25, Tryd.ntmps25
  go_wp2
  go_loop [5, 6] (fun s i => ∃ n : Nat, n ≤ r ∧ s = .string (mk (List.replicate (1 + n) 45)) ∧ i = .int .i64 n) (fun _ i => r - (intOf i).toNat)
  case atStart => exact ⟨0, by omega, rfl, rfl⟩
  case round =>
    obtain ⟨n, hn, rfl, rfl⟩ := hrel
    by_cases hlt : n < r
    · have C : ∀ w, (Op.stringOp .add (mk (List.replicate (1 + n) 45)) ⟨#[45]⟩).run Tryd.prog w = .ok (.string (mk (List.replicate (1 + (n + 1)) 45))) w := fun w => cat_rev w _ [45] _ (by rw [List.length_replicate]; simp; omega) (by rw [← Nat.add_assoc, List.replicate_succ'])
      generalize mk (List.replicate (1 + n) 45) = S at *
      go_wp2
      go_round
      case rel => exact ⟨n + 1, by omega, rfl, by go_num⟩
      case measure => simp [intOf]; omega
    · obtain rfl : n = r := by omega
      have HM : Hid (markL k d = (if q = 1 ∨ q = 2 then [58] else []) ++ (List.replicate (1 + n) 45 ++ (if 2 ≤ q then [58] else []))) := Lib.hid (by unfold markL; rw [← HR.out, ← HQ.out])
      have hl : (List.replicate (1 + n) (45 : UInt8)).length ≤ 4 := by rw [List.length_replicate]; omega
      generalize List.replicate (1 + n) (45 : UInt8) = D at *
      have C1 : ∀ w, (Op.stringOp .add ⟨#[58]⟩ (mk D)).run Tryd.prog w = .ok (.string (mk (58 :: D))) w := fun w => cat_rev w [58] D _ (by simp; omega) rfl
      have C2 : ∀ w, (Op.stringOp .add (mk D) ⟨#[58]⟩).run Tryd.prog w = .ok (.string (mk (D ++ [58]))) w := fun w => cat_rev w D [58] _ (by simp; omega) rfl
      have C3 : ∀ w, (Op.stringOp .add (mk (58 :: D)) ⟨#[58]⟩).run Tryd.prog w = .ok (.string (mk (58 :: (D ++ [58])))) w := fun w => cat_rev w (58 :: D) [58] _ (by simp; omega) rfl
      have h4 : q = 0 ∨ q = 1 ∨ q = 2 ∨ q = 3 := by omega
      rcases h4 with h | h | h | h
      · subst h
        have E : Hid (markL k d = D) := Lib.hid (by rw [HM.out]; simp)
        clear HM hl
        go_wp2
        go_ret
        exact ⟨ret_str (congrArg mk E.out.symm), rfl⟩
      · subst h
        have E : Hid (markL k d = 58 :: D) := Lib.hid (by rw [HM.out]; simp)
        clear HM hl
        go_wp2
        go_ret
        exact ⟨ret_str (congrArg mk E.out.symm), rfl⟩
      · subst h
        have E : Hid (markL k d = 58 :: (D ++ [58])) := Lib.hid (by rw [HM.out]; simp)
        clear HM hl
        go_wp2
        go_ret
        exact ⟨ret_str (congrArg mk E.out.symm), rfl⟩
      · subst h
        have E : Hid (markL k d = D ++ [58]) := Lib.hid (by rw [HM.out]; simp)
        clear HM hl
        go_wp2
        go_ret
        exact ⟨ret_str (congrArg mk E.out.symm), rfl⟩

theorem u8s_get {w : World} {B : Nat} {A : Option Addr} {zs : List Nat} (h : Reads w B 1 A zs.length (u8s zs)) (hn : 0 < zs.length) : ∃ b off, A = some ⟨b, off, none⟩ ∧ b < B ∧ ∀ k (hk : k < zs.length), w.cell? ⟨b, off + k, none⟩ = some (.int .u8 (zs[k] : Nat)) := by
  obtain ⟨b, off, e, hb, hc⟩ := h.row hn (by omega)
  exact ⟨b, off, e, hb, fun k hk => hc k _ (u8s_at zs k hk)⟩
def delimP (ks : List Nat) (d k : Nat) : List UInt8 := 124 :: (ks.take k).flatMap fun q => markL q d ++ [124]
theorem delimP_len (ks : List Nat) (d k : Nat) : (delimP ks d k).length ≤ 1 + 7 * k := by
  unfold delimP
  have := delim_len d (ks.take k)
  have := List.length_take_le k ks
  rw [List.length_cons]
  omega
theorem delimP_succ (ks : List Nat) (d k : Nat) (h : k < ks.length) : delimP ks d (k + 1) = delimP ks d k ++ (markL ks[k] d ++ [124]) := by
  unfold delimP
  rw [List.take_succ_eq_append_getElem h, List.flatMap_append]
  simp
theorem delimP_all (ks : List Nat) (d : Nat) : delimP ks d ks.length = delimL ks d := by
  unfold delimP delimL; rw [List.take_length]
def wantP (ks : List Nat) (k : Nat) : List UInt8 := (ks.take k).map kindL
theorem wantP_succ (ks : List Nat) (k : Nat) (h : k < ks.length) : wantP ks (k + 1) = wantP ks k ++ [kindL ks[k]] := by
  unfold wantP
  rw [List.take_succ_eq_append_getElem h, List.map_append]; rfl
theorem wantP_len (ks : List Nat) (k : Nat) : (wantP ks k).length ≤ k := by
  unfold wantP
  rw [List.length_map]
  exact List.length_take_le k ks
theorem head_delim (s : List UInt8) (ks : List Nat) (d : Nat) (h0 : ks ≠ []) (h1 : ks.length ≤ 32) : headB s (delimL ks d) = ((cellsB s).length == ks.length) := by
  unfold headB
  rw [delim_align ks d h0 h1]
  simp

set_option maxRecDepth 100000 in
set_option maxHeartbeats 4000000 in
theorem lawMarks_any (ks : List Nat) (A : Option Addr) (c d : Nat) (s : ByteArray) (m : Int) (w : World) (hr : Reads w w.heap.size 1 A ks.length (u8s ks)) (hl : ks.length ≤ 9223372036854775807) (hk : ∀ x ∈ ks, x < 256) (hd : d < 256) (hs : s.size ≤ 9223372036854775807) (hm : w.cell? ⟨0, 0, none⟩ = some (.int .i64 m)) :
    Calls Tryd.prog 10 #[.slice A ks.length c, .int .u8 d, .string s] w fun e w' => e = .returned (.bool true) ∧ Below w.heap.size w w' := by
  have h0w : 0 < w.heap.size := World.block_lt_of_cell? _ _ hm
  have HM : Hid (∀ W, Below w.heap.size w W → W.cell? ⟨0, 0, none⟩ = some (.int .i64 m)) := Lib.hid fun W h => (h.cell (p := ⟨0, 0, none⟩) h0w).trans hm
  have HA : Hid (∀ W, Below w.heap.size w W → Calls Tryd.prog 11 #[] W fun e w' => e = .returned (.bool true) ∧ Below W.heap.size W w') := Lib.hid fun W h => awake_any m W (HM.out W h)
  have HRd := Lib.hid hr
  have HK := Lib.hid hk
  clear hm hr hk
  by_cases hne : ks.length = 0
  · have z0 : ((ks.length : Int) == 0) = true := by rw [beq_iff_eq]; omega
    go_enter Tryd.func10, Tryd.ntmps10
    go_wp2_with fail
    ((with_reducible refine (HA.out _ (Below.refl _ _)).mono ?_))
    rintro e w1 ⟨rfl, b1⟩
    go_wp2_with fail
    go_ret
    exact ⟨rfl, b1⟩
  have z0 : ((ks.length : Int) == 0) = false := by rw [beq_eq_false_iff_ne]; omega
  by_cases h32 : 32 < ks.length
  · have d1 : decide (32 < ks.length) = true := decide_eq_true h32
    go_enter Tryd.func10, Tryd.ntmps10
    go_wp2_with fail
    ((with_reducible refine (HA.out _ (Below.refl _ _)).mono ?_))
    rintro e w1 ⟨rfl, b1⟩
    go_wp2_with fail
    go_ret
    exact ⟨rfl, b1⟩
  have d1 : decide (32 < ks.length) = false := decide_eq_false h32
  by_cases h8 : 800 < s.size
  · have d2 : decide (800 < s.size) = true := decide_eq_true h8
    go_enter Tryd.func10, Tryd.ntmps10
    go_wp2_with fail
    ((with_reducible refine (HA.out _ (Below.refl _ _)).mono ?_))
    rintro e w1 ⟨rfl, b1⟩
    go_wp2_with fail
    go_ret
    exact ⟨rfl, b1⟩
  have d2 : decide (800 < s.size) = false := decide_eq_false h8
  have hne' : ks ≠ [] := fun e => hne (by rw [e]; rfl)
  have hdl := delimP_len ks d ks.length
  rw [delimP_all] at hdl
  have H1 := Lib.hid fun W => (t_align (mk (delimL ks d)) W (by rw [mk_size]; omega)).mono fun _ _ => aln_tup
  rw [bytesL_mk', delim_align ks d hne' (by omega)] at H1
  have H2 : Hid (∀ W, Below w.heap.size w W → Calls Tryd.prog 18 #[.string s, .string (mk (delimL ks d))] W fun e w' => e = .returned (.bool ((cellsB (bytesL s)).length == ks.length)) ∧ Below W.heap.size W w') := Lib.hid fun W hW => by
    have h := t_head s (mk (delimL ks d)) m W (by omega) (by rw [mk_size]; omega) (HM.out W hW)
    rw [bytesL_mk', head_delim _ ks d hne' (by omega)] at h
    exact h
  have H3 : Hid (∀ W, Below w.heap.size w W → Calls Tryd.prog 12 #[.string s] W fun e w' => ∃ A c, e = .returned (.slice A (cellsB (bytesL s)).length c) ∧ Below W.heap.size W w') := Lib.hid fun W hW => by
    refine (t_cellsP s m W (by omega) (HM.out W hW)).mono ?_
    rintro e W' ⟨A, c, he, hown, hb⟩
    exact ⟨A, c, he, hb⟩
  have HS0 : Hid (delimP ks d 0 = [124]) := Lib.hid rfl
  have HW0 : Hid (wantP ks 0 = []) := Lib.hid rfl
  have HSE : Hid (delimP ks d ks.length = delimL ks d) := Lib.hid (delimP_all ks d)
  have HWE : Hid (wantP ks ks.length = ks.map kindL) := Lib.hid (by unfold wantP; rw [List.take_length])
  generalize (cellsB (bytesL s)).length = n at *
  generalize delimL ks d = D at *
  generalize ks.map kindL = L at *
  have q1 : ((mk L).toList == (mk L).toList) = true := beq_self_eq_true _
  dsimp only [alnTup] at H1
  go_enter Tryd.func10, Tryd.ntmps10
  go_wp2_with fail
  go_loopw [7, 8, 9] (fun v7 v8 v9 wr => ∃ k : Nat, k ≤ ks.length ∧ v7 = .string (mk (delimP ks d k)) ∧ v8 = .string (mk (wantP ks k)) ∧ v9 = .int .i64 k ∧ Below w.heap.size w wr) (fun _ _ v9 _ => ks.length - (intOf v9).toNat)
  case atStart => exact ⟨0, by omega, by rw [HS0.out]; rfl, by rw [HW0.out]; rfl, rfl, Below.refl _ _⟩
  case round =>
    obtain ⟨k, hk, rfl, rfl, rfl, hbw⟩ := hrel
    have HBW := Lib.hid hbw
    by_cases hlt : k < ks.length
    · obtain ⟨b, off, rfl, hbB, hcell⟩ := u8s_get HRd.out (by omega)
      have hc : wr.cell? ⟨b, off + k, none⟩ = some (.int .u8 (ks[k] : Nat)) := (hbw.cell (p := ⟨b, off + k, none⟩) hbB).trans (hcell k hlt)
      clear hcell hbw
      have hx := HK.out ks[k] (List.getElem_mem hlt)
      have HMk := Lib.hid fun W => mark_any ks[k] d hx hd W
      have hml := mark_len ks[k] d
      have hpl := delimP_len ks d k
      have hwl := wantP_len ks k
      have HS : Hid (delimP ks d (k + 1) = delimP ks d k ++ (markL ks[k] d ++ [124])) := Lib.hid (delimP_succ ks d k hlt)
      have HW : Hid (wantP ks (k + 1) = wantP ks k ++ [kindL ks[k]]) := Lib.hid (wantP_succ ks k hlt)
      have HQ : Hid (kindL ks[k] = if ks[k] % 4 = 0 then 45 else if ks[k] % 4 = 1 then 108 else if ks[k] % 4 = 2 then 99 else 114) := Lib.hid rfl
      generalize kindL ks[k] = x at *
      generalize markL ks[k] d = M at *
      generalize delimP ks d k = S at *
      generalize wantP ks k = T at *
      have C1 : ∀ w, (Op.stringOp .add (mk M) ⟨#[124]⟩).run Tryd.prog w = .ok (.string (mk (M ++ [124]))) w := fun w => cat_rev w M [124] _ (by simp; omega) rfl
      have C2 : ∀ w, (Op.stringOp .add (mk S) (mk (M ++ [124]))).run Tryd.prog w = .ok (.string (mk (S ++ (M ++ [124])))) w := fun w => cat_rev w S (M ++ [124]) _ (by simp; omega) rfl
      have C3 : ∀ y w, (Op.stringOp .add (mk T) (mk [y])).run Tryd.prog w = .ok (.string (mk (T ++ [y]))) w := fun y w => cat_rev w T [y] _ (by simp; omega) rfl
      generalize ks[k] = q at *
      have h4 : q % 4 = 0 ∨ q % 4 = 1 ∨ q % 4 = 2 ∨ q % 4 = 3 := by omega
      rcases h4 with h | h | h | h
      all_goals
        have hq1 : (q : Int) % 4 = ((q % 4 : Nat) : Int) := by omega
        have hq2 : (q : Int).tmod 4 = ((q % 4 : Nat) : Int) := by rw [Int.tmod_eq_emod_of_nonneg (by omega)]; exact hq1
        rw [h] at hq1 hq2
        rw [h] at HQ
        have W1 : IntKind.u8.wrap 1 = 1 := by decide
        have W2 : IntKind.u8.wrap 2 = 2 := by decide
        have W3 : IntKind.u8.wrap 3 = 3 := by decide
        have W4 : IntKind.u8.wrap 4 = 4 := by decide
        have X0 : (⟨#[45, 108, 99, 114]⟩ : ByteArray).extract 0 1 = mk [45] := by rfl
        have X1 : (⟨#[45, 108, 99, 114]⟩ : ByteArray).extract 1 2 = mk [108] := by rfl
        have X2 : (⟨#[45, 108, 99, 114]⟩ : ByteArray).extract 2 3 = mk [99] := by rfl
        have X3 : (⟨#[45, 108, 99, 114]⟩ : ByteArray).extract 3 4 = mk [114] := by rfl
        have HY := Lib.hid h
        clear h
        go_wp2_with fail
        ((with_reducible refine (HMk.out _).mono ?_))
        rintro e w1 ⟨rfl, rfl⟩
        go_wp2_with fail
        go_quiet (fail)
        go_wp2_with fail
        clear W1 W2 W3 W4 X0 X1 X2 X3 hq1 hq2 C1 C2 C3
        go_roundw
        case rel => exact ⟨k + 1, by omega, by rw [HS.out], by rw [HW.out, HQ.out]; rfl, by go_num, below_drewN HBW.out _⟩
        case measure => simp [intOf]; omega
    · obtain rfl : k = ks.length := by omega
      rw [HSE.out, HWE.out]
      clear hbw
      go_wp2_with fail
      ((with_reducible refine (H1.out _).mono ?_))
      rintro e w1 ⟨rfl, b1⟩
      have B1 := Lib.hid (HBW.out.trans (b1.mono HBW.out.size))
      clear b1
      have hb : ∃ b : Bool, (n == ks.length) = b ∧ ((n : Int) == (ks.length : Int)) = b := by
        by_cases hnl : n = ks.length
        · exact ⟨true, by rw [beq_iff_eq]; exact hnl, by rw [beq_iff_eq]; omega⟩
        · exact ⟨false, by rw [beq_eq_false_iff_ne]; exact hnl, by rw [beq_eq_false_iff_ne]; omega⟩
      obtain ⟨b, n1, n2⟩ := hb
      rw [n1] at H2
      have q3 : (b == b) = true := beq_self_eq_true _
      clear hne z0 d1 h32 hk hlt hne'
      go_wp2_with fail
      ((with_reducible refine (H2.out _ B1.out).mono ?_))
      rintro e w2 ⟨rfl, b2⟩
      have B2 := Lib.hid (B1.out.trans (b2.mono B1.out.size))
      clear b2
      go_wp2_with fail
      ((with_reducible refine (H3.out _ B2.out).mono ?_))
      rintro e w3 ⟨A3, c3, rfl, b3⟩
      have B3 := Lib.hid (B2.out.trans (b3.mono B2.out.size))
      clear b3
      go_wp2_with fail
      ((with_reducible refine (HA.out _ B3.out).mono ?_))
      rintro e w4 ⟨rfl, b4⟩
      go_wp2_with fail
      go_ret
      exact ⟨rfl, B3.out.trans (b4.mono B3.out.size)⟩
end Go.Proofs.YtoageahnddepcaaDoor
