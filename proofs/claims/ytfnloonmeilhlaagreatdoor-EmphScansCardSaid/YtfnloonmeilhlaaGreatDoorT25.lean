/-
  Texts of the proof, put together (what this law reaches): EmNC, EmLC.
-/
import Derived.Test.YtfnloonmeilhlaaGreatDoorT24
import Derived.Test.YtfnloonmeilhlaaGreatDoorT19
set_option linter.unusedVariables false
set_option linter.unusedSimpArgs false
namespace Go.Pub
/-- An inline of scan. -/
def InB (s : ByteArray) (x : InL) : Prop := (x.kind ≠ 6 ∧ x.kind ≠ 7 ∧ x.kind ≠ 8) ∧ x.text.size ≤ s.size + 4 ∧ x.args.length ≤ 8 ∧ x.cites.length ≤ s.size + 1
def PcB (s : ByteArray) (p : PcL) : Prop := InB s p.inl ∧ p.n ≤ p.nd - p.bg
theorem ext_le (s : ByteArray) (a b : Nat) : (s.extract a b).size ≤ s.size := by rw [ByteArray.size_extract]; omega
theorem enc_le4' (c : Int) : (Utf8.encode c).size ≤ 4 := by
  unfold Utf8.encode
  dsimp only
  repeat' split
  all_goals first
    | exact (show 1 ≤ 4 by omega)
    | exact (show 2 ≤ 4 by omega)
    | exact (show 3 ≤ 4 by omega)
    | exact (show 4 ≤ 4 by omega)
theorem InB.spn {s : ByteArray} {k : Nat} {t : ByteArray} (hk : k ≠ 6 ∧ k ≠ 7 ∧ k ≠ 8) (ht : t.size ≤ s.size + 4) : InB s (spn k t) := ⟨hk, ht, Nat.zero_le _, Nat.zero_le _⟩
theorem sub_le (s : ByteArray) (a b : Nat) : (sub s a b).length ≤ s.size := by
  unfold sub
  rw [List.length_take, List.length_drop, bytesL_length]; omega
theorem codeT_len (l : List UInt8) : (codeT l).length ≤ l.length := by
  have h : (unLF l).length = l.length := List.length_map _
  unfold codeT
  split
  · rw [List.length_dropLast, List.length_drop]; omega
  · omega
theorem semi_lenB : ∀ l : List UInt8, (semiL l).length ≤ l.length + 1
  | [] => Nat.le_refl _
  | c :: l => by
    have ih := semi_lenB l
    unfold semiL
    split
    · rw [List.length_cons, List.length_cons]; omega
    · split
      · simp
      · next p ps e => rw [e] at ih; simp only [List.length_cons] at *; omega
theorem allC_len : ∀ (l : List (List UInt8)) (cs : List CitL), allC l = some cs → cs.length = l.length
  | [], cs, h => by
    unfold allC at h
    injection h with h; subst h; rfl
  | p :: ps, cs, h => by
    unfold allC at h
    cases h1 : citedI (mk p) with
    | none => rw [h1] at h; cases h
    | some c =>
      rw [h1] at h
      cases h2 : allC ps with
      | none => rw [h2] at h; cases h
      | some cs' =>
        rw [h2] at h
        injection h with h
        subst h
        rw [List.length_cons, List.length_cons, allC_len ps cs' h2]
theorem escI_ib {s : ByteArray} {i : Nat} {r : InL × Nat} (h : escI s i = some r) : InB s r.1 := by
  unfold escI at h
  split at h
  · split at h
    · injection h with h; subst h; exact ⟨(show (3 : Nat) ≠ 6 ∧ (3 : Nat) ≠ 7 ∧ (3 : Nat) ≠ 8 by decide), Nat.zero_le _, Nat.zero_le _, Nat.zero_le _⟩
    · split at h
      · injection h with h; subst h; exact InB.spn (by decide) (Nat.le_trans (ext_le _ _ _) (by omega))
      · cases h
  · cases h
theorem entI_ib {s : ByteArray} {i : Nat} {r : InL × Nat} (h : entI s i = some r) : InB s r.1 := by
  unfold entI at h
  have hone : ∀ b : UInt8, (⟨#[b]⟩ : ByteArray).size ≤ s.size + 4 := fun b => by show 1 ≤ _; omega
  split at h
  · injection h with h; subst h; exact InB.spn (by decide) (hone _)
  · split at h
    · injection h with h; subst h; exact InB.spn (by decide) (hone _)
    · split at h
      · injection h with h; subst h; exact InB.spn (by decide) (hone _)
      · split at h
        · injection h with h; subst h; exact InB.spn (by decide) (hone _)
        · split at h
          · split at h
            · injection h with h; subst h; exact InB.spn (by decide) (Nat.le_trans (enc_le4' _) (by omega))
            · cases h
          · cases h
theorem dolI_ib {s : ByteArray} {i : Nat} {r : InL × Nat} (h : dolI s i = some r) : InB s r.1 := by
  unfold dolI at h
  split at h
  · injection h with h; subst h; exact InB.spn (by decide) (Nat.le_trans (ext_le _ _ _) (by omega))
  · cases h
theorem code_le (s : ByteArray) (a b : Nat) : (mk (codeT (sub s a b))).size ≤ s.size + 4 := by
  rw [mk_size]
  exact Nat.le_trans (codeT_len _) (Nat.le_trans (sub_le _ _ _) (by omega))
theorem codeI_ib {s : ByteArray} {i : Nat} {r : InL × Nat} (h : codeI s i = some r) : InB s r.1 := by
  unfold codeI at h
  obtain ⟨k, -, rfl⟩ := Option.map_eq_some_iff.1 h
  exact InB.spn (by decide) (code_le _ _ _)
theorem mathI_ib {s : ByteArray} {i : Nat} {r : InL × Nat} (h : mathI s i = some r) : InB s r.1 := by
  unfold mathI at h
  split at h
  · obtain ⟨k, -, rfl⟩ := Option.map_eq_some_iff.1 h
    exact InB.spn (by decide) (code_le _ _ _)
  · cases h
theorem autI_ib {s : ByteArray} {i : Nat} {r : InL × Nat} (h : autI s i = some r) : InB s r.1 := by
  unfold autI at h
  split at h
  · injection h with h; subst h; exact ⟨(show (16 : Nat) ≠ 6 ∧ (16 : Nat) ≠ 7 ∧ (16 : Nat) ≠ 8 by decide), Nat.zero_le _, Nat.zero_le _, Nat.zero_le _⟩
  · cases h
theorem args_len (s : ByteArray) : ∀ f k, (argsF s f k).1.length ≤ f
  | 0, _ => Nat.le_refl _
  | f + 1, k => by
    unfold argsF
    split
    · have := args_len s f (argE s k)
      rw [List.length_cons]; omega
    · exact Nat.zero_le _
theorem useI_ib {s : ByteArray} {i : Nat} {r : InL × Nat} (h : useI s i = some r) : InB s r.1 := by
  unfold useI at h
  split at h
  · obtain ⟨k, -, h⟩ := Option.bind_eq_some_iff.1 h
    split at h
    · injection h with h; subst h
      exact ⟨(show (15 : Nat) ≠ 6 ∧ (15 : Nat) ≠ 7 ∧ (15 : Nat) ≠ 8 by decide), Nat.le_trans (ext_le _ _ _) (by omega), args_len _ _ _, Nat.zero_le _⟩
    · cases h
  · cases h
theorem namI_ib {s : ByteArray} {i : Nat} {r : InL × Nat} (h : namI s i = some r) : InB s r.1 := by
  unfold namI at h
  split at h
  · obtain ⟨k, -, h⟩ := Option.bind_eq_some_iff.1 h
    split at h
    · injection h with h; subst h
      refine InB.spn ?_ (Nat.le_trans (ext_le _ _ _) (by omega))
      split <;> decide
    · split at h
      · injection h with h; subst h
        exact ⟨(show (14 : Nat) ≠ 6 ∧ (14 : Nat) ≠ 7 ∧ (14 : Nat) ≠ 8 by decide), Nat.le_trans (ext_le _ _ _) (by omega), Nat.zero_le _, Nat.zero_le _⟩
      · cases h
  · cases h
theorem citI_ib {s : ByteArray} {i : Nat} {r : InL × Nat} (h : citI s i = some r) : InB s r.1 := by
  unfold citI at h
  split at h
  · obtain ⟨cs, hc, rfl⟩ := Option.map_eq_some_iff.1 h
    unfold citesI at hc
    split at hc
    · cases hc
    · refine ⟨(show (13 : Nat) ≠ 6 ∧ (13 : Nat) ≠ 7 ∧ (13 : Nat) ≠ 8 by decide), Nat.zero_le _, Nat.zero_le _, ?_⟩
      show cs.length ≤ _
      rw [allC_len _ _ hc]
      have h1 := semi_lenB (bytesL (s.extract (i + 1) (citE s i)))
      have h2 : (bytesL (s.extract (i + 1) (citE s i))).length = (s.extract (i + 1) (citE s i)).size := bytesL_length _
      have h3 := ext_le s (i + 1) (citE s i)
      omega
  · cases h
theorem pcI_ib {s : ByteArray} {i : Nat} {o : Option (InL × Nat)} {p : PcL} (h : o.map (pcI · i) = some p) (ho : ∀ r, o = some r → InB s r.1) : PcB s p := by
  obtain ⟨r, hr, rfl⟩ := Option.map_eq_some_iff.1 h
  exact ⟨ho r hr, Nat.zero_le _⟩
theorem z_ib (s : ByteArray) : InB s { kind := 0 } := ⟨by decide, Nat.zero_le _, Nat.zero_le _, Nat.zero_le _⟩
theorem spec_pb {s : ByteArray} {i : Nat} {p : PcL} (h : spec s i = some p) : PcB s p := by
  unfold spec at h
  by_cases c : bt s i = 92
  · rw [if_pos c] at h; exact pcI_ib h fun r => escI_ib
  rw [if_neg c] at h; clear c
  by_cases c : bt s i = 32 ∨ bt s i = 10
  · rw [if_pos c] at h
    by_cases c : spAt s i < s.size ∧ bt s (spAt s i) = 10
    · rw [if_pos c] at h
      injection h with h; subst h
      exact ⟨⟨(show (2 : Nat) ≠ 6 ∧ (2 : Nat) ≠ 7 ∧ (2 : Nat) ≠ 8 by decide), Nat.zero_le _, Nat.zero_le _, Nat.zero_le _⟩, Nat.zero_le _⟩
    · rw [if_neg c] at h; cases h
  rw [if_neg c] at h; clear c
  by_cases c : bt s i = 38
  · rw [if_pos c] at h; exact pcI_ib h fun r => entI_ib
  rw [if_neg c] at h; clear c
  by_cases c : bt s i = 36
  · rw [if_pos c] at h; exact pcI_ib h fun r hr => or_bd hr (P := fun r => InB s r.1) (fun r => mathI_ib) fun r => dolI_ib
  rw [if_neg c] at h; clear c
  by_cases c : bt s i = 96
  · rw [if_pos c] at h; exact pcI_ib h fun r => codeI_ib
  rw [if_neg c] at h; clear c
  by_cases c : bt s i = 60
  · rw [if_pos c] at h; exact pcI_ib h fun r => autI_ib
  rw [if_neg c] at h; clear c
  by_cases c : bt s i = 123
  · rw [if_pos c] at h; exact pcI_ib h fun r => useI_ib
  rw [if_neg c] at h; clear c
  by_cases c : bt s i = 91
  · rw [if_pos c] at h
    injection h with h; subst h
    cases hx : (namI s i).or (citI s i) with
    | none => exact ⟨z_ib s, Nat.zero_le _⟩
    | some r => exact ⟨or_bd hx (P := fun r => InB s r.1) (fun r => namI_ib) fun r => citI_ib, Nat.zero_le _⟩
  rw [if_neg c] at h; clear c
  by_cases c : bt s i = 33
  · rw [if_pos c] at h
    by_cases c : i + 1 < s.size ∧ bt s (i + 1) = 91
    · rw [if_pos c] at h; injection h with h; subst h; exact ⟨z_ib s, Nat.zero_le _⟩
    · rw [if_neg c] at h; cases h
  rw [if_neg c] at h; clear c
  by_cases c : bt s i = 93
  · rw [if_pos c] at h; injection h with h; subst h; exact ⟨z_ib s, Nat.zero_le _⟩
  rw [if_neg c] at h; clear c
  by_cases c : bt s i = 42 ∨ bt s i = 95 ∨ bt s i = 126 ∧ runE s i - i = 2
  · rw [if_pos c] at h; injection h with h; subst h; exact ⟨z_ib s, Nat.le_refl _⟩
  · rw [if_neg c] at h; cases h
theorem pieceA_pb (s : ByteArray) (i : Nat) : PcB s (pieceA s i).1 := by
  unfold pieceA
  cases h : spec s i with
  | some p => exact spec_pb h
  | none => exact ⟨InB.spn (by decide) (Nat.le_trans (ext_le _ _ _) (by omega)), Nat.zero_le _⟩
theorem scanF_pb (s : ByteArray) : ∀ (f i : Nat) (j : Bool) (acc : List PcL), (j = true → acc ≠ []) → (∀ p ∈ acc, PcB s p) → (∀ p, acc.getLast? = some p → j = true → p.n = 0) → ∀ p ∈ scanF s f i j acc, PcB s p
  | 0, i, j, acc, _, h, _ => h
  | f + 1, i, j, acc, hj, h, hl => by
    unfold scanF
    by_cases hi : i < s.size
    · rw [if_pos hi]
      have hb := pieceA_pb s i
      have hn : (pieceA s i).2 = true → (pieceA s i).1.n = 0 := by
        unfold pieceA
        cases spec s i with
        | some p => intro h; cases h
        | none => intro _; rfl
      refine scanF_pb s f _ _ _ (fun _ => ?_) ?_ ?_
      · split
        · rename_i c
          rw [Bool.and_eq_true] at c
          obtain ⟨k, p, rfl⟩ := snoc_of acc (hj c.2)
          rw [joinP_snoc]; simp
        · simp
      · split
        · rename_i c
          rw [Bool.and_eq_true] at c
          obtain ⟨k, p, rfl⟩ := snoc_of acc (hj c.2)
          rw [joinP_snoc]
          intro q hq
          rcases List.mem_append.1 hq with hq | hq
          · exact h q (List.mem_append_left _ hq)
          · obtain rfl := List.mem_singleton.1 hq
            have hp := h p (by simp)
            have hz := hl p (by simp) c.2
            refine ⟨⟨hp.1.1, Nat.le_trans (ext_le _ _ _) (by omega), hp.1.2.2.1, hp.1.2.2.2⟩, ?_⟩
            show p.n ≤ _
            omega
        · intro q hq
          rcases List.mem_append.1 hq with hq | hq
          · exact h q hq
          · obtain rfl := List.mem_singleton.1 hq; exact hb
      · split
        · rename_i c
          rw [Bool.and_eq_true] at c
          obtain ⟨k, p, rfl⟩ := snoc_of acc (hj c.2)
          rw [joinP_snoc]
          intro q hq _
          rw [List.getLast?_concat] at hq
          injection hq with hq; subst hq
          exact hl p (by simp) c.2
        · intro q hq hp
          rw [List.getLast?_concat] at hq
          injection hq with hq; subst hq
          exact hn hp
    · rw [if_neg hi]; exact h
theorem scanP_pb (s : ByteArray) : ∀ p ∈ scanP s, PcB s p := scanF_pb s s.size 0 false [] (fun h => by cases h) (fun p h => absurd h List.not_mem_nil) (fun p h => by cases h)
theorem cov_len : ∀ (l : List PcL) (a b : Nat), covP l a b → l.length + a ≤ b
  | [], a, b, h => by have h : a = b := h; simp; omega
  | p :: l, a, b, h => by
    have := cov_len l p.nd b h.2.2
    have := h.2.1
    rw [List.length_cons]; omega
end Go.Pub
namespace Go.Pub
def exP : List PcT := [plR ⟨#[42]⟩ 1 true false, plW ⟨#[97, 32]⟩, plR ⟨#[42]⟩ 2 true false, plW ⟨#[98]⟩, plR ⟨#[42]⟩ 3 false true]
theorem exP_nest : nestA exP = [kidT 6 [txtT 1 ⟨#[97, 32]⟩, kidT 7 [txtT 1 ⟨#[98]⟩]]] := by kernel_rfl
theorem exP_prs : (matchA exP).prs = [(2, 4, 2), (0, 4, 1)] := by decide +kernel
theorem exP_z : sumZ exP exP.length ≤ 30000 := by decide +kernel
theorem exP_inl : ∀ p ∈ exP, p.inl = txtT p.inl.kind p.inl.text := by
  intro p hp
  simp only [exP, List.mem_cons, List.not_mem_nil, or_false] at hp
  rcases hp with rfl | rfl | rfl | rfl | rfl <;> rfl
end Go.Pub
namespace Go.Proofs.YtfnloonmeilhlaaGreatDoor
open Go.RowKit Go.Pub
set_option maxHeartbeats 4000000 in
set_option maxRecDepth 100000 in
theorem l_awake (w : World) : Calls Tryz.prog 4 #[] w fun e w' => e = .returned (.bool true) ∧ Below w.heap.size w w' := by
  have HP := Lib.hid fun (W : World) => e_Nest (W.alloc (.cells (plF exP) 34)) (pcs_new W exP exP_inl (by decide)) exP_z
  have HQ := Lib.hid fun (W W2 : World) (hb : Below (W.alloc (.cells (plF exP) 34)).heap.size (W.alloc (.cells (plF exP) 34)) W2) => e_Pairs W2 ((pcs_new W exP exP_inl (by decide)).keep (fun g hg => hb.block g hg) fun g hg => Nat.lt_of_lt_of_le hg hb.size) exP_z
  simp only [exP_nest, show exP.length = 5 from rfl] at HP
  simp only [exP_prs, show exP.length = 5 from rfl] at HQ
  go_enter Tryz.func4, Tryz.ntmps4
  go_wp2_with fail
  ((with_reducible refine (l_run _ _ _ _ _).mono ?_))
  rintro e w1 ⟨rfl, b1⟩
  have B1 := Lib.hid b1
  have z1 := b1.size
  clear b1
  go_wp2_with fail
  ((with_reducible refine (l_word _ _).mono ?_))
  rintro e w2 ⟨rfl, b2⟩
  have B2 := Lib.hid (B1.out.trans (b2.mono z1))
  have z2 := B2.out.size
  clear b2 B1 z1
  go_wp2_with fail
  ((with_reducible refine (l_run _ _ _ _ _).mono ?_))
  rintro e w3 ⟨rfl, b3⟩
  have B3 := Lib.hid (B2.out.trans (b3.mono z2))
  have z3 := B3.out.size
  clear b3 B2 z2
  go_wp2_with fail
  ((with_reducible refine (l_word _ _).mono ?_))
  rintro e w4 ⟨rfl, b4⟩
  have B4 := Lib.hid (B3.out.trans (b4.mono z3))
  have z4 := B4.out.size
  clear b4 B3 z3
  go_wp2_with fail
  ((with_reducible refine (l_run _ _ _ _ _).mono ?_))
  rintro e w5 ⟨rfl, b5⟩
  have B5 := Lib.hid (B4.out.trans (b5.mono z4))
  have z5 := B5.out.size
  clear b5 B4 z4
  have HB6 : Hid (Below w.heap.size w (w5.alloc (.cells (plF exP) 34))) := Lib.hid (B5.out.alloc z5 _)
  have hfl : plF [plR ⟨#[42]⟩ 1 true false, plW ⟨#[97, 32]⟩, plR ⟨#[42]⟩ 2 true false, plW ⟨#[98]⟩, plR ⟨#[42]⟩ 3 false true] = plF exP := rfl
  have hz6 : (w5.alloc (.cells (plF exP) 34)).heap.size = w5.heap.size + 1 := by simp
  have HPW := Lib.hid (HP.out w5)
  have HQW := Lib.hid (HQ.out w5)
  clear HP HQ
  go_wp2_with (refine wpList_pcs5 rfl _ _ _ _ _ rfl (plR ⟨#[42]⟩ 1 true false) (plW ⟨#[97, 32]⟩) (plR ⟨#[42]⟩ 2 true false) (plW ⟨#[98]⟩) (plR ⟨#[42]⟩ 3 false true) rfl rfl rfl rfl rfl ?_; rw [hfl]; generalize w5.alloc (.cells (plF exP) 34) = w6 at *)
  ((with_reducible refine HPW.out.mono ?_))
  rintro e w7 ⟨A, c, vs, rfl, hr, hm, b7⟩
  obtain ⟨b, off, rfl, hb, q1, q2, A5, c5, vs5, q3, hr5, hm5⟩ := hr.look hm 0 (by decide)
  obtain ⟨bb, oo, rfl, hb2, p1, p2, -⟩ := hr5.look hm5 0 (by decide)
  obtain ⟨bb', oo', e', -, p3, -⟩ := hr5.look hm5 1 (by decide)
  injection e' with e'
  injection e' with e1 e2
  subst e1 e2
  clear hr hm hr5 hm5
  have HPP := Lib.hid (HQW.out w7 b7)
  have B7 := Lib.hid (HB6.out.trans (b7.mono HB6.out.size))
  have z7 := B7.out.size
  have HK : Hid (∀ w8 : World, Below w7.heap.size w7 w8 → w8.cell? ⟨b, off, none⟩ = some (.int .i64 6) ∧ w8.cell? ⟨b, off + 9, none⟩ = some (.slice (some ⟨bb, oo, none⟩) 2 c5) ∧ w8.cell? ⟨bb, oo + 1, none⟩ = some (.string ⟨#[97, 32]⟩) ∧ w8.cell? ⟨bb, oo + 10, none⟩ = some (.int .i64 7)) := Lib.hid fun w8 h8 =>
    ⟨(h8.cell (p := ⟨b, off, none⟩) hb.2).trans q1, (h8.cell (p := ⟨b, off + 9, none⟩) hb.2).trans q3, (h8.cell (p := ⟨bb, oo + 1, none⟩) hb2.2).trans p2, (h8.cell (p := ⟨bb, oo + 10, none⟩) hb2.2).trans p3⟩
  clear q1 q2 q3 p1 p2 p3 b7 HPW HQW
  go_wp2_with fail
  ((with_reducible refine HPP.out.mono ?_))
  rintro e w8 ⟨A8, c8, rfl, hm8, b8⟩
  obtain ⟨k1, k2, k3, k4⟩ := HK.out w8 b8
  obtain ⟨b9, o9, rfl, hb9, hc9⟩ := hm8.row (by decide) (by decide)
  have HB8 := Lib.hid (B7.out.trans (b8.mono z7))
  have r0 : w8.cell? ⟨b9, o9, none⟩ = some (.int .i64 2) := hc9 0 _ rfl
  have r1 : w8.cell? ⟨b9, o9 + 1, none⟩ = some (.int .i64 4) := hc9 1 _ rfl
  have r2 : w8.cell? ⟨b9, o9 + 2, none⟩ = some (.int .i64 2) := hc9 2 _ rfl
  have r3 : w8.cell? ⟨b9, o9 + 3, none⟩ = some (.int .i64 0) := hc9 3 _ rfl
  have r4 : w8.cell? ⟨b9, o9 + 3 + 1, none⟩ = some (.int .i64 4) := hc9 4 _ rfl
  have r5 : w8.cell? ⟨b9, o9 + 3 + 2, none⟩ = some (.int .i64 1) := hc9 5 _ rfl
  have he1 : ∀ W, Sem.run Tryz.prog (Op.equalIn 10000 42 (Value.agg #[.int .i64 2, .int .i64 4, .int .i64 2]) (Value.agg #[.int .i64 2, .int .i64 4, .int .i64 2])) W = .ok true W := fun _ => by kernel_rfl
  have he2 : ∀ W, Sem.run Tryz.prog (Op.equalIn 10000 42 (Value.agg #[.int .i64 0, .int .i64 4, .int .i64 1]) (Value.agg #[.int .i64 0, .int .i64 4, .int .i64 1])) W = .ok true W := fun _ => by kernel_rfl
  clear hm8 hc9 b8 HK HPP
  go_wp2_with fail
  go_ret
  exact ⟨rfl, HB8.out⟩

end Go.Proofs.YtfnloonmeilhlaaGreatDoor
