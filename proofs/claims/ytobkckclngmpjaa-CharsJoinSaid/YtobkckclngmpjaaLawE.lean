/-
  The walks of CharsOnce and CharsJoin.
-/
import Derived.Test.YtobkckclngmpjaaLawA
import Derived.Test.YtobkckclngmpjaaPureC
set_option linter.unusedVariables false
set_option linter.unusedSimpArgs false
namespace Go.Proofs.Ytobkckclngmpjaa
open Go.RowKit Go.Pub

theorem mk_size' (l : List UInt8) : (mk l).size = l.length := by rw [← bytesL_length, bytesL_mk']
theorem cleanP_len (l : List (Nat × Nat)) : (cleanP l).length ≤ 4 * l.length := by
  induction l with
  | nil => simp [cleanP]
  | cons p l ih =>
    have := cleanPiece_length p.1 (headLF l)
    simp only [cleanP, List.length_append, List.length_cons]; omega
theorem cleanL_len (s : ByteArray) : (cleanL s).length ≤ 4 * s.size := by
  have := cleanP_len (pts s)
  have := pts_length s
  unfold cleanL; omega
theorem outC_len (cs : List Nat) : ∀ g ne, ((outC g ne cs).flatMap enc).length ≤ 8 * cs.length := by
  induction cs with
  | nil => intros; simp [outC]
  | cons c cs ih =>
    intro g ne
    rw [outC_cons]
    by_cases hs : spaceB c = true
    · rw [if_pos hs]; have := ih true ne; simp only [List.length_cons]; omega
    · rw [if_neg hs, List.flatMap_append, List.flatMap_cons, List.length_append, List.length_append]
      have h1 := ih false true
      have h2 := (encL_length (low c : Int)).2
      have h3 : (enc (low c)).length ≤ 4 := h2
      have h4 : ((if (g && ne) = true then ([32] : List Nat) else []).flatMap enc).length ≤ 1 := by
        split
        · simp [enc_sp]
        · simp
      simp only [List.length_cons]; omega
theorem foldL_len (s : ByteArray) : (foldL s).length ≤ 8 * s.size := by
  rw [foldL_out]
  have h := outC_len ((pts s).map (·.1)) false false
  have := pts_length s
  unfold foldC
  rw [List.length_map] at h; omega

set_option maxRecDepth 100000 in
set_option maxHeartbeats 8000000 in
theorem lawOnce_any (s : ByteArray) (w : World) (hs : s.size ≤ 9223372036854775807) : Calls Try.prog 9 #[.string s] w fun e w' => e = .returned (.bool true) ∧ Below w.heap.size w w' := by
  by_cases h : 2000 < s.size
  · go_enter Try.func9, Try.ntmps9
    go_wp2_with (go_at_call 11; refine (awake_any _).mono ?_; rintro e w1 ⟨rfl, b1⟩)
    go_ret
    exact ⟨rfl, b1⟩
  · have l1 := cleanL_len s
    have l2 := foldL_len s
    have H1 : Hid (∀ W, Calls Try.prog 30 #[.string s] W fun e w' => e = .returned (.string (mk (cleanL s))) ∧ Below W.heap.size W w') := Lib.hid fun W => clean_any s W (by omega)
    have H2 : Hid (∀ W, Calls Try.prog 32 #[.string s] W fun e w' => e = .returned (.string (mk (foldL s))) ∧ Below W.heap.size W w') := Lib.hid fun W => fold_any s W (by omega)
    have H3 : Hid (∀ W, Calls Try.prog 28 #[.string (mk (cleanL s))] W fun e w' => e = .returned (.bool true) ∧ Below W.heap.size W w') := Lib.hid fun W => by
      have h := valid_any (mk (cleanL s)) W (by rw [mk_size']; omega)
      rw [valid_clean] at h; exact h
    have H4 : Hid (∀ W, Calls Try.prog 30 #[.string (mk (cleanL s))] W fun e w' => e = .returned (.string (mk (cleanL s))) ∧ Below W.heap.size W w') := Lib.hid fun W => by
      have h := clean_any (mk (cleanL s)) W (by rw [mk_size']; omega)
      rw [clean_clean] at h; exact h
    have H5 : Hid (∀ W, Calls Try.prog 32 #[.string (mk (foldL s))] W fun e w' => e = .returned (.string (mk (foldL s))) ∧ Below W.heap.size W w') := Lib.hid fun W => by
      have h := fold_any (mk (foldL s)) W (by rw [mk_size']; omega)
      rw [fold_fold] at h; exact h
    have H6 := Lib.hid (valid_any s)
    have H7 : Hid (∀ W, Calls Try.prog 28 #[.string (mk (foldL s))] W fun e w' => e = .returned (.bool (validB (mk (foldL s)))) ∧ Below W.heap.size W w') := Lib.hid fun W => valid_any _ W (by rw [mk_size']; omega)
    have V1 : Hid (validB s = true → mk (cleanL s) = s) := Lib.hid fun h => by rw [clean_valid s h, mk_bytesL]
    have V2 := Lib.hid (valid_fold s)
    clear l1 l2
    generalize mk (cleanL s) = C at *
    generalize mk (foldL s) = F at *
    generalize hV : validB s = V at *
    cases V
    · go_enter Try.func9, Try.ntmps9
      go_wp2_with fail
      refine (H1.out _).mono ?_
      rintro e w1 ⟨rfl, b1⟩
      go_wp2_with fail
      refine (H2.out _).mono ?_
      rintro e w2 ⟨rfl, b2⟩
      go_wp2_with fail
      refine (H3.out _).mono ?_
      rintro e w3 ⟨rfl, b3⟩
      go_wp2_with fail
      refine (H4.out _).mono ?_
      rintro e w4 ⟨rfl, b4⟩
      go_wp2_with fail
      refine (H5.out _).mono ?_
      rintro e w5 ⟨rfl, b5⟩
      go_wp2_with fail
      refine (H6.out _ (by omega)).mono ?_
      rintro e w6 ⟨rfl, b6⟩
      go_wp2_with fail
      refine (awake_any _).mono ?_
      rintro e w7 ⟨rfl, b7⟩
      go_wp2
      go_ret
      have z1 := b1.size
      have z2 := b2.size
      have z3 := b3.size
      have z4 := b4.size
      have z5 := b5.size
      have z6 := b6.size
      exact ⟨rfl, (((((b1.trans (b2.mono (by omega))).trans (b3.mono (by omega))).trans (b4.mono (by omega))).trans (b5.mono (by omega))).trans (b6.mono (by omega))).trans (b7.mono (by omega))⟩
    · have hc := V1.out rfl
      have hf := V2.out rfl
      subst hc
      rw [hf] at H7
      clear hf
      go_enter Try.func9, Try.ntmps9
      go_wp2_with fail
      refine (H1.out _).mono ?_
      rintro e w1 ⟨rfl, b1⟩
      go_wp2_with fail
      refine (H2.out _).mono ?_
      rintro e w2 ⟨rfl, b2⟩
      go_wp2_with fail
      refine (H3.out _).mono ?_
      rintro e w3 ⟨rfl, b3⟩
      go_wp2_with fail
      refine (H4.out _).mono ?_
      rintro e w4 ⟨rfl, b4⟩
      go_wp2_with fail
      refine (H5.out _).mono ?_
      rintro e w5 ⟨rfl, b5⟩
      go_wp2_with fail
      refine (H3.out _).mono ?_
      rintro e w6 ⟨rfl, b6⟩
      go_wp2_with fail
      refine (H7.out _).mono ?_
      rintro e w7 ⟨rfl, b7⟩
      go_wp2_with fail
      refine (awake_any _).mono ?_
      rintro e w8 ⟨rfl, b8⟩
      go_wp2
      go_ret
      have z1 := b1.size
      have z2 := b2.size
      have z3 := b3.size
      have z4 := b4.size
      have z5 := b5.size
      have z6 := b6.size
      have z7 := b7.size
      exact ⟨rfl, ((((((b1.trans (b2.mono (by omega))).trans (b3.mono (by omega))).trans (b4.mono (by omega))).trans (b5.mono (by omega))).trans (b6.mono (by omega))).trans (b7.mono (by omega))).trans (b8.mono (by omega))⟩

theorem add_mk (a b : ByteArray) : a ++ b = mk (bytesL a ++ bytesL b) := by
  have h := ByteArray.mk_append_mk (bytesL a) (bytesL b)
  have ha := mk_bytesL a
  have hb := mk_bytesL b
  unfold mk at *
  rw [ha, hb] at h
  exact h

set_option maxRecDepth 100000 in
set_option maxHeartbeats 8000000 in
theorem lawJoin_any (a b : ByteArray) (w : World) (ha : a.size ≤ 9223372036854775807) (hb : b.size ≤ 9223372036854775807) : Calls Try.prog 10 #[.string a, .string b] w fun e w' => e = .returned (.bool true) ∧ Below w.heap.size w w' := by
  by_cases h : 1000 < a.size ∨ 1000 < b.size
  · by_cases h1 : 1000 < a.size
    all_goals
      go_enter Try.func10, Try.ntmps10
      go_wp2_with (go_at_call 11; refine (awake_any _).mono ?_; rintro e w1 ⟨rfl, b1⟩)
      go_ret
      exact ⟨rfl, b1⟩
  · have l1 := foldL_len a
    have l2 := foldL_len b
    have ha1 : a.size ≤ 1000 := by omega
    have hb1 : b.size ≤ 1000 := by omega
    have e1 : a ++ (⟨#[32]⟩ : ByteArray) ++ b = mk (bytesL a ++ 32 :: bytesL b) := by
      rw [add_mk a ⟨#[32]⟩, add_mk (mk _) b, bytesL_mk']
      show mk (bytesL a ++ [32] ++ bytesL b) = _
      simp
    have e2 : a ++ (⟨#[10, 32, 32]⟩ : ByteArray) ++ b = mk (bytesL a ++ 10 :: 32 :: 32 :: bytesL b) := by
      rw [add_mk a ⟨#[10, 32, 32]⟩, add_mk (mk _) b, bytesL_mk']
      show mk (bytesL a ++ [10, 32, 32] ++ bytesL b) = _
      simp
    have e3 : mk (foldL a) ++ (⟨#[32]⟩ : ByteArray) ++ mk (foldL b) = mk (foldL a ++ 32 :: foldL b) := by
      rw [add_mk (mk (foldL a)) ⟨#[32]⟩, add_mk (mk _) (mk (foldL b)), bytesL_mk', bytesL_mk', bytesL_mk']
      show mk (foldL a ++ [32] ++ foldL b) = _
      simp
    have X1 : foldL (mk (foldL a ++ 32 :: foldL b)) = foldL (mk (bytesL a ++ 32 :: bytesL b)) := by
      have := join_fold (bytesL a) (bytesL b)
      rw [mk_bytesL, mk_bytesL] at this
      exact this.symm
    have X2 : foldL (mk (bytesL a ++ 10 :: 32 :: 32 :: bytesL b)) = foldL (mk (bytesL a ++ 32 :: bytesL b)) := (join_wide (bytesL a) (bytesL b)).symm
    have sz : ∀ (l : List UInt8), l.length ≤ 20000 → (mk l).size ≤ 1000000 := fun l h => by rw [mk_size']; omega
    have la := bytesL_length a
    have lb := bytesL_length b
    have H1 : Hid (∀ W, Calls Try.prog 32 #[.string (a ++ (⟨#[32]⟩ : ByteArray) ++ b)] W fun e w' => e = .returned (.string (mk (foldL (mk (bytesL a ++ 32 :: bytesL b))))) ∧ Below W.heap.size W w') := Lib.hid fun W => by
      rw [e1]; exact fold_any _ W (sz _ (by simp; omega))
    have H2 : Hid (∀ W, Calls Try.prog 32 #[.string a] W fun e w' => e = .returned (.string (mk (foldL a))) ∧ Below W.heap.size W w') := Lib.hid fun W => fold_any _ W (by omega)
    have H3 : Hid (∀ W, Calls Try.prog 32 #[.string b] W fun e w' => e = .returned (.string (mk (foldL b))) ∧ Below W.heap.size W w') := Lib.hid fun W => fold_any _ W (by omega)
    have H4 : Hid (∀ W, Calls Try.prog 32 #[.string (mk (foldL a) ++ (⟨#[32]⟩ : ByteArray) ++ mk (foldL b))] W fun e w' => e = .returned (.string (mk (foldL (mk (bytesL a ++ 32 :: bytesL b))))) ∧ Below W.heap.size W w') := Lib.hid fun W => by
      rw [e3, ← X1]; exact fold_any _ W (sz _ (by simp; omega))
    have H5 : Hid (∀ W, Calls Try.prog 32 #[.string (a ++ (⟨#[10, 32, 32]⟩ : ByteArray) ++ b)] W fun e w' => e = .returned (.string (mk (foldL (mk (bytesL a ++ 32 :: bytesL b))))) ∧ Below W.heap.size W w') := Lib.hid fun W => by
      rw [e2, ← X2]; exact fold_any _ W (sz _ (by simp; omega))
    have s2 : (mk (foldL a)).size ≤ 8000 := by rw [mk_size']; omega
    have s3 : (mk (foldL b)).size ≤ 8000 := by rw [mk_size']; omega
    clear e1 e2 e3 X1 X2 sz la lb l1 l2
    generalize mk (foldL (mk (bytesL a ++ 32 :: bytesL b))) = R at *
    generalize mk (foldL a) = FA at *
    generalize mk (foldL b) = FB at *
    have k1 : a.size + 1 ≤ 9223372036854775807 := by omega
    have k2 : a.size + 1 + b.size ≤ 9223372036854775807 := by omega
    have k3 : FA.size + 1 ≤ 9223372036854775807 := by omega
    have k4 : FA.size + 1 + FB.size ≤ 9223372036854775807 := by omega
    have k5 : a.size + 3 ≤ 9223372036854775807 := by omega
    have k6 : a.size + 3 + b.size ≤ 9223372036854775807 := by omega
    go_enter Try.func10, Try.ntmps10
    go_wp2_with fail
    refine (H1.out _).mono ?_
    rintro e w1 ⟨rfl, b1⟩
    go_wp2_with fail
    refine (H2.out _).mono ?_
    rintro e w2 ⟨rfl, b2⟩
    go_wp2_with fail
    refine (H3.out _).mono ?_
    rintro e w3 ⟨rfl, b3⟩
    go_wp2_with fail
    refine (H4.out _).mono ?_
    rintro e w4 ⟨rfl, b4⟩
    go_wp2_with fail
    refine (H5.out _).mono ?_
    rintro e w5 ⟨rfl, b5⟩
    go_wp2_with fail
    refine (awake_any _).mono ?_
    rintro e w6 ⟨rfl, b6⟩
    go_wp2
    go_ret
    have z1 := b1.size
    have z2 := b2.size
    have z3 := b3.size
    have z4 := b4.size
    have z5 := b5.size
    exact ⟨rfl, ((((b1.trans (b2.mono (by omega))).trans (b3.mono (by omega))).trans (b4.mono (by omega))).trans (b5.mono (by omega))).trans (b6.mono (by omega))⟩
end Go.Proofs.Ytobkckclngmpjaa
