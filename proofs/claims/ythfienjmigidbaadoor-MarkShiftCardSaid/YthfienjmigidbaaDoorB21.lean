/-
  Texts of the proof, put together: Any, AnyB.
-/
import Derived.Test.YthfienjmigidbaaDoorB19
import Derived.Lib.IndexAny
set_option linter.unusedVariables false
set_option linter.unusedSimpArgs false
namespace Go.Pub
/-- A space or a line feed stands in the text. -/
def gapB (l : List UInt8) : Bool := l.any fun b => spaceB (b.toNat : Int)
theorem sp_contains (b : UInt8) : ([32, 10] : List UInt8).contains b = spaceB (b.toNat : Int) := by
  unfold spaceB
  rw [Bool.eq_iff_iff]
  simp only [List.contains_cons, List.contains_nil, Bool.or_false, Bool.or_eq_true, beq_iff_eq]
  have h1 : b = 32 ↔ b.toNat = 32 := u8_nat b 32 (by decide)
  have h2 : b = 10 ↔ b.toNat = 10 := u8_nat b 10 (by decide)
  rw [h1, h2]
  omega
theorem any_index (l : List UInt8) : (0 ≤ Lib.indexAny l [32, 10] ↔ gapB l = true) := by
  induction l with
  | nil => simp [Lib.indexAny, gapB]
  | cons b l ih =>
    unfold Lib.indexAny
    rw [sp_contains]
    have hg := Lib.indexAny_ge [32, 10] l
    have e : gapB (b :: l) = (spaceB (b.toNat : Int) || gapB l) := by simp [gapB]
    rw [e]
    cases hs : spaceB (b.toNat : Int)
    · simp only [Bool.false_eq_true, if_false, Bool.false_or]
      rw [← ih]
      by_cases h : Lib.indexAny l [32, 10] = -1
      · rw [h]; simp
      · have : (Lib.indexAny l [32, 10] == -1) = false := by rw [beq_eq_false_iff_ne]; exact h
        rw [this]; simp only [Bool.false_eq_true, if_false]; omega
    · simp
end Go.Pub
namespace Go.Proofs.YthfienjmigidbaaDoor
open Go.RowKit Go.Pub
theorem quietLeft {P : Program} {f : FuncId} {args : Array Value} {w : World} {n : Nat} {v : Value}
    (h : Calls P f args (w.drewN n) fun e w' => e = .returned v ∧ w.drewN n = w') : Calls P f args (w.drewN n) fun e w'' => e = .returned v ∧ ∃ m, w'' = w.drewN m :=
  h.mono fun _ _ ⟨he, hm⟩ => ⟨he, n, hm.symm⟩

def IdxPost (b : Bool) (w : World) (e : Ending) (w' : World) : Prop := ∃ n : Int, e = .returned (.int .i64 n) ∧ (0 ≤ n ↔ b = true) ∧ Below w.heap.size w w'

set_option maxRecDepth 1000000 in
set_option maxHeartbeats 4000000 in
theorem rune2_err (w : World) : Calls Tryd.prog 82 #[.string ⟨#[32, 10]⟩, .int .i32 65533] w fun e w' => e = .returned (.int .i64 (-1)) ∧ Below w.heap.size w w' := by
  have d0 : Utf8.decode ⟨#[32, 10]⟩ 0 = (32, 1) := by kernel_rfl
  have d1 : Utf8.decode ⟨#[32, 10]⟩ 1 = (10, 1) := by kernel_rfl
  have e0 := World.iter_heap w ⟨#[32, 10]⟩ 0
  have e1 := Lib.iterAt_heap _ _ _ _ 1 e0
  have e2 := Lib.iterAt_heap _ _ _ _ 2 e1
  have b0 : Below w.heap.size w (w.iter ⟨#[32, 10]⟩ 0) := (Below.refl _ w).alloc (Nat.le_refl _) _
  have b1 := Lib.below_iterAt b0 (Nat.le_refl _) ⟨#[32, 10]⟩ 1
  have b2 := Lib.hid (Lib.below_iterAt b1 (Nat.le_refl _) ⟨#[32, 10]⟩ 2)
  have r0 := fun ty => Lib.run_next_any_at (P := Tryd.prog) _ _ _ _ ty e0 (by decide)
  have r1 := fun ty => Lib.run_next_any_at (P := Tryd.prog) _ _ _ _ ty e1 (by decide)
  have r2 := fun ty => Lib.run_next_end_at (P := Tryd.prog) _ _ _ _ ty e2 (by decide)
  simp only [d0] at r0
  simp only [d1] at r1
  clear e0 e1 e2 b0 b1 d0 d1
  go_enter Tryd.func82, Tryd.ntmps82
  go_wp2_with fail
  refine wp_loop_rounds 3 ?_
  rw [rounds_succ]
  go_wp2_with fail
  rw [rounds_succ]
  go_wp2_with fail
  rw [rounds_succ]
  go_wp2_with fail
  go_ret
  exact ⟨rfl, b2.out⟩

set_option maxRecDepth 1000000 in
set_option maxHeartbeats 4000000 in
theorem rune2_two (r : Nat) (w : World) (h1 : 128 ≤ r) (h2 : r < 2048) :
    Calls Tryd.prog 82 #[.string ⟨#[32, 10]⟩, .int .i32 r] w fun e w' => e = .returned (.int .i64 (-1)) ∧ Below w.heap.size w w' := by
  have h0 : (0 : Int) ≤ r := by omega
  have z1 : ((r : Int) == 65533) = false := by rw [beq_eq_false_iff_ne]; omega
  have z2 : 128 ≤ (r : Int) := by omega
  have HV : Hid (∀ W, Calls Tryd.prog 89 #[.int .i32 r] W fun e w' => e = .returned (.bool true) ∧ W = w') := Lib.hid fun W => by
    refine (Tryd.utf8_ValidRune r W).mono ?_
    rintro e w' ⟨rfl, rfl⟩
    exact ⟨ret_bool (by unfold Lib.validRune; simp; omega), rfl⟩
  obtain ⟨a, b, hE, hb⟩ : ∃ a b : UInt8, Utf8.encode (r : Int) = ⟨#[a, b]⟩ ∧ 128 ≤ b.toNat := by
    rw [enc_nat r (valid_of r (by omega)), encN_two r (by omega) (by omega)]
    exact ⟨_, _, rfl, by rw [ofNat_toNat _ (by omega)]; omega⟩
  have hnb : ((((⟨#[32, 10]⟩ : ByteArray)[1]'(by decide)).toNat : Int) != ((((⟨#[a, b]⟩ : ByteArray)[1]'(by show 1 < 2; decide)).toNat : Nat) : Int)) = true := by
    show ((10 : Int) != (b.toNat : Int)) = true
    simp; omega
  have hnc : (((⟨#[32, 10]⟩ : ByteArray)[1]'(by decide)).toNat != ((⟨#[a, b]⟩ : ByteArray)[1]'(by show 1 < 2; decide)).toNat) = true := by
    show (10 != b.toNat) = true
    simp; omega
  have HI : Hid (∀ (s : ByteArray) (c : Int) (W : World), s.size = 0 → Calls Tryd.prog 32 #[.string s, .int .u8 c] W fun e w' => e = .returned (.int .i64 (-1)) ∧ W = w') := Lib.hid fun s c W h => by
    refine (Tryd.strings_IndexByte s c W).mono ?_
    rintro e w' ⟨rfl, rfl⟩
    have : s.data.toList = [] := List.eq_nil_of_length_eq_zero (by rw [Array.length_toList]; exact h)
    exact ⟨ret_int (by rw [this]; rfl), rfl⟩
  clear h1 h2
  go_enter Tryd.func82, Tryd.ntmps82
  go_wp2_with fail
  ((with_reducible refine (HV.out _).mono ?_))
  rintro e w1 ⟨rfl, rfl⟩
  go_wp2_with fail
  go_step3
  go_wp2_with fail
  refine wp_loop_rounds 1 ?_
  rw [rounds_succ]
  go_wp2_with fail
  go_step3
  go_wp2_with fail
  go_quiet (fail)
  have hb1 := Lib.hid (below_drewN (Below.refl w.heap.size w) nq)
  generalize w.drewN nq = W1 at *
  go_wp2_with fail
  go_quiet ((go_at_call 32; exact quietLeft (HI.out _ _ _ (by rfl))))
  have hb2 := Lib.hid (below_drewN hb1.out nq)
  generalize W1.drewN nq = W2 at *
  go_wp2_with fail
  rw [Exit.noGoto_ret]
  go_wp2_with fail
  rw [Exit.noGoto_ret]
  go_wp2_with fail
  go_ret
  exact ⟨rfl, hb2.out⟩

set_option maxRecDepth 1000000 in
set_option maxHeartbeats 4000000 in
theorem rune2_more (r : Nat) (w : World) (h1 : 2048 ≤ r) (h2 : r ≠ 65533) (h3 : r < 55296 ∨ (57343 < r ∧ r ≤ 1114111)) :
    Calls Tryd.prog 82 #[.string ⟨#[32, 10]⟩, .int .i32 r] w fun e w' => e = .returned (.int .i64 (-1)) ∧ Below w.heap.size w w' := by
  have h0 : (0 : Int) ≤ r := by omega
  have z1 : ((r : Int) == 65533) = false := by rw [beq_eq_false_iff_ne]; omega
  have z2 : 128 ≤ (r : Int) := by omega
  have HV : Hid (∀ W, Calls Tryd.prog 89 #[.int .i32 r] W fun e w' => e = .returned (.bool true) ∧ W = w') := Lib.hid fun W => by
    refine (Tryd.utf8_ValidRune r W).mono ?_
    rintro e w' ⟨rfl, rfl⟩
    exact ⟨ret_bool (by unfold Lib.validRune; simp; omega), rfl⟩
  have hE : (∃ a b c : UInt8, Utf8.encode (r : Int) = ⟨#[a, b, c]⟩) ∨ (∃ a b c d : UInt8, Utf8.encode (r : Int) = ⟨#[a, b, c, d]⟩) := by
    rw [enc_nat r (valid_of r (by omega))]
    by_cases h : r < 65536
    · left; rw [encN_three r (by omega) (by omega) h]; exact ⟨_, _, _, rfl⟩
    · right; rw [encN_four r (by omega) (by omega) h]; exact ⟨_, _, _, _, rfl⟩
  clear h1 h2 h3
  rcases hE with ⟨a, b, c, hE⟩ | ⟨a, b, c, d, hE⟩
  all_goals
    go_enter Tryd.func82, Tryd.ntmps82
    go_wp2_with fail
    ((with_reducible refine (HV.out _).mono ?_))
    rintro e w1 ⟨rfl, rfl⟩
    go_wp2_with fail
    go_step3
    go_wp2_with fail
    refine wp_loop_rounds 1 ?_
    rw [rounds_succ]
    go_wp2_with fail
    rw [Exit.noGoto_ret]
    go_wp2_with fail
    go_ret
    exact ⟨rfl, Below.refl _ _⟩

theorem rune2_any (r : Nat) (w : World) (hr : r < 55296 ∨ (57343 < r ∧ r ≤ 1114111)) :
    Calls Tryd.prog 82 #[.string ⟨#[32, 10]⟩, .int .i32 r] w (IdxPost (spaceB r) w) := by
  by_cases h1 : r < 128
  · refine (Tryd.strings_IndexRune_ascii ⟨#[32, 10]⟩ r w (by omega) (by omega)).mono ?_
    rintro e w' ⟨rfl, rfl⟩
    refine ⟨_, rfl, ?_, Below.refl _ _⟩
    have e1 : ((r : Int).toNat.toUInt8) = UInt8.ofNat r := rfl
    have e2 : (UInt8.ofNat r).toNat = r := ofNat_toNat r (by omega)
    rw [e1]
    show 0 ≤ Lib.indexByte [32, 10] (UInt8.ofNat r) ↔ _
    unfold spaceB
    have h32 : ((32 : UInt8) == UInt8.ofNat r) = decide (r = 32) := by
      rw [Bool.eq_iff_iff]; simp only [beq_iff_eq, decide_eq_true_eq]
      constructor
      · intro h; rw [← h] at e2; exact e2.symm
      · intro h; rw [h]; rfl
    have h10 : ((10 : UInt8) == UInt8.ofNat r) = decide (r = 10) := by
      rw [Bool.eq_iff_iff]; simp only [beq_iff_eq, decide_eq_true_eq]
      constructor
      · intro h; rw [← h] at e2; exact e2.symm
      · intro h; rw [h]; rfl
    simp only [Lib.indexByte, h32, h10]
    by_cases a : r = 32
    · simp [a]
    · by_cases b : r = 10
      · simp [b]
      · simp [a, b]; omega
  · have hs : spaceB (r : Int) = false := by unfold spaceB; simp; omega
    have key : Calls Tryd.prog 82 #[.string ⟨#[32, 10]⟩, .int .i32 r] w fun e w' => e = .returned (.int .i64 (-1)) ∧ Below w.heap.size w w' := by
      by_cases h2 : r < 2048
      · exact rune2_two r w (by omega) h2
      · by_cases h3 : r = 65533
        · subst h3; exact rune2_err w
        · exact rune2_more r w (by omega) h3 hr
    refine key.mono ?_
    rintro e w' ⟨rfl, hb⟩
    exact ⟨-1, rfl, by rw [hs]; simp, hb⟩
end Go.Proofs.YthfienjmigidbaaDoor
namespace Go.Pub
theorem spaceB_big (n : Nat) (h : 128 ≤ n) : spaceB (n : Int) = false := by unfold spaceB; simp; omega
theorem gapB_enc (c : Nat) (h : Scalar c) : gapB (encL (c : Int)) = spaceB (c : Int) := by
  rw [encL_scalar c h]
  unfold Scalar at h
  by_cases h1 : c < 128
  · rw [encN_one c h1]
    show ([UInt8.ofNat c].any fun b => spaceB (b.toNat : Int)) = _
    simp only [List.any_cons, List.any_nil, Bool.or_false]
    rw [ofNat_toNat c (by omega)]
  · rw [spaceB_big c (by omega)]
    by_cases h2 : c < 2048
    · rw [encN_two c h1 h2]
      show ([UInt8.ofNat (192 + c / 64), UInt8.ofNat (128 + c % 64)].any fun b => spaceB (b.toNat : Int)) = _
      simp only [List.any_cons, List.any_nil, Bool.or_false]
      rw [ofNat_toNat _ (by omega), ofNat_toNat _ (by omega), spaceB_big _ (by omega), spaceB_big _ (by omega)]; rfl
    · by_cases h3 : c < 65536
      · rw [encN_three c h1 h2 h3]
        show ([UInt8.ofNat (224 + c / 4096), UInt8.ofNat (128 + c / 64 % 64), UInt8.ofNat (128 + c % 64)].any fun b => spaceB (b.toNat : Int)) = _
        simp only [List.any_cons, List.any_nil, Bool.or_false]
        rw [ofNat_toNat _ (by omega), ofNat_toNat _ (by omega), ofNat_toNat _ (by omega), spaceB_big _ (by omega), spaceB_big _ (by omega), spaceB_big _ (by omega)]; rfl
      · rw [encN_four c h1 h2 h3]
        show ([UInt8.ofNat (240 + c / 262144), UInt8.ofNat (128 + c / 4096 % 64), UInt8.ofNat (128 + c / 64 % 64), UInt8.ofNat (128 + c % 64)].any fun b => spaceB (b.toNat : Int)) = _
        simp only [List.any_cons, List.any_nil, Bool.or_false]
        rw [ofNat_toNat _ (by omega), ofNat_toNat _ (by omega), ofNat_toNat _ (by omega), ofNat_toNat _ (by omega), spaceB_big _ (by omega), spaceB_big _ (by omega), spaceB_big _ (by omega), spaceB_big _ (by omega)]; rfl
theorem gapB_append (a b : List UInt8) : gapB (a ++ b) = (gapB a || gapB b) := by unfold gapB; rw [List.any_append]
theorem gap_dec (l : List UInt8) (h : l ≠ []) : gapB (l.take (decL l).2) = spaceB ((decL l).1 : Int) := by
  by_cases hg : decL l = (65533, 1)
  · rw [hg]
    cases l with
    | nil => exact absurd rfl h
    | cons x l =>
      by_cases hx : x.toNat < 128
      · rw [dec_ascii_head x l hx] at hg
        injection hg with h1 _
        omega
      · show ([x].any fun b => spaceB (b.toNat : Int)) = _
        simp only [List.any_cons, List.any_nil, Bool.or_false]
        rw [spaceB_big _ (by omega)]; rfl
  · rw [← enc_decL l h hg]
    exact gapB_enc _ (decL_scalar l h)
theorem gap_pts : ∀ (n : Nat) (l : List UInt8), l.length ≤ n → ((ptsL l).any fun p => spaceB (p.1 : Int)) = gapB l
  | 0, l, h => by cases l with
    | nil => rfl
    | cons c l => simp at h
  | n + 1, [], _ => rfl
  | n + 1, c :: l, h => by
    have hne : c :: l ≠ [] := by simp
    have hb := decL_bd (c :: l) hne
    rw [ptsL_cons _ hne, List.any_cons, gap_pts n _ (by rw [List.length_drop]; omega), ← gap_dec _ hne, ← gapB_append, List.take_append_drop]
end Go.Pub
namespace Go.Proofs.YthfienjmigidbaaDoor
open Go.RowKit Go.Pub

def IaRel (s : ByteArray) (w : World) (wr : World) : Prop :=
  ∃ (pos f : Nat) (acc : List (Nat × Nat)), wr.heap[w.heap.size]? = some (.stringIter s pos) ∧ Below w.heap.size w wr ∧ Hid (acc ++ ptsFrom s f pos = pts s) ∧ Hid ((acc.any fun p => spaceB (p.1 : Int)) = false) ∧ s.size ≤ pos + f ∧ pos ≤ s.size

end Go.Proofs.YthfienjmigidbaaDoor
