/-
  Texts of the proof, put together: Any, AnyB.
-/
import Derived.Test.YthfienjmigidbaaGreatDoorB21
import Derived.Lib.IndexAny
set_option linter.unusedVariables false
set_option linter.unusedSimpArgs false
namespace Go.Pub
/-- A space or a line feed stands in the text. -/
def gapB (l : List UInt8) : Bool := l.any fun b => spaceB (b.toNat : Int)
theorem sp_contains (b : UInt8) : ([32, 10] : List UInt8).contains b = spaceB (b.toNat : Int) := by
  unfold spaceB
  rw [Bool.eq_iff_iff]
  simp only [List.contains_cons, List.contains_nil, Bool.or_false, Bool.or_eq_true, beq_iff_eq]
  have h1 : b = 32 ↔ b.toNat = 32 := u8_nat b 32 (by decide)
  have h2 : b = 10 ↔ b.toNat = 10 := u8_nat b 10 (by decide)
  rw [h1, h2]
  omega
theorem any_index (l : List UInt8) : (0 ≤ Lib.indexAny l [32, 10] ↔ gapB l = true) := by
  induction l with
  | nil => simp [Lib.indexAny, gapB]
  | cons b l ih =>
    unfold Lib.indexAny
    rw [sp_contains]
    have hg := Lib.indexAny_ge [32, 10] l
    have e : gapB (b :: l) = (spaceB (b.toNat : Int) || gapB l) := by simp [gapB]
    rw [e]
    cases hs : spaceB (b.toNat : Int)
    · simp only [Bool.false_eq_true, if_false, Bool.false_or]
      rw [← ih]
      by_cases h : Lib.indexAny l [32, 10] = -1
      · rw [h]; simp
      · have : (Lib.indexAny l [32, 10] == -1) = false := by rw [beq_eq_false_iff_ne]; exact h
        rw [this]; simp only [Bool.false_eq_true, if_false]; omega
    · simp
end Go.Pub
namespace Go.Proofs.YthfienjmigidbaaGreatDoor
open Go.RowKit Go.Pub
theorem quietLeft {P : Program} {f : FuncId} {args : Array Value} {w : World} {n : Nat} {v : Value}
    (h : Calls P f args (w.drewN n) fun e w' => e = .returned v ∧ w.drewN n = w') : Calls P f args (w.drewN n) fun e w'' => e = .returned v ∧ ∃ m, w'' = w.drewN m :=
  h.mono fun _ _ ⟨he, hm⟩ => ⟨he, n, hm.symm⟩

def IdxPost (b : Bool) (w : World) (e : Ending) (w' : World) : Prop := ∃ n : Int, e = .returned (.int .i64 n) ∧ (0 ≤ n ↔ b = true) ∧ Below w.heap.size w w'

set_option maxRecDepth 1000000 in
set_option maxHeartbeats 4000000 in
theorem rune2_err (w : World) : Calls Tryz.prog 139 #[.string ⟨#[32, 10]⟩, .int .i32 65533] w fun e w' => e = .returned (.int .i64 (-1)) ∧ Below w.heap.size w w' := by
  have d0 : Utf8.decode ⟨#[32, 10]⟩ 0 = (32, 1) := by kernel_rfl
  have d1 : Utf8.decode ⟨#[32, 10]⟩ 1 = (10, 1) := by kernel_rfl
  have e0 := World.iter_heap w ⟨#[32, 10]⟩ 0
  have e1 := Lib.iterAt_heap _ _ _ _ 1 e0
  have e2 := Lib.iterAt_heap _ _ _ _ 2 e1
  have b0 : Below w.heap.size w (w.iter ⟨#[32, 10]⟩ 0) := (Below.refl _ w).alloc (Nat.le_refl _) _
  have b1 := Lib.below_iterAt b0 (Nat.le_refl _) ⟨#[32, 10]⟩ 1
  have b2 := Lib.hid (Lib.below_iterAt b1 (Nat.le_refl _) ⟨#[32, 10]⟩ 2)
  have r0 := fun ty => Lib.run_next_any_at (P := Tryz.prog) _ _ _ _ ty e0 (by decide)
  have r1 := fun ty => Lib.run_next_any_at (P := Tryz.prog) _ _ _ _ ty e1 (by decide)
  have r2 := fun ty => Lib.run_next_end_at (P := Tryz.prog) _ _ _ _ ty e2 (by decide)
  simp only [d0] at r0
  simp only [d1] at r1
  clear e0 e1 e2 b0 b1 d0 d1
  go_enter Tryz.func139, Tryz.ntmps139
  go_wp2_with fail
  refine wp_loop_rounds 3 ?_
  rw [rounds_succ]
  go_wp2_with fail
  rw [rounds_succ]
  go_wp2_with fail
  rw [rounds_succ]
  go_wp2_with fail
  go_ret
  exact ⟨rfl, b2.out⟩

set_option maxRecDepth 1000000 in
set_option maxHeartbeats 4000000 in
theorem rune2_two (r : Nat) (w : World) (h1 : 128 ≤ r) (h2 : r < 2048) :
    Calls Tryz.prog 139 #[.string ⟨#[32, 10]⟩, .int .i32 r] w fun e w' => e = .returned (.int .i64 (-1)) ∧ Below w.heap.size w w' := by
  have h0 : (0 : Int) ≤ r := by omega
  have z1 : ((r : Int) == 65533) = false := by rw [beq_eq_false_iff_ne]; omega
  have z2 : 128 ≤ (r : Int) := by omega
  have HV : Hid (∀ W, Calls Tryz.prog 154 #[.int .i32 r] W fun e w' => e = .returned (.bool true) ∧ W = w') := Lib.hid fun W => by
    refine (Tryz.utf8_ValidRune r W).mono ?_
    rintro e w' ⟨rfl, rfl⟩
    exact ⟨ret_bool (by unfold Lib.validRune; simp; omega), rfl⟩
  obtain ⟨a, b, hE, hb⟩ : ∃ a b : UInt8, Utf8.encode (r : Int) = ⟨#[a, b]⟩ ∧ 128 ≤ b.toNat := by
    rw [enc_nat r (valid_of r (by omega)), encN_two r (by omega) (by omega)]
    exact ⟨_, _, rfl, by rw [ofNat_toNat _ (by omega)]; omega⟩
  have hnb : ((((⟨#[32, 10]⟩ : ByteArray)[1]'(by decide)).toNat : Int) != ((((⟨#[a, b]⟩ : ByteArray)[1]'(by show 1 < 2; decide)).toNat : Nat) : Int)) = true := by
    show ((10 : Int) != (b.toNat : Int)) = true
    simp; omega
  have hnc : (((⟨#[32, 10]⟩ : ByteArray)[1]'(by decide)).toNat != ((⟨#[a, b]⟩ : ByteArray)[1]'(by show 1 < 2; decide)).toNat) = true := by
    show (10 != b.toNat) = true
    simp; omega
  have HI : Hid (∀ (s : ByteArray) (c : Int) (W : World), s.size = 0 → Calls Tryz.prog 83 #[.string s, .int .u8 c] W fun e w' => e = .returned (.int .i64 (-1)) ∧ W = w') := Lib.hid fun s c W h => by
    refine (Tryz.strings_IndexByte s c W).mono ?_
    rintro e w' ⟨rfl, rfl⟩
    have : s.data.toList = [] := List.eq_nil_of_length_eq_zero (by rw [Array.length_toList]; exact h)
    exact ⟨ret_int (by rw [this]; rfl), rfl⟩
  clear h1 h2
  go_enter Tryz.func139, Tryz.ntmps139
  go_wp2_with fail
  ((with_reducible refine (HV.out _).mono ?_))
  rintro e w1 ⟨rfl, rfl⟩
  go_wp2_with fail
  go_step3
  go_wp2_with fail
  refine wp_loop_rounds 1 ?_
  rw [rounds_succ]
  go_wp2_with fail
  go_step3
  go_wp2_with fail
  go_quiet (fail)
  have hb1 := Lib.hid (below_drewN (Below.refl w.heap.size w) nq)
  generalize w.drewN nq = W1 at *
  go_wp2_with fail
  go_quiet ((go_at_call 83; exact quietLeft (HI.out _ _ _ (by rfl))))
  have hb2 := Lib.hid (below_drewN hb1.out nq)
  generalize W1.drewN nq = W2 at *
  go_wp2_with fail
  rw [Exit.noGoto_ret]
  go_wp2_with fail
  rw [Exit.noGoto_ret]
  go_wp2_with fail
  go_ret
  exact ⟨rfl, hb2.out⟩

set_option maxRecDepth 1000000 in
set_option maxHeartbeats 4000000 in
theorem rune2_more (r : Nat) (w : World) (h1 : 2048 ≤ r) (h2 : r ≠ 65533) (h3 : r < 55296 ∨ (57343 < r ∧ r ≤ 1114111)) :
    Calls Tryz.prog 139 #[.string ⟨#[32, 10]⟩, .int .i32 r] w fun e w' => e = .returned (.int .i64 (-1)) ∧ Below w.heap.size w w' := by
  have h0 : (0 : Int) ≤ r := by omega
  have z1 : ((r : Int) == 65533) = false := by rw [beq_eq_false_iff_ne]; omega
  have z2 : 128 ≤ (r : Int) := by omega
  have HV : Hid (∀ W, Calls Tryz.prog 154 #[.int .i32 r] W fun e w' => e = .returned (.bool true) ∧ W = w') := Lib.hid fun W => by
    refine (Tryz.utf8_ValidRune r W).mono ?_
    rintro e w' ⟨rfl, rfl⟩
    exact ⟨ret_bool (by unfold Lib.validRune; simp; omega), rfl⟩
  have hE : (∃ a b c : UInt8, Utf8.encode (r : Int) = ⟨#[a, b, c]⟩) ∨ (∃ a b c d : UInt8, Utf8.encode (r : Int) = ⟨#[a, b, c, d]⟩) := by
    rw [enc_nat r (valid_of r (by omega))]
    by_cases h : r < 65536
    · left; rw [encN_three r (by omega) (by omega) h]; exact ⟨_, _, _, rfl⟩
    · right; rw [encN_four r (by omega) (by omega) h]; exact ⟨_, _, _, _, rfl⟩
  clear h1 h2 h3
  rcases hE with ⟨a, b, c, hE⟩ | ⟨a, b, c, d, hE⟩
  all_goals
    go_enter Tryz.func139, Tryz.ntmps139
    go_wp2_with fail
    ((with_reducible refine (HV.out _).mono ?_))
    rintro e w1 ⟨rfl, rfl⟩
    go_wp2_with fail
    go_step3
    go_wp2_with fail
    refine wp_loop_rounds 1 ?_
    rw [rounds_succ]
    go_wp2_with fail
    rw [Exit.noGoto_ret]
    go_wp2_with fail
    go_ret
    exact ⟨rfl, Below.refl _ _⟩

theorem rune2_any (r : Nat) (w : World) (hr : r < 55296 ∨ (57343 < r ∧ r ≤ 1114111)) :
    Calls Tryz.prog 139 #[.string ⟨#[32, 10]⟩, .int .i32 r] w (IdxPost (spaceB r) w) := by
  by_cases h1 : r < 128
  · refine (Tryz.strings_IndexRune_ascii ⟨#[32, 10]⟩ r w (by omega) (by omega)).mono ?_
    rintro e w' ⟨rfl, rfl⟩
    refine ⟨_, rfl, ?_, Below.refl _ _⟩
    have e1 : ((r : Int).toNat.toUInt8) = UInt8.ofNat r := rfl
    have e2 : (UInt8.ofNat r).toNat = r := ofNat_toNat r (by omega)
    rw [e1]
    show 0 ≤ Lib.indexByte [32, 10] (UInt8.ofNat r) ↔ _
    unfold spaceB
    have h32 : ((32 : UInt8) == UInt8.ofNat r) = decide (r = 32) := by
      rw [Bool.eq_iff_iff]; simp only [beq_iff_eq, decide_eq_true_eq]
      constructor
      · intro h; rw [← h] at e2; exact e2.symm
      · intro h; rw [h]; rfl
    have h10 : ((10 : UInt8) == UInt8.ofNat r) = decide (r = 10) := by
      rw [Bool.eq_iff_iff]; simp only [beq_iff_eq, decide_eq_true_eq]
      constructor
      · intro h; rw [← h] at e2; exact e2.symm
      · intro h; rw [h]; rfl
    simp only [Lib.indexByte, h32, h10]
    by_cases a : r = 32
    · simp [a]
    · by_cases b : r = 10
      · simp [b]
      · simp [a, b]; omega
  · have hs : spaceB (r : Int) = false := by unfold spaceB; simp; omega
    have key : Calls Tryz.prog 139 #[.string ⟨#[32, 10]⟩, .int .i32 r] w fun e w' => e = .returned (.int .i64 (-1)) ∧ Below w.heap.size w w' := by
      by_cases h2 : r < 2048
      · exact rune2_two r w (by omega) h2
      · by_cases h3 : r = 65533
        · subst h3; exact rune2_err w
        · exact rune2_more r w (by omega) h3 hr
    refine key.mono ?_
    rintro e w' ⟨rfl, hb⟩
    exact ⟨-1, rfl, by rw [hs]; simp, hb⟩
end Go.Proofs.YthfienjmigidbaaGreatDoor
namespace Go.Pub
theorem spaceB_big (n : Nat) (h : 128 ≤ n) : spaceB (n : Int) = false := by unfold spaceB; simp; omega
theorem gapB_enc (c : Nat) (h : Scalar c) : gapB (encL (c : Int)) = spaceB (c : Int) := by
  rw [encL_scalar c h]
  unfold Scalar at h
  by_cases h1 : c < 128
  · rw [encN_one c h1]
    show ([UInt8.ofNat c].any fun b => spaceB (b.toNat : Int)) = _
    simp only [List.any_cons, List.any_nil, Bool.or_false]
    rw [ofNat_toNat c (by omega)]
  · rw [spaceB_big c (by omega)]
    by_cases h2 : c < 2048
    · rw [encN_two c h1 h2]
      show ([UInt8.ofNat (192 + c / 64), UInt8.ofNat (128 + c % 64)].any fun b => spaceB (b.toNat : Int)) = _
      simp only [List.any_cons, List.any_nil, Bool.or_false]
      rw [ofNat_toNat _ (by omega), ofNat_toNat _ (by omega), spaceB_big _ (by omega), spaceB_big _ (by omega)]; rfl
    · by_cases h3 : c < 65536
      · rw [encN_three c h1 h2 h3]
        show ([UInt8.ofNat (224 + c / 4096), UInt8.ofNat (128 + c / 64 % 64), UInt8.ofNat (128 + c % 64)].any fun b => spaceB (b.toNat : Int)) = _
        simp only [List.any_cons, List.any_nil, Bool.or_false]
        rw [ofNat_toNat _ (by omega), ofNat_toNat _ (by omega), ofNat_toNat _ (by omega), spaceB_big _ (by omega), spaceB_big _ (by omega), spaceB_big _ (by omega)]; rfl
      · rw [encN_four c h1 h2 h3]
        show ([UInt8.ofNat (240 + c / 262144), UInt8.ofNat (128 + c / 4096 % 64), UInt8.ofNat (128 + c / 64 % 64), UInt8.ofNat (128 + c % 64)].any fun b => spaceB (b.toNat : Int)) = _
        simp only [List.any_cons, List.any_nil, Bool.or_false]
        rw [ofNat_toNat _ (by omega), ofNat_toNat _ (by omega), ofNat_toNat _ (by omega), ofNat_toNat _ (by omega), spaceB_big _ (by omega), spaceB_big _ (by omega), spaceB_big _ (by omega), spaceB_big _ (by omega)]; rfl
theorem gapB_append (a b : List UInt8) : gapB (a ++ b) = (gapB a || gapB b) := by unfold gapB; rw [List.any_append]
theorem gap_dec (l : List UInt8) (h : l ≠ []) : gapB (l.take (decL l).2) = spaceB ((decL l).1 : Int) := by
  by_cases hg : decL l = (65533, 1)
  · rw [hg]
    cases l with
    | nil => exact absurd rfl h
    | cons x l =>
      by_cases hx : x.toNat < 128
      · rw [dec_ascii_head x l hx] at hg
        injection hg with h1 _
        omega
      · show ([x].any fun b => spaceB (b.toNat : Int)) = _
        simp only [List.any_cons, List.any_nil, Bool.or_false]
        rw [spaceB_big _ (by omega)]; rfl
  · rw [← enc_decL l h hg]
    exact gapB_enc _ (decL_scalar l h)
theorem gap_pts : ∀ (n : Nat) (l : List UInt8), l.length ≤ n → ((ptsL l).any fun p => spaceB (p.1 : Int)) = gapB l
  | 0, l, h => by cases l with
    | nil => rfl
    | cons c l => simp at h
  | n + 1, [], _ => rfl
  | n + 1, c :: l, h => by
    have hne : c :: l ≠ [] := by simp
    have hb := decL_bd (c :: l) hne
    rw [ptsL_cons _ hne, List.any_cons, gap_pts n _ (by rw [List.length_drop]; omega), ← gap_dec _ hne, ← gapB_append, List.take_append_drop]
end Go.Pub
namespace Go.Proofs.YthfienjmigidbaaGreatDoor
open Go.RowKit Go.Pub

def IaRel (s : ByteArray) (w : World) (wr : World) : Prop :=
  ∃ (pos f : Nat) (acc : List (Nat × Nat)), wr.heap[w.heap.size]? = some (.stringIter s pos) ∧ Below w.heap.size w wr ∧ Hid (acc ++ ptsFrom s f pos = pts s) ∧ Hid ((acc.any fun p => spaceB (p.1 : Int)) = false) ∧ s.size ≤ pos + f ∧ pos ≤ s.size

set_option maxRecDepth 1000000 in
set_option maxHeartbeats 4000000 in
theorem any2_short (s : ByteArray) (w : World) (hs : s.size ≤ 8) :
    Calls Tryz.prog 112 #[.string s, .string ⟨#[32, 10]⟩] w (IdxPost (gapB (bytesL s)) w) := by
  have HG : Hid (gapB (bytesL s) = ((pts s).any fun p => spaceB (p.1 : Int))) := Lib.hid (by rw [pts_ptsL, gap_pts _ _ (Nat.le_refl _)])
  have HSh : Hid (∀ W, Calls Tryz.prog 140 #[.int .i64 s.size] W fun e w' => e = .returned (.bool false) ∧ W = w') := Lib.hid fun W => by
    refine (Tryz.strings_shouldUseASCIISet s.size W).mono ?_
    rintro e w' ⟨rfl, rfl⟩
    exact ⟨ret_bool (by simp; omega), rfl⟩
  generalize gapB (bytesL s) = G at *
  go_enter Tryz.func112, Tryz.ntmps112
  go_wp2_with fail
  ((with_reducible refine (HSh.out _).mono ?_))
  rintro e w1 ⟨rfl, rfl⟩
  go_wp2_with fail
  go_loopw [] (fun wr => IaRel s w wr) (fun wr => s.size - wr.iterPos w.heap.size)
  case atStart =>
    exact ⟨0, s.size, [], World.iter_heap w s 0, (Below.refl _ w).alloc (Nat.le_refl _) _, Lib.hid rfl, Lib.hid rfl, by omega, by omega⟩
  case round =>
    obtain ⟨pos, f, acc, hit, hbw, Hacc, Hok, hf, hps⟩ := hrel
    have hz := hbw.size
    by_cases hp : pos < s.size
    · have hd := dec_bd s pos hp
      have hsc := pts_scalar s
      have hall : Hid (pts s = (acc ++ [Utf8.decode s pos]) ++ ptsFrom s (f - 1) (pos + (Utf8.decode s pos).2)) := Lib.hid (by rw [← Hacc.out, ptsFrom_step s f pos hp hf]; simp)
      have hS : Scalar (Utf8.decode s pos).1 := hsc _ (by rw [hall.out]; simp)
      clear hsc
      have hnx : ∀ ty, (Instr.next (.pointer (some ⟨w.heap.size, 0, none⟩)) true ty).run Tryz.prog wr = _ := fun ty => Lib.run_next_any_at wr w.heap.size s pos ty hit hp
      have hit2 := Lib.hid (Lib.iterAt_heap wr w.heap.size s pos (pos + (Utf8.decode s pos).2) hit)
      have hbw2 := Lib.hid (Lib.below_iterAt hbw (k := w.heap.size) (Nat.le_refl _) s (pos + (Utf8.decode s pos).2))
      have hsz2 : w.heap.size < (wr.iterAt w.heap.size s (pos + (Utf8.decode s pos).2)).heap.size := by rw [Lib.iterAt_size]; exact (Array.getElem?_eq_some_iff.1 hit).1
      have hitk := Lib.hid hit
      clear hit
      generalize Utf8.decode s pos = D at *
      have HC : Hid (∀ W, Calls Tryz.prog 139 #[.string ⟨#[32, 10]⟩, .int .i32 D.1] W (IdxPost (spaceB D.1) W)) := Lib.hid fun W => rune2_any D.1 W hS
      clear hS
      cases hsp : spaceB (D.1 : Int)
      · have dn : Hid (∀ W', Below (wr.iterAt w.heap.size s (pos + D.2)).heap.size (wr.iterAt w.heap.size s (pos + D.2)) W' → W'.heap[w.heap.size]? = some (.stringIter s (pos + D.2)) ∧ IaRel s w W') := Lib.hid fun W' hW => by
          have e1 : W'.heap[w.heap.size]? = some (.stringIter s (pos + D.2)) := (hW.block _ hsz2).trans hit2.out
          exact ⟨e1, pos + D.2, f - 1, acc ++ [D], e1, hbw2.out.trans (hW.mono (by omega)), Lib.hid hall.out.symm, Lib.hid (by rw [List.any_append, Hok.out]; simp [hsp]), by omega, by omega⟩
        rw [hsp] at HC
        clear hsp
        go_wp2_with fail
        ((with_reducible refine (HC.out _).mono ?_))
        rintro e w1 ⟨n, rfl, hn, b1⟩
        have hn1 : n < 0 := by
          rcases Int.lt_or_le n 0 with h | h
          · exact h
          · have := hn.1 h; simp at this
        clear hn
        go_wp2_with fail
        go_roundw
        case rel => exact (dn.out _ b1).2
        case measure =>
          simp only [World.iterPos, (dn.out _ b1).1, hitk.out]
          omega
      · have HT : Hid (G = true) := Lib.hid (by rw [HG.out, hall.out]; simp [hsp])
        rw [hsp] at HC
        clear hsp
        go_wp2_with fail
        ((with_reducible refine (HC.out _).mono ?_))
        rintro e w1 ⟨n, rfl, hn, b1⟩
        have hn1 : 0 ≤ n := hn.2 rfl
        clear hn
        go_wp2_with fail
        go_ret
        exact ⟨_, rfl, by rw [HT.out]; simp, hbw2.out.trans (b1.mono (by omega))⟩
    · have hnx : ∀ ty, (Instr.next (.pointer (some ⟨w.heap.size, 0, none⟩)) true ty).run Tryz.prog wr = _ := fun ty => Lib.run_next_end_at wr w.heap.size s pos ty hit hp
      have HF : Hid (G = false) := Lib.hid (by rw [HG.out, ← Hacc.out, ptsFrom_end s f pos hp, List.append_nil]; exact Hok.out)
      go_wp2_with fail
      go_ret
      exact ⟨-1, rfl, by rw [HF.out]; simp, hbw⟩

theorem any2 (s : ByteArray) (w : World) (hs : s.size ≤ 1000000) :
    Calls Tryz.prog 112 #[.string s, .string ⟨#[32, 10]⟩] w (IdxPost (gapB (bytesL s)) w) := by
  by_cases h : s.size ≤ 8
  · exact any2_short s w h
  · refine (Tryz.strings_IndexAny_long (fun w => by kernel_rfl) s ⟨#[32, 10]⟩ w (by decide) (by omega) (by omega) (by decide) ?_).mono ?_
    · intro j b hj
      match j, hj with
      | 0, hj => simp at hj; subst hj; decide
      | 1, hj => simp at hj; subst hj; decide
    · rintro e w' ⟨rfl, rfl⟩
      exact ⟨_, rfl, any_index _, ((Below.refl _ _).alloc (Nat.le_refl _) _).alloc (by simp) _⟩

set_option maxRecDepth 1000000 in
set_option maxHeartbeats 4000000 in
theorem containsAny2 (s : ByteArray) (w : World) (hs : s.size ≤ 1000000) :
    Calls Tryz.prog 68 #[.string s, .string ⟨#[32, 10]⟩] w fun e w' => e = .returned (.bool (gapB (bytesL s))) ∧ Below w.heap.size w w' := by
  have HC := Lib.hid fun W => any2 s W hs
  generalize gapB (bytesL s) = G at *
  go_enter Tryz.func68, Tryz.ntmps68
  go_wp2_with fail
  ((with_reducible refine (HC.out _).mono ?_))
  rintro e w1 ⟨n, rfl, hn, b1⟩
  have HN := Lib.hid hn
  clear hn
  go_wp2_with fail
  go_ret
  refine ⟨ret_bool ?_, b1⟩
  rw [Bool.eq_iff_iff, decide_eq_true_eq]
  exact HN.out
end Go.Proofs.YthfienjmigidbaaGreatDoor
