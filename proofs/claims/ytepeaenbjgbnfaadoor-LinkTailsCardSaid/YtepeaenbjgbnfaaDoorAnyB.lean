/-
  strings.ContainsAny(s, " \n"), whole.
-/
import Derived.Test.YtepeaenbjgbnfaaDoorAny
set_option linter.unusedVariables false
set_option linter.unusedSimpArgs false
namespace Go.Pub
theorem spaceB_big (n : Nat) (h : 128 ≤ n) : spaceB (n : Int) = false := by unfold spaceB; simp; omega
theorem gapB_enc (c : Nat) (h : Scalar c) : gapB (encL (c : Int)) = spaceB (c : Int) := by
  rw [encL_scalar c h]
  unfold Scalar at h
  by_cases h1 : c < 128
  · rw [encN_one c h1]
    show ([UInt8.ofNat c].any fun b => spaceB (b.toNat : Int)) = _
    simp only [List.any_cons, List.any_nil, Bool.or_false]
    rw [ofNat_toNat c (by omega)]
  · rw [spaceB_big c (by omega)]
    by_cases h2 : c < 2048
    · rw [encN_two c h1 h2]
      show ([UInt8.ofNat (192 + c / 64), UInt8.ofNat (128 + c % 64)].any fun b => spaceB (b.toNat : Int)) = _
      simp only [List.any_cons, List.any_nil, Bool.or_false]
      rw [ofNat_toNat _ (by omega), ofNat_toNat _ (by omega), spaceB_big _ (by omega), spaceB_big _ (by omega)]; rfl
    · by_cases h3 : c < 65536
      · rw [encN_three c h1 h2 h3]
        show ([UInt8.ofNat (224 + c / 4096), UInt8.ofNat (128 + c / 64 % 64), UInt8.ofNat (128 + c % 64)].any fun b => spaceB (b.toNat : Int)) = _
        simp only [List.any_cons, List.any_nil, Bool.or_false]
        rw [ofNat_toNat _ (by omega), ofNat_toNat _ (by omega), ofNat_toNat _ (by omega), spaceB_big _ (by omega), spaceB_big _ (by omega), spaceB_big _ (by omega)]; rfl
      · rw [encN_four c h1 h2 h3]
        show ([UInt8.ofNat (240 + c / 262144), UInt8.ofNat (128 + c / 4096 % 64), UInt8.ofNat (128 + c / 64 % 64), UInt8.ofNat (128 + c % 64)].any fun b => spaceB (b.toNat : Int)) = _
        simp only [List.any_cons, List.any_nil, Bool.or_false]
        rw [ofNat_toNat _ (by omega), ofNat_toNat _ (by omega), ofNat_toNat _ (by omega), ofNat_toNat _ (by omega), spaceB_big _ (by omega), spaceB_big _ (by omega), spaceB_big _ (by omega), spaceB_big _ (by omega)]; rfl
theorem gapB_append (a b : List UInt8) : gapB (a ++ b) = (gapB a || gapB b) := by unfold gapB; rw [List.any_append]
theorem gap_dec (l : List UInt8) (h : l ≠ []) : gapB (l.take (decL l).2) = spaceB ((decL l).1 : Int) := by
  by_cases hg : decL l = (65533, 1)
  · rw [hg]
    cases l with
    | nil => exact absurd rfl h
    | cons x l =>
      by_cases hx : x.toNat < 128
      · rw [dec_ascii_head x l hx] at hg
        injection hg with h1 _
        omega
      · show ([x].any fun b => spaceB (b.toNat : Int)) = _
        simp only [List.any_cons, List.any_nil, Bool.or_false]
        rw [spaceB_big _ (by omega)]; rfl
  · rw [← enc_decL l h hg]
    exact gapB_enc _ (decL_scalar l h)
theorem gap_pts : ∀ (n : Nat) (l : List UInt8), l.length ≤ n → ((ptsL l).any fun p => spaceB (p.1 : Int)) = gapB l
  | 0, l, h => by cases l with
    | nil => rfl
    | cons c l => simp at h
  | n + 1, [], _ => rfl
  | n + 1, c :: l, h => by
    have hne : c :: l ≠ [] := by simp
    have hb := decL_bd (c :: l) hne
    rw [ptsL_cons _ hne, List.any_cons, gap_pts n _ (by rw [List.length_drop]; omega), ← gap_dec _ hne, ← gapB_append, List.take_append_drop]
end Go.Pub
namespace Go.Proofs.YtepeaenbjgbnfaaDoor
open Go.RowKit Go.Pub

def IaRel (s : ByteArray) (w : World) (wr : World) : Prop :=
  ∃ (pos f : Nat) (acc : List (Nat × Nat)), wr.heap[w.heap.size]? = some (.stringIter s pos) ∧ Below w.heap.size w wr ∧ Hid (acc ++ ptsFrom s f pos = pts s) ∧ Hid ((acc.any fun p => spaceB (p.1 : Int)) = false) ∧ s.size ≤ pos + f ∧ pos ≤ s.size

set_option maxRecDepth 1000000 in
set_option maxHeartbeats 4000000 in
theorem any2_short (s : ByteArray) (w : World) (hs : s.size ≤ 8) :
    Calls Tryd.prog 48 #[.string s, .string ⟨#[32, 10]⟩] w (IdxPost (gapB (bytesL s)) w) := by
  have HG : Hid (gapB (bytesL s) = ((pts s).any fun p => spaceB (p.1 : Int))) := Lib.hid (by rw [pts_ptsL, gap_pts _ _ (Nat.le_refl _)])
  have HSh : Hid (∀ W, Calls Tryd.prog 64 #[.int .i64 s.size] W fun e w' => e = .returned (.bool false) ∧ W = w') := Lib.hid fun W => by
    refine (Tryd.strings_shouldUseASCIISet s.size W).mono ?_
    rintro e w' ⟨rfl, rfl⟩
    exact ⟨ret_bool (by simp; omega), rfl⟩
  generalize gapB (bytesL s) = G at *
  go_enter Tryd.func48, Tryd.ntmps48
  go_wp2_with fail
  ((with_reducible refine (HSh.out _).mono ?_))
  rintro e w1 ⟨rfl, rfl⟩
  go_wp2_with fail
  go_loopw [] (fun wr => IaRel s w wr) (fun wr => s.size - wr.iterPos w.heap.size)
  case atStart =>
    exact ⟨0, s.size, [], World.iter_heap w s 0, (Below.refl _ w).alloc (Nat.le_refl _) _, Lib.hid rfl, Lib.hid rfl, by omega, by omega⟩
  case round =>
    obtain ⟨pos, f, acc, hit, hbw, Hacc, Hok, hf, hps⟩ := hrel
    have hz := hbw.size
    by_cases hp : pos < s.size
    · have hd := dec_bd s pos hp
      have hsc := pts_scalar s
      have hall : Hid (pts s = (acc ++ [Utf8.decode s pos]) ++ ptsFrom s (f - 1) (pos + (Utf8.decode s pos).2)) := Lib.hid (by rw [← Hacc.out, ptsFrom_step s f pos hp hf]; simp)
      have hS : Scalar (Utf8.decode s pos).1 := hsc _ (by rw [hall.out]; simp)
      clear hsc
      have hnx : ∀ ty, (Instr.next (.pointer (some ⟨w.heap.size, 0, none⟩)) true ty).run Tryd.prog wr = _ := fun ty => Lib.run_next_any_at wr w.heap.size s pos ty hit hp
      have hit2 := Lib.hid (Lib.iterAt_heap wr w.heap.size s pos (pos + (Utf8.decode s pos).2) hit)
      have hbw2 := Lib.hid (Lib.below_iterAt hbw (k := w.heap.size) (Nat.le_refl _) s (pos + (Utf8.decode s pos).2))
      have hsz2 : w.heap.size < (wr.iterAt w.heap.size s (pos + (Utf8.decode s pos).2)).heap.size := by rw [Lib.iterAt_size]; exact (Array.getElem?_eq_some_iff.1 hit).1
      have hitk := Lib.hid hit
      clear hit
      generalize Utf8.decode s pos = D at *
      have HC : Hid (∀ W, Calls Tryd.prog 63 #[.string ⟨#[32, 10]⟩, .int .i32 D.1] W (IdxPost (spaceB D.1) W)) := Lib.hid fun W => rune2_any D.1 W hS
      clear hS
      cases hsp : spaceB (D.1 : Int)
      · have dn : Hid (∀ W', Below (wr.iterAt w.heap.size s (pos + D.2)).heap.size (wr.iterAt w.heap.size s (pos + D.2)) W' → W'.heap[w.heap.size]? = some (.stringIter s (pos + D.2)) ∧ IaRel s w W') := Lib.hid fun W' hW => by
          have e1 : W'.heap[w.heap.size]? = some (.stringIter s (pos + D.2)) := (hW.block _ hsz2).trans hit2.out
          exact ⟨e1, pos + D.2, f - 1, acc ++ [D], e1, hbw2.out.trans (hW.mono (by omega)), Lib.hid hall.out.symm, Lib.hid (by rw [List.any_append, Hok.out]; simp [hsp]), by omega, by omega⟩
        rw [hsp] at HC
        clear hsp
        go_wp2_with fail
        ((with_reducible refine (HC.out _).mono ?_))
        rintro e w1 ⟨n, rfl, hn, b1⟩
        have hn1 : n < 0 := by
          rcases Int.lt_or_le n 0 with h | h
          · exact h
          · have := hn.1 h; simp at this
        clear hn
        go_wp2_with fail
        go_roundw
        case rel => exact (dn.out _ b1).2
        case measure =>
          simp only [World.iterPos, (dn.out _ b1).1, hitk.out]
          omega
      · have HT : Hid (G = true) := Lib.hid (by rw [HG.out, hall.out]; simp [hsp])
        rw [hsp] at HC
        clear hsp
        go_wp2_with fail
        ((with_reducible refine (HC.out _).mono ?_))
        rintro e w1 ⟨n, rfl, hn, b1⟩
        have hn1 : 0 ≤ n := hn.2 rfl
        clear hn
        go_wp2_with fail
        go_ret
        exact ⟨_, rfl, by rw [HT.out]; simp, hbw2.out.trans (b1.mono (by omega))⟩
    · have hnx : ∀ ty, (Instr.next (.pointer (some ⟨w.heap.size, 0, none⟩)) true ty).run Tryd.prog wr = _ := fun ty => Lib.run_next_end_at wr w.heap.size s pos ty hit hp
      have HF : Hid (G = false) := Lib.hid (by rw [HG.out, ← Hacc.out, ptsFrom_end s f pos hp, List.append_nil]; exact Hok.out)
      go_wp2_with fail
      go_ret
      exact ⟨-1, rfl, by rw [HF.out]; simp, hbw⟩

theorem any2 (s : ByteArray) (w : World) (hs : s.size ≤ 1000000) :
    Calls Tryd.prog 48 #[.string s, .string ⟨#[32, 10]⟩] w (IdxPost (gapB (bytesL s)) w) := by
  by_cases h : s.size ≤ 8
  · exact any2_short s w h
  · refine (Tryd.strings_IndexAny_long (fun w => by kernel_rfl) s ⟨#[32, 10]⟩ w (by decide) (by omega) (by omega) (by decide) ?_).mono ?_
    · intro j b hj
      match j, hj with
      | 0, hj => simp at hj; subst hj; decide
      | 1, hj => simp at hj; subst hj; decide
    · rintro e w' ⟨rfl, rfl⟩
      exact ⟨_, rfl, any_index _, ((Below.refl _ _).alloc (Nat.le_refl _) _).alloc (by simp) _⟩

set_option maxRecDepth 1000000 in
set_option maxHeartbeats 4000000 in
theorem containsAny2 (s : ByteArray) (w : World) (hs : s.size ≤ 1000000) :
    Calls Tryd.prog 30 #[.string s, .string ⟨#[32, 10]⟩] w fun e w' => e = .returned (.bool (gapB (bytesL s))) ∧ Below w.heap.size w w' := by
  have HC := Lib.hid fun W => any2 s W hs
  generalize gapB (bytesL s) = G at *
  go_enter Tryd.func30, Tryd.ntmps30
  go_wp2_with fail
  ((with_reducible refine (HC.out _).mono ?_))
  rintro e w1 ⟨n, rfl, hn, b1⟩
  have HN := Lib.hid hn
  clear hn
  go_wp2_with fail
  go_ret
  refine ⟨ret_bool ?_, b1⟩
  rw [Bool.eq_iff_iff, decide_eq_true_eq]
  exact HN.out
end Go.Proofs.YtepeaenbjgbnfaaDoor
