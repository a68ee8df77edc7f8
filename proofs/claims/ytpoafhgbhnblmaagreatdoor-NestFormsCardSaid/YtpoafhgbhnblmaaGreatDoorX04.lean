/-
  Texts of the proof, put together (what this law reaches): Enc, Pts, RefB, Fold.
-/
import GoSem.Core.Utf8
import Derived.Lib.UnsafeStr
import Derived.Lib.RuneBytes
import Derived.Test.YtpoafhgbhnblmaaGreatDoorX01
import Derived.Lib.RuneCount
set_option linter.unusedVariables false
set_option linter.unusedSimpArgs false
namespace Go.Pub
def bytesL (s : ByteArray) : List UInt8 := s.data.toList
def encL (c : Int) : List UInt8 := bytesL (Utf8.encode c)
def encN (c : Nat) : ByteArray :=
  if c < 0x80 then ⟨#[UInt8.ofNat c]⟩
  else if c < 0x800 then ⟨#[UInt8.ofNat (0xC0 + c / 64), UInt8.ofNat (0x80 + c % 64)]⟩
  else if c < 0x10000 then ⟨#[UInt8.ofNat (0xE0 + c / 4096), UInt8.ofNat (0x80 + c / 64 % 64), UInt8.ofNat (0x80 + c % 64)]⟩
  else ⟨#[UInt8.ofNat (0xF0 + c / 262144), UInt8.ofNat (0x80 + c / 4096 % 64), UInt8.ofNat (0x80 + c / 64 % 64), UInt8.ofNat (0x80 + c % 64)]⟩
theorem enc_encN (r : Int) : Utf8.encode r = encN (if Utf8.valid r = true then r.toNat else Utf8.runeError) := rfl
theorem enc_nat (n : Nat) (h : Utf8.valid (n : Int) = true) : Utf8.encode (n : Int) = encN n := by
  rw [enc_encN, if_pos h, Int.toNat_natCast]
theorem encN_one (n : Nat) (h : n < 128) : encN n = ⟨#[UInt8.ofNat n]⟩ := if_pos h
theorem encN_two (n : Nat) (h0 : ¬ n < 128) (h : n < 2048) : encN n = ⟨#[UInt8.ofNat (192 + n / 64), UInt8.ofNat (128 + n % 64)]⟩ := (if_neg h0).trans (if_pos h)
theorem encN_three (n : Nat) (h0 : ¬ n < 128) (h1 : ¬ n < 2048) (h : n < 65536) : encN n = ⟨#[UInt8.ofNat (224 + n / 4096), UInt8.ofNat (128 + n / 64 % 64), UInt8.ofNat (128 + n % 64)]⟩ := (if_neg h0).trans ((if_neg h1).trans (if_pos h))
theorem encN_four (n : Nat) (h0 : ¬ n < 128) (h1 : ¬ n < 2048) (h : ¬ n < 65536) : encN n = ⟨#[UInt8.ofNat (240 + n / 262144), UInt8.ofNat (128 + n / 4096 % 64), UInt8.ofNat (128 + n / 64 % 64), UInt8.ofNat (128 + n % 64)]⟩ := (if_neg h0).trans ((if_neg h1).trans (if_neg h))
theorem valid_of (n : Nat) (h : n < 55296 ∨ (57343 < n ∧ n ≤ 1114111)) : Utf8.valid (n : Int) = true := by
  unfold Utf8.valid
  rw [Bool.or_eq_true, Bool.and_eq_true, Bool.and_eq_true]
  simp only [decide_eq_true_eq]
  omega
theorem encL_nat (n : Nat) (h : Utf8.valid (n : Int) = true) : encL (n : Int) = bytesL (encN n) := congrArg bytesL (enc_nat n h)
theorem ofNat_toNat (n : Nat) (h : n < 256) : (UInt8.ofNat n).toNat = n := by simp; omega
theorem encCells_one (c : Int) (h0 : 0 ≤ c) (h : c < 128) : Lib.byteCells (encL c) = [.int .u8 c] := by
  obtain ⟨n, rfl⟩ := Int.eq_ofNat_of_zero_le h0
  rw [encL_nat n (valid_of n (by omega)), encN_one n (by omega)]
  simp only [bytesL, Lib.byteCells, List.map_cons, List.map_nil]
  rw [ofNat_toNat n (by omega)]
theorem encCells_two (c : Int) (h0 : 128 ≤ c) (h : c < 2048) : Lib.byteCells (encL c) = [.int .u8 (192 + c / 64), .int .u8 (128 + c % 64)] := by
  obtain ⟨n, rfl⟩ := Int.eq_ofNat_of_zero_le (show 0 ≤ c by omega)
  rw [encL_nat n (valid_of n (by omega)), encN_two n (by omega) (by omega)]
  simp only [bytesL, Lib.byteCells, List.map_cons, List.map_nil]
  rw [ofNat_toNat _ (by omega), ofNat_toNat _ (by omega)]
  simp
theorem encCells_three (c : Int) (h0 : 2048 ≤ c) (h : c < 65536) (hs : c < 55296 ∨ 57343 < c) : Lib.byteCells (encL c) = [.int .u8 (224 + c / 4096), .int .u8 (128 + c / 64 % 64), .int .u8 (128 + c % 64)] := by
  obtain ⟨n, rfl⟩ := Int.eq_ofNat_of_zero_le (show 0 ≤ c by omega)
  rw [encL_nat n (valid_of n (by omega)), encN_three n (by omega) (by omega) (by omega)]
  simp only [bytesL, Lib.byteCells, List.map_cons, List.map_nil]
  rw [ofNat_toNat _ (by omega), ofNat_toNat _ (by omega), ofNat_toNat _ (by omega)]
  simp
theorem encCells_four (c : Int) (h0 : 65536 ≤ c) (h : c ≤ 1114111) : Lib.byteCells (encL c) = [.int .u8 (240 + c / 262144), .int .u8 (128 + c / 4096 % 64), .int .u8 (128 + c / 64 % 64), .int .u8 (128 + c % 64)] := by
  obtain ⟨n, rfl⟩ := Int.eq_ofNat_of_zero_le (show 0 ≤ c by omega)
  rw [encL_nat n (valid_of n (by omega)), encN_four n (by omega) (by omega) (by omega)]
  simp only [bytesL, Lib.byteCells, List.map_cons, List.map_nil]
  rw [ofNat_toNat _ (by omega), ofNat_toNat _ (by omega), ofNat_toNat _ (by omega), ofNat_toNat _ (by omega)]
  simp
theorem encN_size (x : Nat) : 1 ≤ (bytesL (encN x)).length ∧ (bytesL (encN x)).length ≤ 4 := by
  by_cases h1 : x < 128
  · rw [encN_one x h1]; simp [bytesL]
  · by_cases h2 : x < 2048
    · rw [encN_two x h1 h2]; simp [bytesL]
    · by_cases h3 : x < 65536
      · rw [encN_three x h1 h2 h3]; simp [bytesL]
      · rw [encN_four x h1 h2 h3]; simp [bytesL]
theorem encL_length (c : Int) : 1 ≤ (encL c).length ∧ (encL c).length ≤ 4 := by
  unfold encL
  rw [enc_encN]
  exact encN_size _
theorem bytesL_mk (s : ByteArray) : s = ⟨(bytesL s).toArray⟩ := by unfold bytesL; simp
/-- The library's own words for the same bytes. -/
theorem encodeRune_eq (c : Int) : Lib.encodeRune c = encL c := by
  have key : ∀ l : List UInt8, Lib.byteCells (Lib.encodeRune c) = Lib.byteCells l → Lib.encodeRune c = l := by
    intro l h
    have inj : ∀ a b : List UInt8, Lib.byteCells a = Lib.byteCells b → a = b := by
      intro a
      induction a with
      | nil => intro b h; cases b with
        | nil => rfl
        | cons y b => simp [Lib.byteCells] at h
      | cons x a ih => intro b h; cases b with
        | nil => simp [Lib.byteCells] at h
        | cons y b =>
          simp only [Lib.byteCells, List.map_cons, List.cons.injEq, Value.int.injEq, true_and] at h
          have hx : x = y := UInt8.toNat_inj.1 (by omega)
          rw [hx, ih b h.2]
    exact inj _ _ h
  apply key
  rw [Lib.byteCells_encodeRune]
  by_cases h0 : c < 0 ∨ (55296 ≤ c ∧ c ≤ 57343) ∨ 1114111 < c
  · have hv : Utf8.valid c = false := by
      unfold Utf8.valid
      rw [Bool.or_eq_false_iff, Bool.and_eq_false_iff, Bool.and_eq_false_iff]
      simp only [decide_eq_false_iff_not]
      omega
    have e : encL c = encL ((65533 : Nat) : Int) := by
      unfold encL
      rw [enc_nat 65533 (valid_of 65533 (by omega)), enc_encN, hv, if_neg (by decide)]
      rfl
    rw [e, Lib.runeCells, Lib.encodeRuneZ_bad h0, encCells_three ((65533 : Nat) : Int) (by omega) (by omega) (by omega)]
    rfl
  · unfold Lib.runeCells
    by_cases h1 : c ≤ 127
    · rw [Lib.encodeRuneZ_one (by omega) h1, encCells_one c (by omega) (by omega)]; rfl
    · by_cases h2 : c ≤ 2047
      · rw [Lib.encodeRuneZ_two (by omega) h2, encCells_two c (by omega) (by omega)]; rfl
      · by_cases h3 : c ≤ 65535
        · rw [Lib.encodeRuneZ_three (by omega), encCells_three c (by omega) (by omega) (by omega)]; rfl
        · rw [Lib.encodeRuneZ_four (by omega) (by omega), encCells_four c (by omega) (by omega)]; rfl
end Go.Pub
namespace Go.Pub
theorem dec_bd (s : ByteArray) (i : Nat) (h : i < s.size) : 1 ≤ (Utf8.decode s i).2 ∧ (Utf8.decode s i).2 ≤ 4 ∧ i + (Utf8.decode s i).2 ≤ s.size ∧ (Utf8.decode s i).1 ≤ 1114111 := by
  have hb := bt_lt s i
  have h1 := bt_lt s (i + 1)
  have h2 := bt_lt s (i + 2)
  have h3 := bt_lt s (i + 3)
  rw [Lib.decode_at]
  show 1 ≤ (Lib.decodeN _ (bt s i) (bt s (i + 1)) (bt s (i + 2)) (bt s (i + 3))).2 ∧ (Lib.decodeN _ (bt s i) (bt s (i + 1)) (bt s (i + 2)) (bt s (i + 3))).2 ≤ 4 ∧ i + (Lib.decodeN _ (bt s i) (bt s (i + 1)) (bt s (i + 2)) (bt s (i + 3))).2 ≤ s.size ∧ (Lib.decodeN _ (bt s i) (bt s (i + 1)) (bt s (i + 2)) (bt s (i + 3))).1 ≤ 1114111
  unfold Lib.decodeN
  (repeat' split) <;> (simp only []; omega)
def ptsFrom (s : ByteArray) : Nat → Nat → List (Nat × Nat)
  | 0, _ => []
  | f + 1, pos => if pos < s.size then Utf8.decode s pos :: ptsFrom s f (pos + (Utf8.decode s pos).2) else []
def pts (s : ByteArray) : List (Nat × Nat) := ptsFrom s s.size 0
theorem ptsFrom_end (s : ByteArray) (f pos : Nat) (h : ¬ pos < s.size) : ptsFrom s f pos = [] := by
  cases f <;> simp [ptsFrom, h]
theorem ptsFrom_step (s : ByteArray) (f pos : Nat) (h : pos < s.size) (hf : s.size ≤ pos + f) : ptsFrom s f pos = Utf8.decode s pos :: ptsFrom s (f - 1) (pos + (Utf8.decode s pos).2) := by
  obtain ⟨g, rfl⟩ : ∃ g, f = g + 1 := ⟨f - 1, by omega⟩
  simp [ptsFrom, h]
theorem ptsFrom_length (s : ByteArray) : ∀ f pos, (ptsFrom s f pos).length ≤ s.size - pos
  | 0, _ => by simp [ptsFrom]
  | f + 1, pos => by
    unfold ptsFrom
    split
    · rename_i h
      have := ptsFrom_length s f (pos + (Utf8.decode s pos).2)
      have := dec_bd s pos h
      simp only [List.length_cons]; omega
    · simp
theorem pts_length (s : ByteArray) : (pts s).length ≤ s.size := by have := ptsFrom_length s s.size 0; unfold pts; omega
/-- A code point's two cells in memory. -/
def ptCells (l : List (Nat × Nat)) : List Value := l.flatMap fun p => [.int .i64 p.1, .int .i64 p.2]
theorem ptCells_append (l m : List (Nat × Nat)) : ptCells (l ++ m) = ptCells l ++ ptCells m := by simp [ptCells, List.flatMap_append]
theorem ptCells_at (l : List (Nat × Nat)) (k : Nat) (p : Nat × Nat) (h : l[k]? = some p) : (ptCells l)[k * 2]? = some (.int .i64 p.1) ∧ (ptCells l)[k * 2 + 1]? = some (.int .i64 p.2) := by
  induction l generalizing k with
  | nil => simp at h
  | cons q l ih =>
    cases k with
    | zero => simp only [List.getElem?_cons_zero, Option.some.injEq] at h; subst h; exact ⟨rfl, rfl⟩
    | succ k =>
      have := ih k (by simpa using h)
      have e : ptCells (q :: l) = .int .i64 q.1 :: .int .i64 q.2 :: ptCells l := rfl
      rw [e, show (k + 1) * 2 = k * 2 + 1 + 1 from by omega, show k * 2 + 1 + 1 + 1 = (k * 2 + 1) + 1 + 1 from rfl]
      simpa using this
end Go.Pub
namespace Go.Proofs.YtpoafhgbhnblmaaGreatDoor
open Go.RowKit Go.Pub
theorem dec_rest (s : ByteArray) (i : Nat) (h : ¬ bt s i < 128) (h2 : ¬ (194 ≤ bt s i ∧ bt s i ≤ 223)) (h3 : ¬ (224 ≤ bt s i ∧ bt s i ≤ 239)) (h4 : ¬ (240 ≤ bt s i ∧ bt s i ≤ 244)) : Utf8.decode s i = (65533, 1) :=
  dec_bad_width s i (by unfold wd; rw [if_neg h, if_neg h2, if_neg h3, if_neg h4])
set_option maxRecDepth 100000 in
set_option maxHeartbeats 4000000 in
theorem at_any (s : ByteArray) (i : Nat) (w : World) (hs : s.size ≤ 9223372036854775800) (hi : i < s.size) :
    Calls Tryz.prog 37 #[.string s, .int .i64 i] w (PointBelow (Utf8.decode s i).1 (Utf8.decode s i).2 w) := by
  have hbt := Lib.hid (get_bt s i hi)
  have hlt : ((s[i].toNat : Nat) : Int) < 256 := by rw [get_bt s i hi]; have := bt_lt s i; omega
  by_cases c1 : bt s i < 128
  · have hD := Lib.hid (dec_one s i c1)
    generalize Utf8.decode s i = D at *
    have q : ((s[i].toNat : Nat) : Int) < 128 := by rw [get_bt s i hi]; omega
    go_enter Tryz.func37, Tryz.ntmps37
    go_wp2
    exact bodyPost_ret (v := .agg #[.int .i64 ((s[i].toNat : Nat) : Int), .int .i64 1]) (by simp [results, Tryz.results37, go_sem]) rfl (pb_mk (by rw [hD.out, hbt.out]) (by rw [hD.out]; rfl) ((Below.refl _ _).alloc (Nat.le_refl _) _))
  have q : 128 ≤ ((s[i].toNat : Nat) : Int) := by rw [get_bt s i hi]; omega
  by_cases c2 : 194 ≤ bt s i ∧ bt s i ≤ 223
  · have hD := Lib.hid (dec_two s i hi c2)
    have m1 := mo_bd s (i + 1) 128 191 (by omega)
    generalize Utf8.decode s i = D at *
    generalize hx : mo s (i + 1) 128 191 = x at *
    have Hx := Lib.hid hx
    clear hx
    have q2 : 194 ≤ ((s[i].toNat : Nat) : Int) := by rw [get_bt s i hi]; omega
    have q3 : ((s[i].toNat : Nat) : Int) ≤ 223 := by rw [get_bt s i hi]; omega
    clear c1
    by_cases hx0 : x < 0
    · have hD2 := Lib.hid (hD.out.trans (if_pos hx0))
      go_enter Tryz.func37, Tryz.ntmps37
      go_wp2_with fail
      refine (more_at _ _ _ s (i + 1) 128 191 _ (by omega) (by decide) (by decide) (by omega) rfl rfl).mono ?_
      rw [Hx.out]
      rintro e w' ⟨rfl, rfl⟩
      go_wp2
      exact bodyPost_ret (v := .agg #[.int .i64 65533, .int .i64 1]) (by simp [results, Tryz.results37, go_sem]) rfl (pb_mk (by rw [hD2.out]; rfl) (by rw [hD2.out]; rfl) ((Below.refl _ _).alloc (Nat.le_refl _) _))
    · have hD2 := Lib.hid (hD.out.trans (if_neg hx0))
      go_enter Tryz.func37, Tryz.ntmps37
      go_wp2_with fail
      refine (more_at _ _ _ s (i + 1) 128 191 _ (by omega) (by decide) (by decide) (by omega) rfl rfl).mono ?_
      rw [Hx.out]
      rintro e w' ⟨rfl, rfl⟩
      go_wp2
      exact bodyPost_ret (v := .agg #[.int .i64 ((((s[i].toNat : Nat) : Int) - 192) * 64 + x), .int .i64 2]) (by simp [results, Tryz.results37, go_sem]) rfl (pb_mk (by rw [hD2.out, hbt.out]; simp only []; omega) (by rw [hD2.out]; rfl) ((Below.refl _ _).alloc (Nat.le_refl _) _))
  by_cases c3 : 224 ≤ bt s i ∧ bt s i ≤ 239
  · have q2 : 224 ≤ ((s[i].toNat : Nat) : Int) := by rw [get_bt s i hi]; omega
    have q3 : ((s[i].toNat : Nat) : Int) ≤ 239 := by rw [get_bt s i hi]; omega
    have h3 := fun w => three_any s i w hs hi c3
    have H3 := Lib.hid h3
    clear h3 c1 c2
    generalize Utf8.decode s i = D at *
    go_enter Tryz.func37, Tryz.ntmps37
    go_wp2_with fail
    refine (H3.out _).mono ?_
    rintro e w1 ⟨rfl, hb1⟩
    have hz := hb1.size
    have hc0 : w1.cell? ⟨w.heap.size, 0, none⟩ = some (.int .i64 0) := by rw [hb1.cell (p := ⟨w.heap.size, 0, none⟩) (by simp)]; simp
    have hc1 : w1.cell? ⟨w.heap.size, 1, none⟩ = some (.int .i64 0) := by rw [hb1.cell (p := ⟨w.heap.size, 1, none⟩) (by simp)]; simp
    have hf0 : w1.frozen? ⟨w.heap.size, 0, none⟩ = false := by rw [hb1.frozen (p := ⟨w.heap.size, 0, none⟩) (by simp)]; simp
    have hf1 : w1.frozen? ⟨w.heap.size, 1, none⟩ = false := by rw [hb1.frozen (p := ⟨w.heap.size, 1, none⟩) (by simp)]; simp
    have hbw : Below w.heap.size w w1 := ((Below.refl _ w).alloc (Nat.le_refl _) _).trans (hb1.mono (by simp))
    go_wp2
    exact bodyPost_ret (v := .agg #[.int .i64 D.1, .int .i64 D.2]) (by simp [results, Tryz.results37, go_sem, hc0, hc1]) rfl (pb_mk rfl rfl ((hbw.setCell (by simp) _).setCell (by simp) _))
  by_cases c4 : 240 ≤ bt s i ∧ bt s i ≤ 244
  · have q2 : 240 ≤ ((s[i].toNat : Nat) : Int) := by rw [get_bt s i hi]; omega
    have q3 : ((s[i].toNat : Nat) : Int) ≤ 244 := by rw [get_bt s i hi]; omega
    have h3 := fun w => four_any s i w hs hi c4
    have H3 := Lib.hid h3
    clear h3 c1 c2 c3
    generalize Utf8.decode s i = D at *
    go_enter Tryz.func37, Tryz.ntmps37
    go_wp2_with fail
    refine (H3.out _).mono ?_
    rintro e w1 ⟨rfl, hb1⟩
    have hz := hb1.size
    have hc0 : w1.cell? ⟨w.heap.size, 0, none⟩ = some (.int .i64 0) := by rw [hb1.cell (p := ⟨w.heap.size, 0, none⟩) (by simp)]; simp
    have hc1 : w1.cell? ⟨w.heap.size, 1, none⟩ = some (.int .i64 0) := by rw [hb1.cell (p := ⟨w.heap.size, 1, none⟩) (by simp)]; simp
    have hf0 : w1.frozen? ⟨w.heap.size, 0, none⟩ = false := by rw [hb1.frozen (p := ⟨w.heap.size, 0, none⟩) (by simp)]; simp
    have hf1 : w1.frozen? ⟨w.heap.size, 1, none⟩ = false := by rw [hb1.frozen (p := ⟨w.heap.size, 1, none⟩) (by simp)]; simp
    have hbw : Below w.heap.size w w1 := ((Below.refl _ w).alloc (Nat.le_refl _) _).trans (hb1.mono (by simp))
    go_wp2
    exact bodyPost_ret (v := .agg #[.int .i64 D.1, .int .i64 D.2]) (by simp [results, Tryz.results37, go_sem, hc0, hc1]) rfl (pb_mk rfl rfl ((hbw.setCell (by simp) _).setCell (by simp) _))
  have hD := Lib.hid (dec_rest s i c1 c2 c3 c4)
  generalize Utf8.decode s i = D at *
  have c5 : bt s i < 194 ∨ 244 < bt s i := by omega
  clear c2 c3 c4 c1
  rcases c5 with c5 | c5
  · have q2 : ((s[i].toNat : Nat) : Int) < 194 := by rw [get_bt s i hi]; omega
    go_enter Tryz.func37, Tryz.ntmps37
    go_wp2
    exact bodyPost_ret (v := .agg #[.int .i64 65533, .int .i64 1]) (by simp [results, Tryz.results37, go_sem]) rfl (pb_mk (by rw [hD.out]; rfl) (by rw [hD.out]; rfl) ((Below.refl _ _).alloc (Nat.le_refl _) _))
  · have q2 : 244 < ((s[i].toNat : Nat) : Int) := by rw [get_bt s i hi]; omega
    go_enter Tryz.func37, Tryz.ntmps37
    go_wp2
    exact bodyPost_ret (v := .agg #[.int .i64 65533, .int .i64 1]) (by simp [results, Tryz.results37, go_sem]) rfl (pb_mk (by rw [hD.out]; rfl) (by rw [hD.out]; rfl) ((Below.refl _ _).alloc (Nat.le_refl _) _))

end Go.Proofs.YtpoafhgbhnblmaaGreatDoor
namespace Go.Pub
def spaceB (c : Int) : Bool := c == 32 || c == 10
def uncleanB (c : Int) : Bool := (decide (c < 32) && c != 10) || c == 127
def lowerZ (c : Int) : Int :=
  if (65 ≤ c ∧ c ≤ 90) ∨ (192 ≤ c ∧ c ≤ 222 ∧ c ≠ 215) ∨ (913 ≤ c ∧ c ≤ 939 ∧ c ≠ 930) ∨ (1040 ≤ c ∧ c ≤ 1071) then c + 32 else if 1024 ≤ c ∧ c ≤ 1039 then c + 80 else c
theorem lowerZ_bd (c : Int) (h0 : 0 ≤ c) (h : c ≤ 1114111) : 0 ≤ lowerZ c ∧ lowerZ c ≤ 1114111 := by unfold lowerZ; (repeat' split) <;> omega
/-- Fold's state: whether white space is pending, and what is written. -/
def foldP (gap : Bool) (acc : List UInt8) : List (Nat × Nat) → List UInt8
  | [] => acc
  | p :: l => if spaceB p.1 then foldP true acc l else foldP false (acc ++ ((if gap && !acc.isEmpty then [32] else []) ++ encL (lowerZ p.1))) l
def foldL (s : ByteArray) : List UInt8 := foldP false [] (pts s)
end Go.Pub
