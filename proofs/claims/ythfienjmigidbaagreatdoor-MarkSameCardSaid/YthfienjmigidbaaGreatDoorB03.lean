/-
  Texts of the proof, put together: CharsA, CharsB, PureC, LinkP.
-/
import Derived.Test.YthfienjmigidbaaGreatDoorB02
import Derived.Test.YthfienjmigidbaaGreatDoorB01
import Derived.Lib.RuneBytes
set_option linter.unusedVariables false
set_option linter.unusedSimpArgs false
namespace Go.Pub
def digitB (c : Int) : Bool := decide (48 ≤ c) && decide (c ≤ 57)
def inB (c : Int) (l : List (Int × Int)) : Bool := l.any fun r => decide (r.1 ≤ c) && decide (c ≤ r.2)
def punctL : List (Int × Int) := [(33, 47), (58, 64), (91, 96), (123, 126), (161, 169), (171, 180), (182, 185), (187, 191), (215, 215), (247, 247), (8208, 8231), (8240, 8286), (12289, 12291)]
def letterL : List (Int × Int) := [(65, 90), (97, 122), (170, 170), (181, 181), (186, 186), (192, 214), (216, 246), (248, 687), (880, 1327), (4256, 4351), (7680, 8191), (12353, 12538), (19968, 40959), (44032, 55203)]
end Go.Pub
namespace Go.Proofs.YthfienjmigidbaaGreatDoor
open Go.RowKit Go.Pub

theorem wd_cases (b : Nat) : wd b = 0 ∨ (wd b = 1 ∧ b < 128) ∨ wd b = 2 ∨ wd b = 3 ∨ wd b = 4 := by
  unfold wd; (repeat' split) <;> simp_all

theorem next_any (s : ByteArray) (i : Int) (w : World) (hs : s.size ≤ 9223372036854775807) :
    Calls Tryz.prog 168 #[.string s, .int .i64 i] w (PairQuiet (nextAt s i).1 (nextAt s i).2 w) := by
  by_cases h : 0 ≤ i ∧ i < s.size
  · obtain ⟨k, rfl⟩ := Int.eq_ofNat_of_zero_le h.1
    have hk : k < s.size := by omega
    rw [nextAt_in s k hk]
    by_cases c0 : wd (bt s k) = 0
    · rw [dec_bad_width s k c0]; exact next_bad s k w hs hk (.inl c0)
    by_cases c1 : bt s k < 128
    · rw [dec_one s k c1]; exact next_one s k w hs hk c1
    have hw : wd (bt s k) = 2 ∨ wd (bt s k) = 3 ∨ wd (bt s k) = 4 := by
      rcases wd_cases (bt s k) with h | h | h
      · exact absurd h c0
      · exact absurd h.2 c1
      · exact h
    by_cases c2 : s.size - k < wd (bt s k)
    · rw [dec_short s k hk (by omega) c2]; exact next_bad s k w hs hk (.inr c2)
    by_cases c3 : bt s (k + 1) < lo (bt s k) ∨ Pub.hi (bt s k) < bt s (k + 1)
    · rw [dec_second s k (by omega) c3]; exact next_second s k w hs hk (by omega) (by omega) c3
    · exact next_more s k (wd (bt s k)) w hs hk rfl hw (by omega) (by omega) (by omega)
  · rw [nextAt_out s i h]; exact next_out s i w hs h

set_option maxRecDepth 100000 in
set_option maxHeartbeats 400000 in
theorem space_any (c : Int) (w : World) : Calls Tryz.prog 69 #[.int .i64 c] w fun e w' => e = .returned (.bool (spaceB c)) ∧ w = w' := by
  have H : Hid (spaceB c = (c == 32 || c == 10)) := Lib.hid rfl
  generalize spaceB c = b at *
  go_enter Tryz.func69, Tryz.ntmps69
  go_wp2
  all_goals
    go_ret
    exact ⟨ret_bool (by rw [H.out] <;> simp_all), rfl⟩

set_option maxRecDepth 100000 in
set_option maxHeartbeats 400000 in
theorem digit_any (c : Int) (w : World) : Calls Tryz.prog 65 #[.int .i64 c] w fun e w' => e = .returned (.bool (digitB c)) ∧ w = w' := by
  have H : Hid (digitB c = (decide (48 ≤ c) && decide (c ≤ 57))) := Lib.hid rfl
  generalize digitB c = b at *
  by_cases h : 48 ≤ c
  all_goals
    go_enter Tryz.func65, Tryz.ntmps65
    go_wp2
  all_goals
    go_ret
    exact ⟨ret_bool (by rw [H.out]; first | rfl | (simp; omega)), rfl⟩

set_option maxRecDepth 100000 in
set_option maxHeartbeats 400000 in
theorem unclean_any (c : Int) (w : World) : Calls Tryz.prog 169 #[.int .i64 c] w fun e w' => e = .returned (.bool (uncleanB c)) ∧ w = w' := by
  have H : Hid (uncleanB c = ((decide (c < 32) && c != 10) || c == 127)) := Lib.hid rfl
  generalize uncleanB c = b at *
  by_cases h : c < 32
  · by_cases h2 : c = 10
    · subst h2
      go_enter Tryz.func169, Tryz.ntmps169
      go_wp2
      go_ret
      exact ⟨ret_bool (by rw [H.out]; rfl), rfl⟩
    · have h3 : (c != 10) = true := by simpa using h2
      clear h2
      go_enter Tryz.func169, Tryz.ntmps169
      go_wp2
      go_ret
      exact ⟨ret_bool (by rw [H.out, h3]; simp [h]), rfl⟩
  · go_enter Tryz.func169, Tryz.ntmps169
    go_wp2
    go_ret
    exact ⟨ret_bool (by rw [H.out]; simp [show ¬ c < 32 by omega]), rfl⟩

set_option maxRecDepth 100000 in
set_option maxHeartbeats 2000000 in
theorem lower_any (c : Int) (w : World) : Calls Tryz.prog 73 #[.int .i64 c] w fun e w' => e = .returned (.int .i64 (lowerZ c)) ∧ w = w' := by
  have H : Hid (lowerZ c = if (65 ≤ c ∧ c ≤ 90) ∨ (192 ≤ c ∧ c ≤ 222 ∧ c ≠ 215) ∨ (913 ≤ c ∧ c ≤ 939 ∧ c ≠ 930) ∨ (1040 ≤ c ∧ c ≤ 1071) then c + 32 else if 1024 ≤ c ∧ c ≤ 1039 then c + 80 else c) := Lib.hid rfl
  generalize lowerZ c = b at *
  go_enter Tryz.func73, Tryz.ntmps73
  go_wp2
  all_goals
    go_ret
    refine ⟨ret_int ?_, rfl⟩
    rw [H.out]
    try simp only [beq_iff_eq, bne_iff_ne, beq_eq_false_iff_ne, bne_eq_false_iff_eq, ne_eq] at *
    (repeat' split) <;> omega

end Go.Proofs.YthfienjmigidbaaGreatDoor
namespace Go.Proofs.YthfienjmigidbaaGreatDoor
open Go.RowKit Go.Pub

theorem encode_bad (c : Int) (h : c < 0 ∨ 1114111 < c ∨ (55296 ≤ c ∧ c ≤ 57343)) : Utf8.encode c = Utf8.encode 65533 := by
  have hv : Utf8.valid c = false := by unfold Utf8.valid; simp; omega
  have hv' : Utf8.valid 65533 = true := by decide
  unfold Utf8.encode
  simp only [hv, hv', Bool.false_eq_true, if_false, if_true, Utf8.runeError, show (65533 : Int).toNat = 65533 from rfl]

theorem encode_size (c : Int) : 1 ≤ (Utf8.encode c).size ∧ (Utf8.encode c).size ≤ 4 := by
  unfold Utf8.encode
  simp only []
  generalize (if Utf8.valid c = true then c.toNat else Utf8.runeError) = x
  (repeat' split) <;> simp [ByteArray.size]


/-- A code point that clean text can have. -/
def okPt (p : Nat × Nat) : Bool := !(p.1 == 65533 && p.2 == 1) && !uncleanB p.1
def validB (s : ByteArray) : Bool := (pts s).all okPt

set_option maxRecDepth 100000 in
set_option maxHeartbeats 4000000 in
theorem valid_any (s : ByteArray) (w : World) (hs : s.size < 9223372036854775800) : Calls Tryz.prog 164 #[.string s] w fun e w' => e = .returned (.bool (validB s)) ∧ Below w.heap.size w w' := by
  have HV : Hid (validB s = (pts s).all okPt) := Lib.hid rfl
  generalize validB s = V at *
  go_enter Tryz.func164, Tryz.ntmps164
  go_wp2
  go_loopw [3] (fun i wr => ∃ (pos f : Nat) (acc : List (Nat × Nat)), i = .int .i64 pos ∧ Below w.heap.size w wr ∧ acc ++ ptsFrom s f pos = pts s ∧ acc.all okPt = true ∧ s.size ≤ pos + f ∧ pos ≤ s.size) (fun i _ => s.size - (intOf i).toNat)
  case atStart =>
    exact ⟨0, s.size, [], rfl, Below.refl _ w, rfl, rfl, by omega, by omega⟩
  case round =>
    obtain ⟨pos, f, acc, rfl, hbw, hacc, hok, hf, hal⟩ := hrel
    have Hacc := Lib.hid hacc
    have Hok := Lib.hid hok
    clear hacc hok
    by_cases hp : pos < s.size
    · have hd := dec_bd s pos hp
      have HN : Hid (∀ W, Calls Tryz.prog 168 #[.string s, .int .i64 pos] W (PairQuiet (Utf8.decode s pos).1 (Utf8.decode s pos).2 W)) := Lib.hid fun W => by
        have h := next_any s pos W (by omega)
        rw [nextAt_in s pos hp] at h
        exact h
      have hall : Hid (pts s = (acc ++ [Utf8.decode s pos]) ++ ptsFrom s (f - 1) (pos + (Utf8.decode s pos).2)) := Lib.hid (by rw [← Hacc.out, ptsFrom_step s f pos hp hf]; simp)
      have hokp : Hid (okPt (Utf8.decode s pos) = (!((Utf8.decode s pos).1 == 65533 && (Utf8.decode s pos).2 == 1) && !uncleanB (Utf8.decode s pos).1)) := Lib.hid rfl
      generalize Utf8.decode s pos = D at *
      have fals : okPt D = false → V = false := fun h => by rw [HV.out, hall.out]; simp [h]
      have Hfals := Lib.hid fals
      clear fals
      by_cases c1 : ((D.1 : Int) == 65533) = true
      · by_cases c2 : ((D.2 : Int) == 1) = true
        · have hv : okPt D = false := by rw [hokp.out]; simp at c1 c2; simp; omega
          have Hv := Lib.hid hv
          clear hv
          go_wp2_with (go_at_call 168; refine (HN.out _).mono ?_; rintro e w' ⟨rfl, kq, rfl⟩)
          go_ret
          exact ⟨ret_bool (Hfals.out Hv.out).symm, below_drewN hbw _⟩
        · rw [Bool.not_eq_true] at c2
          by_cases c3 : uncleanB D.1 = true
          · have Hv : Hid (okPt D = false) := Lib.hid (by rw [hokp.out, c3]; simp)
            go_wp2_with (first | (go_at_call 168; refine (HN.out _).mono ?_; rintro e w' ⟨rfl, kq, rfl⟩) | (go_at_call 169; refine (unclean_any _ _).mono ?_; rintro e w' ⟨rfl, rfl⟩))
            go_ret
            exact ⟨ret_bool (Hfals.out Hv.out).symm, below_drewN hbw _⟩
          · rw [Bool.not_eq_true] at c3
            have Hv : Hid (okPt D = true) := Lib.hid (by rw [hokp.out, c3]; simp at c1 c2; simp; omega)
            go_wp2_with (first | (go_at_call 168; refine (HN.out _).mono ?_; rintro e w' ⟨rfl, kq, rfl⟩) | (go_at_call 169; refine (unclean_any _ _).mono ?_; rintro e w' ⟨rfl, rfl⟩))
            go_roundw
            case rel => exact ⟨pos + D.2, f - 1, acc ++ [D], by go_num, below_drewN hbw _, hall.out.symm, by rw [List.all_append, Hok.out]; simp [Hv.out], by omega, by omega⟩
            case measure => simp [intOf]; omega
      · rw [Bool.not_eq_true] at c1
        by_cases c3 : uncleanB D.1 = true
        · have Hv : Hid (okPt D = false) := Lib.hid (by rw [hokp.out, c3]; simp)
          go_wp2_with (first | (go_at_call 168; refine (HN.out _).mono ?_; rintro e w' ⟨rfl, kq, rfl⟩) | (go_at_call 169; refine (unclean_any _ _).mono ?_; rintro e w' ⟨rfl, rfl⟩))
          go_ret
          exact ⟨ret_bool (Hfals.out Hv.out).symm, below_drewN hbw _⟩
        · rw [Bool.not_eq_true] at c3
          have Hv : Hid (okPt D = true) := Lib.hid (by rw [hokp.out, c3]; simp at c1; simp; omega)
          go_wp2_with (first | (go_at_call 168; refine (HN.out _).mono ?_; rintro e w' ⟨rfl, kq, rfl⟩) | (go_at_call 169; refine (unclean_any _ _).mono ?_; rintro e w' ⟨rfl, rfl⟩))
          go_roundw
          case rel => exact ⟨pos + D.2, f - 1, acc ++ [D], by go_num, below_drewN hbw _, hall.out.symm, by rw [List.all_append, Hok.out]; simp [Hv.out], by omega, by omega⟩
          case measure => simp [intOf]; omega
    · have hv : V = true := by rw [HV.out, ← Hacc.out, ptsFrom_end s f pos hp, List.append_nil]; exact Hok.out
      have Hv := Lib.hid hv
      clear hv
      go_wp2
      go_ret
      exact ⟨ret_bool Hv.out.symm, hbw⟩
end Go.Proofs.YthfienjmigidbaaGreatDoor
namespace Go.Pub
open Go.Proofs.YthfienjmigidbaaGreatDoor

def enc (c : Nat) : List UInt8 := encL (c : Int)
def withLen (c : Nat) : Nat × Nat := (c, (enc c).length)
theorem pts_mk (l : List UInt8) : pts (mk l) = ptsL l := by rw [pts_ptsL, bytesL_mk']
theorem pts_enc (cs : List Nat) (h : ∀ c ∈ cs, Scalar c) : pts (mk (cs.flatMap enc)) = cs.map withLen := by rw [pts_mk]; exact ptsL_enc cs h
theorem pts_scalar (s : ByteArray) : ∀ p ∈ pts s, Scalar p.1 := by rw [pts_ptsL]; exact ptsL_scalar _ _ (Nat.le_refl _)
theorem enc_65533 : (enc 65533).length = 3 := by decide +kernel

theorem okPt_len (c : Nat) (h : uncleanB c = false) : okPt (withLen c) = true := by
  unfold okPt withLen
  by_cases e : c = 65533
  · subst e
    simp only [enc_65533, h]; rfl
  · simp [h, e]

/-- The code points that Clean writes. -/
def cleanPc (c : Nat) (next : Bool) : List Nat := if c = 13 then (if next then [] else [10]) else if c = 9 then [32, 32, 32, 32] else if uncleanB c then [65533] else [c]
def cleanCs : List (Nat × Nat) → List Nat
  | [] => []
  | p :: l => cleanPc p.1 (headLF l) ++ cleanCs l
theorem enc_lf : enc 10 = [10] := by decide +kernel
theorem enc_sp : enc 32 = [32] := by decide +kernel
theorem cleanPiece_enc (c : Nat) (b : Bool) : cleanPiece c b = (cleanPc c b).flatMap enc := by
  unfold cleanPiece cleanPc
  (repeat' split) <;> simp [enc_lf, enc_sp] <;> rfl
theorem cleanP_enc (l : List (Nat × Nat)) : cleanP l = (cleanCs l).flatMap enc := by
  induction l with
  | nil => rfl
  | cons p l ih =>
    show cleanPiece p.1 (headLF l) ++ cleanP l = _
    rw [cleanPiece_enc, ih, ← List.flatMap_append]; rfl
theorem cleanPc_good (c : Nat) (b : Bool) (h : Scalar c) : ∀ d ∈ cleanPc c b, Scalar d ∧ uncleanB d = false := by
  intro d hd
  unfold cleanPc at hd
  split at hd
  · split at hd
    · simp at hd
    · simp at hd; subst hd; exact ⟨Or.inl (by omega), by decide⟩
  · split at hd
    · simp at hd; subst hd; exact ⟨Or.inl (by omega), by decide⟩
    · split at hd
      · simp at hd; subst hd; exact ⟨Or.inr (by omega), by decide⟩
      · rename_i hu
        simp at hd; subst hd
        exact ⟨h, by simpa using hu⟩
theorem cleanCs_good (l : List (Nat × Nat)) (h : ∀ p ∈ l, Scalar p.1) : ∀ d ∈ cleanCs l, Scalar d ∧ uncleanB d = false := by
  induction l with
  | nil => intro d hd; simp [cleanCs] at hd
  | cons p l ih =>
    intro d hd
    simp only [cleanCs, List.mem_append] at hd
    rcases hd with hd | hd
    · exact cleanPc_good _ _ (h p (by simp)) d hd
    · exact ih (fun q hq => h q (by simp [hq])) d hd
theorem cleanPc_same (c : Nat) (b : Bool) (h : uncleanB c = false) : cleanPc c b = [c] := by
  have h1 : c ≠ 13 := by rintro rfl; exact absurd h (by decide)
  have h2 : c ≠ 9 := by rintro rfl; exact absurd h (by decide)
  simp [cleanPc, h1, h2, h]
theorem cleanCs_same (l : List (Nat × Nat)) (h : ∀ p ∈ l, uncleanB p.1 = false) : cleanCs l = l.map (·.1) := by
  induction l with
  | nil => rfl
  | cons p l ih =>
    show cleanPc p.1 (headLF l) ++ cleanCs l = _
    rw [cleanPc_same _ _ (h p (by simp)), ih (fun q hq => h q (by simp [hq]))]; rfl
theorem map_withLen (cs : List Nat) : (cs.map withLen).map (·.1) = cs := by simp [withLen, Function.comp_def]

theorem cleanL_cs (s : ByteArray) : cleanL s = (cleanCs (pts s)).flatMap enc := cleanP_enc _
theorem pts_cleanL (s : ByteArray) : pts (mk (cleanL s)) = (cleanCs (pts s)).map withLen := by
  rw [cleanL_cs]; exact pts_enc _ fun c hc => (cleanCs_good _ (pts_scalar s) c hc).1
theorem valid_clean (s : ByteArray) : validB (mk (cleanL s)) = true := by
  unfold validB
  rw [pts_cleanL, List.all_eq_true]
  intro p hp
  obtain ⟨c, hc, rfl⟩ := List.mem_map.1 hp
  exact okPt_len c (cleanCs_good _ (pts_scalar s) c hc).2
theorem clean_clean (s : ByteArray) : cleanL (mk (cleanL s)) = cleanL s := by
  rw [cleanL_cs (mk (cleanL s)), pts_cleanL, cleanCs_same, map_withLen, ← cleanL_cs]
  intro p hp
  obtain ⟨c, hc, rfl⟩ := List.mem_map.1 hp
  exact (cleanCs_good _ (pts_scalar s) c hc).2
theorem valid_pts (s : ByteArray) (h : validB s = true) : ∀ p ∈ pts s, p ≠ (65533, 1) ∧ uncleanB p.1 = false := by
  unfold validB at h
  rw [List.all_eq_true] at h
  intro p hp
  have := h p hp
  unfold okPt at this
  simp only [Bool.and_eq_true, Bool.not_eq_true', Bool.and_eq_false_iff] at this
  refine ⟨?_, this.2⟩
  rintro rfl
  simp at this
theorem pts_back (s : ByteArray) (h : ∀ p ∈ pts s, p ≠ (65533, 1)) : ((pts s).map (·.1)).flatMap enc = bytesL s := by
  rw [pts_ptsL] at h ⊢
  have := ptsL_back _ (bytesL s) (Nat.le_refl _) h
  rw [List.flatMap_map]; exact this
theorem clean_valid (s : ByteArray) (h : validB s = true) : cleanL s = bytesL s := by
  have hv := valid_pts s h
  rw [cleanL_cs, cleanCs_same _ fun p hp => (hv p hp).2, pts_back s fun p hp => (hv p hp).1]

/-- The code points that Fold writes, if a gap is pending and something has been written. -/
def low (c : Nat) : Nat := (lowerZ c).toNat
def outC (g ne : Bool) : List Nat → List Nat
  | [] => []
  | c :: l => if spaceB c then outC true ne l else (if g && ne then [32] else []) ++ low c :: outC false true l
theorem lowerZ_nonneg (c : Nat) : 0 ≤ lowerZ c := by unfold lowerZ; (repeat' split) <;> omega
theorem low_int (c : Nat) : ((low c : Nat) : Int) = lowerZ c := Int.toNat_of_nonneg (lowerZ_nonneg c)
theorem low_enc (c : Nat) : encL (lowerZ c) = enc (low c) := congrArg encL (low_int c).symm
theorem enc_ne (c : Nat) : enc c ≠ [] := by
  intro h
  have := (encL_length (c : Int)).1
  have e : (enc c).length = (encL (c : Int)).length := rfl
  rw [h] at e
  simp only [List.length_nil] at e
  omega
theorem foldP_cons (g : Bool) (acc : List UInt8) (p : Nat × Nat) (l : List (Nat × Nat)) : foldP g acc (p :: l) = if spaceB p.1 then foldP true acc l else foldP false (acc ++ ((if g && !acc.isEmpty then [32] else []) ++ enc (low p.1))) l := by
  rw [← low_enc]; rfl
theorem outC_cons (g ne : Bool) (c : Nat) (l : List Nat) : outC g ne (c :: l) = if spaceB c then outC true ne l else (if g && ne then [32] else []) ++ low c :: outC false true l := rfl
theorem foldP_out (l : List (Nat × Nat)) : ∀ (g : Bool) (acc : List UInt8), foldP g acc l = acc ++ (outC g (!acc.isEmpty) (l.map (·.1))).flatMap enc := by
  induction l with
  | nil => intro g acc; simp [foldP, outC]
  | cons p l ih =>
    intro g acc
    rw [List.map_cons, foldP_cons, outC_cons]
    by_cases hs : spaceB p.1 = true
    · rw [if_pos hs, if_pos hs, ih]
    · rw [if_neg hs, if_neg hs, ih, List.flatMap_append, List.flatMap_cons]
      have h32 : ∀ b : Bool, (if b = true then ([32] : List Nat) else []).flatMap enc = if b = true then [32] else [] := by
        intro b
        cases b
        · rfl
        · rw [if_pos rfl, if_pos rfl, List.flatMap_cons, List.flatMap_nil, enc_sp]; rfl
      rw [h32]
      have hE := enc_ne (low p.1)
      generalize enc (low p.1) = E at *
      have hne : (acc ++ ((if (g && !acc.isEmpty) = true then [32] else []) ++ E)).isEmpty = false := by
        cases E with
        | nil => exact absurd rfl hE
        | cons a b => simp
      rw [hne]
      simp only [List.append_assoc]; rfl
def foldC (cs : List Nat) : List Nat := outC false false cs
theorem foldL_out (s : ByteArray) : foldL s = (foldC ((pts s).map (·.1))).flatMap enc := by
  unfold foldL
  rw [foldP_out]; rfl
theorem low_low (c : Nat) : low (low c) = low c := by
  have key : lowerZ (lowerZ c) = lowerZ c := by
    generalize (c : Int) = z
    have h := show lowerZ z = if (65 ≤ z ∧ z ≤ 90) ∨ (192 ≤ z ∧ z ≤ 222 ∧ z ≠ 215) ∨ (913 ≤ z ∧ z ≤ 939 ∧ z ≠ 930) ∨ (1040 ≤ z ∧ z ≤ 1071) then z + 32 else if 1024 ≤ z ∧ z ≤ 1039 then z + 80 else z from rfl
    rw [h]
    unfold lowerZ
    (repeat' split) <;> omega
  unfold low
  have h : 0 ≤ lowerZ c := by unfold lowerZ; (repeat' split) <;> omega
  rw [Int.toNat_of_nonneg h, key]
theorem low_space (c : Nat) : spaceB (low c) = spaceB c := by
  have h : (low c : Int) = lowerZ c := by
    unfold low
    rw [Int.toNat_of_nonneg (by unfold lowerZ; (repeat' split) <;> omega)]
  unfold spaceB
  rw [h]
  unfold lowerZ
  (repeat' split) <;> first | rfl | (rw [Bool.eq_iff_iff]; simp; omega)
theorem low_scalar (c : Nat) (h : Scalar c) : Scalar (low c) := by
  have e : (low c : Int) = lowerZ c := by
    unfold low
    rw [Int.toNat_of_nonneg (by unfold lowerZ; (repeat' split) <;> omega)]
  unfold Scalar at *
  have : lowerZ c = c ∨ (lowerZ c ≤ 2000 ∧ 0 ≤ lowerZ c) := by unfold lowerZ; (repeat' split) <;> omega
  omega
theorem low_unclean (c : Nat) (h : uncleanB c = false) : uncleanB (low c) = false := by
  have e : (low c : Int) = lowerZ c := by
    unfold low
    rw [Int.toNat_of_nonneg (by unfold lowerZ; (repeat' split) <;> omega)]
  unfold uncleanB at *
  rw [e]
  have : lowerZ c = c ∨ 128 ≤ lowerZ c ∨ (97 ≤ lowerZ c ∧ lowerZ c ≤ 122) := by unfold lowerZ; (repeat' split) <;> omega
  rcases this with h1 | h1
  · rw [h1]; exact h
  · simp; omega
theorem outC_good (cs : List Nat) (P : Nat → Prop) (h32 : P 32) (hl : ∀ c, P c → P (low c)) : ∀ (g ne : Bool), (∀ c ∈ cs, spaceB c = true ∨ P c) → ∀ d ∈ outC g ne cs, P d := by
  induction cs with
  | nil => intro g ne _ d hd; simp [outC] at hd
  | cons c cs ih =>
    intro g ne h d hd
    simp only [outC] at hd
    by_cases hs : spaceB c = true
    · rw [if_pos hs] at hd; exact ih _ _ (fun x hx => h x (by simp [hx])) d hd
    · rw [if_neg hs] at hd
      rcases List.mem_append.1 hd with hd | hd
      · split at hd
        · simp at hd; subst hd; exact h32
        · simp at hd
      · rcases List.mem_cons.1 hd with rfl | hd
        · rcases h c (by simp) with h' | h'
          · exact absurd h' hs
          · exact hl c h'
        · exact ih _ _ (fun x hx => h x (by simp [hx])) d hd
theorem outC_false (cs : List Nat) : ∀ g g' : Bool, outC g false cs = outC g' false cs := by
  induction cs with
  | nil => intros; rfl
  | cons c cs ih =>
    intro g g'
    simp only [outC, Bool.and_false]
/-- Folding what is folded. -/
theorem outC_twice (cs : List Nat) : outC false true (outC false true cs) = outC false true cs ∧ outC false true (outC true true cs) = outC true true cs := by
  induction cs with
  | nil => exact ⟨rfl, rfl⟩
  | cons c cs ih =>
    have hl : ∀ X, outC false true (low c :: X) = if spaceB c = true then outC true true X else low c :: outC false true X := fun X => by
      simp only [outC, low_space, low_low, Bool.false_and]; rfl
    by_cases hs : spaceB c = true
    · have e1 : outC false true (c :: cs) = outC true true cs := by simp [outC, hs]
      have e2 : outC true true (c :: cs) = outC true true cs := by simp [outC, hs]
      rw [e1, e2]; exact ⟨ih.2, ih.2⟩
    · have e1 : outC false true (c :: cs) = low c :: outC false true cs := by simp [outC, hs]
      have e2 : outC true true (c :: cs) = 32 :: low c :: outC false true cs := by simp [outC, hs]
      rw [e1, e2]
      refine ⟨by rw [hl, if_neg hs, ih.1], ?_⟩
      have e3 : ∀ X, outC false true (32 :: X) = outC true true X := fun X => by simp [outC, show spaceB 32 = true from by decide]
      have e4 : ∀ X, outC true true (low c :: X) = 32 :: low c :: outC false true X := fun X => by simp [outC, low_space, hs, low_low]
      rw [e3, e4, ih.1]
theorem outC_fold (cs : List Nat) (ne : Bool) : outC true ne (foldC cs) = outC true ne cs := by
  unfold foldC
  induction cs with
  | nil => rfl
  | cons c cs ih =>
    by_cases hs : spaceB c = true
    · have e1 : outC false false (c :: cs) = outC false false cs := by simp only [outC, if_pos hs]; exact outC_false cs true false
      have e2 : outC true ne (c :: cs) = outC true ne cs := by simp [outC, hs]
      rw [e1, e2, ih]
    · have e1 : outC false false (c :: cs) = low c :: outC false true cs := by simp [outC, hs]
      rw [e1]
      simp only [outC, low_space, low_low, if_neg hs, (outC_twice cs).1]
theorem foldC_fold (cs : List Nat) : foldC (foldC cs) = foldC cs := by
  have := outC_fold cs false
  rw [outC_false _ true false] at this
  unfold foldC at *
  rw [this, outC_false cs true false]
theorem foldC_scalar (cs : List Nat) (h : ∀ c ∈ cs, Scalar c) : ∀ d ∈ foldC cs, Scalar d :=
  outC_good cs Scalar (Or.inl (by omega)) low_scalar _ _ fun c hc => Or.inr (h c hc)
theorem codes_scalar (s : ByteArray) : ∀ c ∈ (pts s).map (·.1), Scalar c := by
  intro c hc
  obtain ⟨p, hp, rfl⟩ := List.mem_map.1 hc
  exact pts_scalar s p hp
theorem pts_foldL (s : ByteArray) : pts (mk (foldL s)) = (foldC ((pts s).map (·.1))).map withLen := by
  rw [foldL_out]; exact pts_enc _ (foldC_scalar _ (codes_scalar s))
theorem fold_fold (s : ByteArray) : foldL (mk (foldL s)) = foldL s := by
  rw [foldL_out (mk (foldL s)), pts_foldL, map_withLen, foldC_fold, ← foldL_out]
theorem valid_fold (s : ByteArray) (h : validB s = true) : validB (mk (foldL s)) = true := by
  have hv := valid_pts s h
  unfold validB
  rw [pts_foldL, List.all_eq_true]
  intro p hp
  obtain ⟨c, hc, rfl⟩ := List.mem_map.1 hp
  refine okPt_len c (outC_good _ (fun c => uncleanB c = false) (by decide) low_unclean _ _ (fun c hc => ?_) c hc)
  obtain ⟨p, hp, rfl⟩ := List.mem_map.1 hc
  exact Or.inr (hv p hp).2

/-- The code points, put together. -/
def again (s : ByteArray) : ByteArray := mk (((pts s).map (·.1)).flatMap enc)
theorem again_valid (s : ByteArray) (h : validB s = true) : again s = s := by
  unfold again
  rw [pts_back s fun p hp => (valid_pts s h p hp).1, mk_bytesL]
theorem again_count (s : ByteArray) : (pts (again s)).length = (pts s).length := by
  unfold again
  rw [pts_enc _ (codes_scalar s)]; simp

/-- Two texts with white space between. -/
theorem outC_join (a b : List Nat) : ∀ (g ne : Bool) (x : Nat), spaceB x = true → outC g ne (a ++ x :: b) = outC g ne a ++ outC true (ne || a.any fun c => !spaceB c) b := by
  induction a with
  | nil => intro g ne x hx; simp [outC, hx]
  | cons c a ih =>
    intro g ne x hx
    by_cases hs : spaceB c = true
    · simp only [List.cons_append, outC, ih _ _ x hx, List.any_cons, hs, if_true, Bool.not_true, Bool.false_or]
    · simp only [List.cons_append, outC, if_neg hs, ih _ _ x hx, List.any_cons, Bool.not_eq_true] at *
      simp [hs]
theorem any_fold (cs : List Nat) : ∀ g ne : Bool, (outC g ne cs).any (fun c => !spaceB c) = cs.any fun c => !spaceB c := by
  induction cs with
  | nil => intros; rfl
  | cons c cs ih =>
    intro g ne
    by_cases hs : spaceB c = true
    · simp only [outC, ih, List.any_cons, hs, if_true, Bool.not_true, Bool.false_or]
    · simp only [outC, if_neg hs, List.any_append, List.any_cons, low_space]
      simp [hs]
theorem fold_join (a b : List Nat) : foldC (a ++ 32 :: b) = foldC (foldC a ++ 32 :: foldC b) := by
  have h := outC_join a b false false 32 (by decide)
  have h' := outC_join (foldC a) (foldC b) false false 32 (by decide)
  show outC false false _ = outC false false _
  rw [h, h', outC_fold]
  have e1 := foldC_fold a
  unfold foldC at *
  rw [e1, any_fold]
theorem fold_wide (a b : List Nat) : foldC (a ++ 32 :: b) = foldC (a ++ 10 :: 32 :: 32 :: b) := by
  have h := outC_join a b false false 32 (by decide)
  have h' := outC_join a (32 :: 32 :: b) false false 10 (by decide)
  show outC false false _ = outC false false _
  rw [h, h']
  simp [outC, show spaceB 32 = true from by decide]
def codes (l : List UInt8) : List Nat := (ptsL l).map (·.1)
theorem dec_ascii_head (x : UInt8) (b : List UInt8) (hx : x.toNat < 128) : decL (x :: b) = (x.toNat, 1) := by
  unfold decL Lib.decodeN
  have : atL (x :: b) 0 = x.toNat := rfl
  rw [this, if_pos hx]
theorem codes_ascii (a b : List UInt8) (x : UInt8) (hx : x.toNat < 128) : codes (a ++ x :: b) = codes a ++ x.toNat :: codes b := by
  unfold codes
  rw [ptsL_ascii _ a b x (Nat.le_refl _) hx, List.map_append, ptsL_cons (x :: b) (by simp), dec_ascii_head x b hx]
  rfl
theorem foldL_codes (l : List UInt8) : foldL (mk l) = (foldC (codes l)).flatMap enc := by rw [foldL_out, pts_mk]; rfl
theorem codes_foldL (l : List UInt8) : codes (foldL (mk l)) = foldC (codes l) := by
  have := pts_foldL (mk l)
  rw [pts_mk, pts_mk] at this
  unfold codes
  rw [this, map_withLen]
theorem join_fold (a b : List UInt8) : foldL (mk (a ++ 32 :: b)) = foldL (mk (foldL (mk a) ++ 32 :: foldL (mk b))) := by
  rw [foldL_codes, foldL_codes (foldL (mk a) ++ 32 :: foldL (mk b)), codes_ascii a b 32 (by decide), codes_ascii (foldL (mk a)) (foldL (mk b)) 32 (by decide), codes_foldL, codes_foldL]
  rw [show (32 : UInt8).toNat = 32 from rfl, fold_join]
theorem join_wide (a b : List UInt8) : foldL (mk (a ++ 32 :: b)) = foldL (mk (a ++ 10 :: 32 :: 32 :: b)) := by
  rw [foldL_codes, foldL_codes (a ++ 10 :: 32 :: 32 :: b), codes_ascii a b 32 (by decide), codes_ascii a (32 :: 32 :: b) 10 (by decide)]
  have h2 := codes_ascii [] (32 :: b) 32 (by decide)
  have h3 := codes_ascii [] b 32 (by decide)
  simp only [List.nil_append] at h2 h3
  rw [h2, h3, show (32 : UInt8).toNat = 32 from rfl, show (10 : UInt8).toNat = 10 from rfl, fold_wide]
  rfl
end Go.Pub
namespace Go.Pub

/-- ASCII punctuation. -/
def puncB (b : UInt8) : Bool := decide (b.toNat < 128) && inB (b.toNat : Int) punctL
/-- An escape begins at the list's head. -/
def escH : List UInt8 → Bool
  | [] => false
  | [_] => false
  | c :: d :: _ => c == 92 && puncB d

/-- The text without its escapes' backslashes. -/
def unescL : List UInt8 → List UInt8
  | [] => []
  | c :: l => if escH (c :: l) then (match l with | [] => [] | d :: l' => d :: unescL l') else c :: unescL l

/-- The offset of the first unescaped byte 'stop', if neither an unescaped 'wo' nor a line feed stands ahead of it. -/
def scanL (stop wo : UInt8) : List UInt8 → Option Nat
  | [] => none
  | c :: l => if c = stop then some 0 else if c = wo ∨ c = 10 then none
      else if escH (c :: l) then (match l with | [] => none | _ :: l' => (scanL stop wo l').map (· + 2))
      else (scanL stop wo l).map (· + 1)

/-- The length of a plain destination, of which some parentheses are open. -/
def destL : Nat → List UInt8 → Option Nat
  | o, [] => if o = 0 then some 0 else none
  | o, c :: l => if c = 32 ∨ c = 10 ∨ (c = 41 ∧ o = 0) then (if o = 0 then some 0 else none)
      else if escH (c :: l) then (match l with | [] => none | _ :: l' => (destL o l').map (· + 2))
      else if c = 40 then (if 8 ≤ o then none else (destL (o + 1) l).map (· + 1))
      else if c = 41 then (destL (o - 1) l).map (· + 1)
      else (destL o l).map (· + 1)

/-- An escape begins at the byte k. -/
def escAt (s : ByteArray) (k : Nat) : Bool := escH (sfx s k)
theorem escAt_end (s : ByteArray) (k : Nat) (h : s.size ≤ k + 1) : escAt s k = false := by
  unfold escAt
  by_cases hk : k < s.size
  · rw [sfx_cons s k hk, sfx_nil s (k + 1) h]; rfl
  · rw [sfx_nil s k (by omega)]; rfl
theorem escAt_in (s : ByteArray) (k : Nat) (h : k + 1 < s.size) : escAt s k = (decide (bt s k = 92) && (decide (bt s (k + 1) < 128) && inB (bt s (k + 1) : Int) punctL)) := by
  unfold escAt
  rw [sfx_cons s k (by omega), sfx_cons s (k + 1) h]
  show (s.get! k == 92 && puncB (s.get! (k + 1))) = _
  have e : (s.get! k == (92 : UInt8)) = decide (bt s k = 92) := by
    rw [Bool.eq_iff_iff]; simp only [beq_iff_eq, decide_eq_true_eq]
    exact u8_nat (s.get! k) 92 (by decide)
  rw [e]; rfl

theorem escAt_lt {s : ByteArray} {k : Nat} (h : escAt s k = true) : k + 1 < s.size ∧ bt s k = 92 := by
  by_cases hk : k + 1 < s.size
  · rw [escAt_in s k hk] at h
    simp only [Bool.and_eq_true, decide_eq_true_eq] at h
    exact ⟨hk, h.1⟩
  · rw [escAt_end s k (by omega)] at h; simp at h

/-- Where the scan from the byte k ends. -/
def scanA (s : ByteArray) (stop wo : Nat) (k : Nat) : Option Nat := (scanL (UInt8.ofNat stop) (UInt8.ofNat wo) (sfx s k)).map (· + k)
theorem scanA_end (s : ByteArray) (a b k : Nat) (h : s.size ≤ k) : scanA s a b k = none := by unfold scanA; rw [sfx_nil s k h]; rfl
theorem scanL_cons (a b c : UInt8) (l : List UInt8) : scanL a b (c :: l) = if c = a then some 0 else if c = b ∨ c = 10 then none
      else if escH (c :: l) then (match l with | [] => none | _ :: l' => (scanL a b l').map (· + 2))
      else (scanL a b l).map (· + 1) := by cases l <;> rfl
theorem g40 (s : ByteArray) (k : Nat) : s.get! k = 40 ↔ bt s k = 40 := bt_u8 s k 40 (by decide)
theorem g41 (s : ByteArray) (k : Nat) : s.get! k = 41 ↔ bt s k = 41 := bt_u8 s k 41 (by decide)
theorem scanA_stop (s : ByteArray) (a b k : Nat) (h : k < s.size) (ha : a < 256) (hc : bt s k = a) : scanA s a b k = some k := by
  unfold scanA
  rw [sfx_cons s k h, scanL_cons, if_pos ((bt_u8 s k a ha).2 hc)]; simp
theorem scanA_bad (s : ByteArray) (a b k : Nat) (h : k < s.size) (ha : a < 256) (hb : b < 256) (hc : bt s k ≠ a) (hd : bt s k = b ∨ bt s k = 10) : scanA s a b k = none := by
  unfold scanA
  rw [sfx_cons s k h, scanL_cons, if_neg (fun e => hc ((bt_u8 s k a ha).1 e)), if_pos (hd.imp (bt_u8 s k b hb).2 (g10 s k).2)]; rfl
theorem scanA_esc (s : ByteArray) (a b k : Nat) (ha : a < 256) (hb : b < 256) (ha' : a ≠ 92) (hb' : b ≠ 92) (he : escAt s k = true) : scanA s a b k = scanA s a b (k + 2) := by
  obtain ⟨h1, h2⟩ := escAt_lt he
  unfold escAt at he
  unfold scanA
  rw [sfx_cons s k (by omega), sfx_cons s (k + 1) h1] at he ⊢
  rw [scanL_cons, if_neg (fun e => by have := (bt_u8 s k a ha).1 e; omega), if_neg, if_pos he]
  · simp only [Option.map_map]; congr 1; funext x; simp; omega
  · rintro (e | e)
    · have := (bt_u8 s k b hb).1 e; omega
    · have := (g10 s k).1 e; omega
theorem scanA_step (s : ByteArray) (a b k : Nat) (h : k < s.size) (ha : a < 256) (hb : b < 256) (hc : bt s k ≠ a) (hd : bt s k ≠ b) (hl : bt s k ≠ 10) (he : escAt s k = false) : scanA s a b k = scanA s a b (k + 1) := by
  unfold escAt at he
  unfold scanA
  rw [sfx_cons s k h] at he ⊢
  rw [scanL_cons, if_neg (fun e => hc ((bt_u8 s k a ha).1 e)), if_neg, if_neg (by rw [he]; simp)]
  · simp only [Option.map_map]; congr 1; funext x; simp; omega
  · rintro (e | e)
    · exact hd ((bt_u8 s k b hb).1 e)
    · exact hl ((g10 s k).1 e)

/-- Where the plain destination ends, if it does. -/
def destA (s : ByteArray) (o k : Nat) : Option Nat := (destL o (sfx s k)).map (· + k)
theorem destL_cons (o : Nat) (c : UInt8) (l : List UInt8) : destL o (c :: l) = if c = 32 ∨ c = 10 ∨ (c = 41 ∧ o = 0) then (if o = 0 then some 0 else none)
      else if escH (c :: l) then (match l with | [] => none | _ :: l' => (destL o l').map (· + 2))
      else if c = 40 then (if 8 ≤ o then none else (destL (o + 1) l).map (· + 1))
      else if c = 41 then (destL (o - 1) l).map (· + 1)
      else (destL o l).map (· + 1) := by cases l <;> rfl
theorem destA_end (s : ByteArray) (o k : Nat) (h : s.size ≤ k) : destA s o k = if o = 0 then some k else none := by
  unfold destA; rw [sfx_nil s k h]; unfold destL; split <;> simp
/-- The byte at k ends a plain destination. -/
def dstop (s : ByteArray) (o k : Nat) : Prop := bt s k = 32 ∨ bt s k = 10 ∨ (bt s k = 41 ∧ o = 0)
theorem dstop_iff (s : ByteArray) (o k : Nat) : (s.get! k = 32 ∨ s.get! k = 10 ∨ (s.get! k = 41 ∧ o = 0)) ↔ dstop s o k := by
  have h1 : s.get! k = 32 ↔ bt s k = 32 := bt_u8 s k 32 (by decide)
  have h2 := g10 s k
  have h3 := g41 s k
  unfold dstop
  rw [h1, h2, h3]
theorem destA_stop (s : ByteArray) (o k : Nat) (h : k < s.size) (hc : dstop s o k) : destA s o k = if o = 0 then some k else none := by
  unfold destA
  rw [sfx_cons s k h, destL_cons, if_pos ((dstop_iff s o k).2 hc)]; split <;> simp
theorem destA_esc (s : ByteArray) (o k : Nat) (he : escAt s k = true) : destA s o k = destA s o (k + 2) := by
  obtain ⟨h1, h2⟩ := escAt_lt he
  unfold escAt at he
  unfold destA
  have hn : ¬ dstop s o k := by unfold dstop; omega
  rw [← dstop_iff] at hn
  rw [sfx_cons s k (by omega), sfx_cons s (k + 1) h1] at he ⊢
  rw [destL_cons, if_neg hn, if_pos he]
  simp only [Option.map_map]; congr 1; funext x; simp; omega
theorem destA_open (s : ByteArray) (o k : Nat) (h : k < s.size) (hc : bt s k = 40) : destA s o k = if 8 ≤ o then none else destA s (o + 1) (k + 1) := by
  have he : escAt s k = false := by
    rw [Bool.eq_false_iff]; intro e; have := (escAt_lt e).2; omega
  have hn : ¬ dstop s o k := by unfold dstop; omega
  rw [← dstop_iff] at hn
  unfold escAt at he
  unfold destA
  rw [sfx_cons s k h] at he ⊢
  rw [destL_cons, if_neg hn, if_neg (by rw [he]; simp), if_pos ((g40 s k).2 hc)]
  split
  · rfl
  · simp only [Option.map_map]; congr 1; funext x; simp; omega
theorem destA_close (s : ByteArray) (o k : Nat) (h : k < s.size) (hc : bt s k = 41) (ho : 0 < o) : destA s o k = destA s (o - 1) (k + 1) := by
  have he : escAt s k = false := by
    rw [Bool.eq_false_iff]; intro e; have := (escAt_lt e).2; omega
  have hn : ¬ dstop s o k := by unfold dstop; omega
  rw [← dstop_iff] at hn
  unfold escAt at he
  unfold destA
  rw [sfx_cons s k h] at he ⊢
  rw [destL_cons, if_neg hn, if_neg (by rw [he]; simp), if_neg (fun e => by have := (g40 s k).1 e; omega), if_pos ((g41 s k).2 hc)]
  simp only [Option.map_map]; congr 1; funext x; simp; omega
theorem destA_step (s : ByteArray) (o k : Nat) (h : k < s.size) (hs : ¬ dstop s o k) (he : escAt s k = false) (h0 : bt s k ≠ 40) (h1 : bt s k ≠ 41) : destA s o k = destA s o (k + 1) := by
  rw [← dstop_iff] at hs
  unfold escAt at he
  unfold destA
  rw [sfx_cons s k h] at he ⊢
  rw [destL_cons, if_neg hs, if_neg (by rw [he]; simp), if_neg (fun e => h0 ((g40 s k).1 e)), if_neg (fun e => h1 ((g41 s k).1 e))]
  simp only [Option.map_map]; congr 1; funext x; simp; omega

/-- What is read between two bytes: the text and the byte after it. -/
def betw (s : ByteArray) (i stop wo : Nat) : Option (List UInt8 × Nat) := (scanA s stop wo (i + 1)).map fun k => (unescL (sub s (i + 1) k), k + 1)
/-- The destination at a byte. -/
def destR (s : ByteArray) (i : Int) : Option (List UInt8 × Nat) :=
  if 0 ≤ i ∧ i < s.size then
    if bt s i.toNat = 60 then betw s i.toNat 62 60
    else (destA s 0 i.toNat).bind fun k => if k = i.toNat then none else some (unescL (sub s i.toNat k), k)
  else none
/-- The title at a byte. -/
def titleR (s : ByteArray) (i : Int) : Option (List UInt8 × Nat) :=
  if 0 ≤ i ∧ i < s.size then
    if bt s i.toNat = 34 then betw s i.toNat 34 34 else if bt s i.toNat = 39 then betw s i.toNat 39 39 else none
  else none

theorem unescL_len : ∀ (n : Nat) (l : List UInt8), l.length ≤ n → (unescL l).length ≤ l.length
  | 0, l, h => by cases l with
    | nil => simp [unescL]
    | cons c l => simp at h
  | n + 1, [], _ => by simp [unescL]
  | n + 1, c :: l, h => by
    unfold unescL
    split
    · cases l with
      | nil => simp
      | cons d l' =>
        have := unescL_len n l' (by simp at h; omega)
        simp; omega
    · have := unescL_len n l (by simp at h; omega)
      simp; omega
theorem scanL_lt (a b : UInt8) : ∀ (n : Nat) (l : List UInt8), l.length ≤ n → ∀ k, scanL a b l = some k → k < l.length
  | 0, l, h, k, hk => by cases l with
    | nil => simp [scanL] at hk
    | cons c l => simp at h
  | n + 1, [], _, k, hk => by simp [scanL] at hk
  | n + 1, c :: l, h, k, hk => by
    rw [scanL_cons] at hk
    split at hk
    · simp at hk; subst hk; simp
    · split at hk
      · simp at hk
      · split at hk
        · cases l with
          | nil => simp at hk
          | cons d l' =>
            simp only [Option.map_eq_some_iff] at hk
            obtain ⟨j, hj, rfl⟩ := hk
            have := scanL_lt a b n l' (by simp at h; omega) j hj
            simp; omega
        · simp only [Option.map_eq_some_iff] at hk
          obtain ⟨j, hj, rfl⟩ := hk
          have := scanL_lt a b n l (by simp at h; omega) j hj
          simp; omega
theorem scanA_lt {s : ByteArray} {a b i k : Nat} (h : scanA s a b i = some k) : i ≤ k ∧ k < s.size := by
  unfold scanA at h
  simp only [Option.map_eq_some_iff] at h
  obtain ⟨j, hj, rfl⟩ := h
  have := scanL_lt _ _ _ _ (Nat.le_refl _) j hj
  rw [sfx_len] at this
  omega
theorem destL_le : ∀ (n : Nat) (o : Nat) (l : List UInt8), l.length ≤ n → ∀ k, destL o l = some k → k ≤ l.length
  | 0, o, l, h, k, hk => by cases l with
    | nil => unfold destL at hk; split at hk <;> simp_all
    | cons c l => simp at h
  | n + 1, o, [], _, k, hk => by unfold destL at hk; split at hk <;> simp_all
  | n + 1, o, c :: l, h, k, hk => by
    have hl : l.length ≤ n := by simp at h; omega
    rw [destL_cons] at hk
    split at hk
    · split at hk
      · simp only [Option.some.injEq] at hk; omega
      · simp at hk
    · split at hk
      · cases l with
        | nil => simp at hk
        | cons d l' =>
          simp only [Option.map_eq_some_iff] at hk
          obtain ⟨j, hj, rfl⟩ := hk
          have := destL_le n o l' (by simp at h; omega) j hj
          simp; omega
      · split at hk
        · split at hk
          · simp at hk
          · simp only [Option.map_eq_some_iff] at hk
            obtain ⟨j, hj, rfl⟩ := hk
            have := destL_le n _ l hl j hj
            simp; omega
        · split at hk
          · simp only [Option.map_eq_some_iff] at hk
            obtain ⟨j, hj, rfl⟩ := hk
            have := destL_le n _ l hl j hj
            simp; omega
          · simp only [Option.map_eq_some_iff] at hk
            obtain ⟨j, hj, rfl⟩ := hk
            have := destL_le n _ l hl j hj
            simp; omega
theorem destA_le {s : ByteArray} {o i k : Nat} (hi : i ≤ s.size) (h : destA s o i = some k) : i ≤ k ∧ k ≤ s.size := by
  unfold destA at h
  simp only [Option.map_eq_some_iff] at h
  obtain ⟨j, hj, rfl⟩ := h
  have := destL_le _ o _ (Nat.le_refl _) j hj
  rw [sfx_len] at this
  omega
theorem betw_le {s : ByteArray} {i a b : Nat} {r : List UInt8 × Nat} (h : betw s i a b = some r) : i + 1 < r.2 ∧ r.2 ≤ s.size ∧ r.1.length ≤ s.size := by
  unfold betw at h
  simp only [Option.map_eq_some_iff] at h
  obtain ⟨k, hk, rfl⟩ := h
  have := scanA_lt hk
  have h2 := unescL_len _ (sub s (i + 1) k) (Nat.le_refl _)
  have h3 := sub_len s (i + 1) k
  exact ⟨by show i + 1 < k + 1; omega, by show k + 1 ≤ _; omega, by show (unescL _).length ≤ _; omega⟩
theorem destR_le {s : ByteArray} {i : Int} {r : List UInt8 × Nat} (h : destR s i = some r) : i < r.2 ∧ r.2 ≤ s.size ∧ r.1.length ≤ s.size := by
  unfold destR at h
  split at h
  · split at h
    · have := betw_le h; omega
    · rename_i hi _
      rw [Option.bind_eq_some_iff] at h
      obtain ⟨k, hk, h⟩ := h
      have := destA_le (by omega) hk
      split at h
      · simp at h
      · simp only [Option.some.injEq] at h
        subst h
        have h2 := unescL_len _ (sub s i.toNat k) (Nat.le_refl _)
        have h3 := sub_len s i.toNat k
        exact ⟨by show i < (k : Nat); omega, by show k ≤ _; omega, by show (unescL _).length ≤ _; omega⟩
  · simp at h
theorem titleR_le {s : ByteArray} {i : Int} {r : List UInt8 × Nat} (h : titleR s i = some r) : i + 1 < r.2 ∧ r.2 ≤ s.size ∧ r.1.length ≤ s.size := by
  unfold titleR at h
  split at h
  · split at h
    · have := betw_le h; omega
    · split at h
      · have := betw_le h; omega
      · simp at h
  · simp at h

/-- The first byte from i on that is no white space. -/
def skipL : List UInt8 → Nat
  | [] => 0
  | c :: l => if spaceB (c.toNat : Int) then skipL l + 1 else 0
def skipA (s : ByteArray) (i : Nat) : Nat := i + skipL (sfx s i)
theorem skipA_end (s : ByteArray) (i : Nat) (h : s.size ≤ i) : skipA s i = i := by unfold skipA; rw [sfx_nil s i h]; rfl
theorem skipA_no (s : ByteArray) (i : Nat) (h : i < s.size) (hc : spaceB (bt s i : Int) = false) : skipA s i = i := by
  unfold skipA
  rw [sfx_cons s i h]
  show i + (if spaceB (bt s i : Int) then _ else 0) = i
  rw [hc]; rfl
theorem skipA_yes (s : ByteArray) (i : Nat) (h : i < s.size) (hc : spaceB (bt s i : Int) = true) : skipA s i = skipA s (i + 1) := by
  unfold skipA
  rw [sfx_cons s i h]
  show i + (if spaceB (bt s i : Int) then skipL (sfx s (i + 1)) + 1 else 0) = _
  rw [hc, if_pos rfl]; omega
theorem skipA_le (s : ByteArray) : ∀ (n i : Nat), s.size - i ≤ n → i ≤ s.size → i ≤ skipA s i ∧ skipA s i ≤ s.size
  | 0, i, h, hi => by rw [skipA_end s i (by omega)]; omega
  | n + 1, i, h, hi => by
    by_cases hl : i < s.size
    · cases hc : spaceB (bt s i : Int)
      · rw [skipA_no s i hl hc]; omega
      · rw [skipA_yes s i hl hc]
        have := skipA_le s n (i + 1) (by omega) (by omega)
        omega
    · rw [skipA_end s i (by omega)]; omega

/-- A code point that labels can have. -/
def labB (c : Int) : Bool := inB c letterL || digitB c || c == 32 || c == 45 || c == 95 || c == 46 || c == 58
/-- The label that a text is, or nothing. -/
def labelL (l : List UInt8) : List UInt8 :=
  if 60 < (foldL (mk l)).length then [] else if (pts (mk (foldL (mk l)))).all fun p => labB p.1 then foldL (mk l) else []

/-- The offset of the first byte 93. -/
def brk (l : List UInt8) : Nat := l.findIdx (· == 93)
/-- The label in brackets at a byte. -/
def brackR (s : ByteArray) (i : Nat) : Option (List UInt8 × Nat) :=
  if i < s.size ∧ bt s i = 91 then
    if brk (sfx s (i + 1)) < (sfx s (i + 1)).length ∧ labelL ((sfx s (i + 1)).take (brk (sfx s (i + 1)))) ≠ [] then
      some (labelL ((sfx s (i + 1)).take (brk (sfx s (i + 1)))), i + brk (sfx s (i + 1)) + 2) else none
  else none

/-- A tail: destination, title, label and the byte after it. -/
structure Tl where
  d : List UInt8
  t : List UInt8
  l : List UInt8
  n : Nat
def tailR (s : ByteArray) (i : Int) : Option Tl :=
  if 0 ≤ i ∧ i < s.size then
    if bt s i.toNat = 40 then
      let a := skipA s (i.toNat + 1)
      if a < s.size ∧ bt s a = 41 then some ⟨[], [], [], a + 1⟩ else
      (destR s a).bind fun r =>
        let n := skipA s r.2
        if n < s.size then
          if bt s n = 41 then some ⟨r.1, [], [], n + 1⟩
          else if r.2 < n then (titleR s n).bind fun q =>
            let m := skipA s q.2
            if m < s.size ∧ bt s m = 41 then some ⟨r.1, q.1, [], m + 1⟩ else none
          else none
        else none
    else (brackR s i.toNat).map fun r => ⟨[], [], r.1, r.2⟩
  else none
end Go.Pub
