/-
  Cleaning and folding: once is enough; texts put together: plain.
-/
import Derived.Test.YtepeaenbjgbnfaaDoorLists
import Derived.Test.YtepeaenbjgbnfaaDoorFold
import Derived.Test.YtepeaenbjgbnfaaDoorCharsB
set_option linter.unusedVariables false
set_option linter.unusedSimpArgs false
namespace Go.Pub
open Go.Proofs.YtepeaenbjgbnfaaDoor

def mk (l : List UInt8) : ByteArray := ⟨l.toArray⟩
theorem bytesL_mk' (l : List UInt8) : bytesL (mk l) = l := bytesL_of l
theorem mk_bytesL (s : ByteArray) : mk (bytesL s) = s := (bytesL_mk s).symm
def enc (c : Nat) : List UInt8 := encL (c : Int)
def withLen (c : Nat) : Nat × Nat := (c, (enc c).length)
theorem pts_mk (l : List UInt8) : pts (mk l) = ptsL l := by rw [pts_ptsL, bytesL_mk']
theorem pts_enc (cs : List Nat) (h : ∀ c ∈ cs, Scalar c) : pts (mk (cs.flatMap enc)) = cs.map withLen := by rw [pts_mk]; exact ptsL_enc cs h
theorem pts_scalar (s : ByteArray) : ∀ p ∈ pts s, Scalar p.1 := by rw [pts_ptsL]; exact ptsL_scalar _ _ (Nat.le_refl _)
theorem enc_65533 : (enc 65533).length = 3 := by decide +kernel

theorem okPt_len (c : Nat) (h : uncleanB c = false) : okPt (withLen c) = true := by
  unfold okPt withLen
  by_cases e : c = 65533
  · subst e
    simp only [enc_65533, h]; rfl
  · simp [h, e]

/-- The code points that Clean writes. -/
def cleanPc (c : Nat) (next : Bool) : List Nat := if c = 13 then (if next then [] else [10]) else if c = 9 then [32, 32, 32, 32] else if uncleanB c then [65533] else [c]
def cleanCs : List (Nat × Nat) → List Nat
  | [] => []
  | p :: l => cleanPc p.1 (headLF l) ++ cleanCs l
theorem enc_lf : enc 10 = [10] := by decide +kernel
theorem enc_sp : enc 32 = [32] := by decide +kernel
theorem cleanPiece_enc (c : Nat) (b : Bool) : cleanPiece c b = (cleanPc c b).flatMap enc := by
  unfold cleanPiece cleanPc
  (repeat' split) <;> simp [enc_lf, enc_sp] <;> rfl
theorem cleanP_enc (l : List (Nat × Nat)) : cleanP l = (cleanCs l).flatMap enc := by
  induction l with
  | nil => rfl
  | cons p l ih =>
    show cleanPiece p.1 (headLF l) ++ cleanP l = _
    rw [cleanPiece_enc, ih, ← List.flatMap_append]; rfl
theorem cleanPc_good (c : Nat) (b : Bool) (h : Scalar c) : ∀ d ∈ cleanPc c b, Scalar d ∧ uncleanB d = false := by
  intro d hd
  unfold cleanPc at hd
  split at hd
  · split at hd
    · simp at hd
    · simp at hd; subst hd; exact ⟨Or.inl (by omega), by decide⟩
  · split at hd
    · simp at hd; subst hd; exact ⟨Or.inl (by omega), by decide⟩
    · split at hd
      · simp at hd; subst hd; exact ⟨Or.inr (by omega), by decide⟩
      · rename_i hu
        simp at hd; subst hd
        exact ⟨h, by simpa using hu⟩
theorem cleanCs_good (l : List (Nat × Nat)) (h : ∀ p ∈ l, Scalar p.1) : ∀ d ∈ cleanCs l, Scalar d ∧ uncleanB d = false := by
  induction l with
  | nil => intro d hd; simp [cleanCs] at hd
  | cons p l ih =>
    intro d hd
    simp only [cleanCs, List.mem_append] at hd
    rcases hd with hd | hd
    · exact cleanPc_good _ _ (h p (by simp)) d hd
    · exact ih (fun q hq => h q (by simp [hq])) d hd
theorem cleanPc_same (c : Nat) (b : Bool) (h : uncleanB c = false) : cleanPc c b = [c] := by
  have h1 : c ≠ 13 := by rintro rfl; exact absurd h (by decide)
  have h2 : c ≠ 9 := by rintro rfl; exact absurd h (by decide)
  simp [cleanPc, h1, h2, h]
theorem cleanCs_same (l : List (Nat × Nat)) (h : ∀ p ∈ l, uncleanB p.1 = false) : cleanCs l = l.map (·.1) := by
  induction l with
  | nil => rfl
  | cons p l ih =>
    show cleanPc p.1 (headLF l) ++ cleanCs l = _
    rw [cleanPc_same _ _ (h p (by simp)), ih (fun q hq => h q (by simp [hq]))]; rfl
theorem map_withLen (cs : List Nat) : (cs.map withLen).map (·.1) = cs := by simp [withLen, Function.comp_def]

theorem cleanL_cs (s : ByteArray) : cleanL s = (cleanCs (pts s)).flatMap enc := cleanP_enc _
theorem pts_cleanL (s : ByteArray) : pts (mk (cleanL s)) = (cleanCs (pts s)).map withLen := by
  rw [cleanL_cs]; exact pts_enc _ fun c hc => (cleanCs_good _ (pts_scalar s) c hc).1
theorem valid_clean (s : ByteArray) : validB (mk (cleanL s)) = true := by
  unfold validB
  rw [pts_cleanL, List.all_eq_true]
  intro p hp
  obtain ⟨c, hc, rfl⟩ := List.mem_map.1 hp
  exact okPt_len c (cleanCs_good _ (pts_scalar s) c hc).2
theorem clean_clean (s : ByteArray) : cleanL (mk (cleanL s)) = cleanL s := by
  rw [cleanL_cs (mk (cleanL s)), pts_cleanL, cleanCs_same, map_withLen, ← cleanL_cs]
  intro p hp
  obtain ⟨c, hc, rfl⟩ := List.mem_map.1 hp
  exact (cleanCs_good _ (pts_scalar s) c hc).2
theorem valid_pts (s : ByteArray) (h : validB s = true) : ∀ p ∈ pts s, p ≠ (65533, 1) ∧ uncleanB p.1 = false := by
  unfold validB at h
  rw [List.all_eq_true] at h
  intro p hp
  have := h p hp
  unfold okPt at this
  simp only [Bool.and_eq_true, Bool.not_eq_true', Bool.and_eq_false_iff] at this
  refine ⟨?_, this.2⟩
  rintro rfl
  simp at this
theorem pts_back (s : ByteArray) (h : ∀ p ∈ pts s, p ≠ (65533, 1)) : ((pts s).map (·.1)).flatMap enc = bytesL s := by
  rw [pts_ptsL] at h ⊢
  have := ptsL_back _ (bytesL s) (Nat.le_refl _) h
  rw [List.flatMap_map]; exact this
theorem clean_valid (s : ByteArray) (h : validB s = true) : cleanL s = bytesL s := by
  have hv := valid_pts s h
  rw [cleanL_cs, cleanCs_same _ fun p hp => (hv p hp).2, pts_back s fun p hp => (hv p hp).1]

/-- The code points that Fold writes, if a gap is pending and something has been written. -/
def low (c : Nat) : Nat := (lowerZ c).toNat
def outC (g ne : Bool) : List Nat → List Nat
  | [] => []
  | c :: l => if spaceB c then outC true ne l else (if g && ne then [32] else []) ++ low c :: outC false true l
theorem lowerZ_nonneg (c : Nat) : 0 ≤ lowerZ c := by unfold lowerZ; (repeat' split) <;> omega
theorem low_int (c : Nat) : ((low c : Nat) : Int) = lowerZ c := Int.toNat_of_nonneg (lowerZ_nonneg c)
theorem low_enc (c : Nat) : encL (lowerZ c) = enc (low c) := congrArg encL (low_int c).symm
theorem enc_ne (c : Nat) : enc c ≠ [] := by
  intro h
  have := (encL_length (c : Int)).1
  have e : (enc c).length = (encL (c : Int)).length := rfl
  rw [h] at e
  simp only [List.length_nil] at e
  omega
theorem foldP_cons (g : Bool) (acc : List UInt8) (p : Nat × Nat) (l : List (Nat × Nat)) : foldP g acc (p :: l) = if spaceB p.1 then foldP true acc l else foldP false (acc ++ ((if g && !acc.isEmpty then [32] else []) ++ enc (low p.1))) l := by
  rw [← low_enc]; rfl
theorem outC_cons (g ne : Bool) (c : Nat) (l : List Nat) : outC g ne (c :: l) = if spaceB c then outC true ne l else (if g && ne then [32] else []) ++ low c :: outC false true l := rfl
theorem foldP_out (l : List (Nat × Nat)) : ∀ (g : Bool) (acc : List UInt8), foldP g acc l = acc ++ (outC g (!acc.isEmpty) (l.map (·.1))).flatMap enc := by
  induction l with
  | nil => intro g acc; simp [foldP, outC]
  | cons p l ih =>
    intro g acc
    rw [List.map_cons, foldP_cons, outC_cons]
    by_cases hs : spaceB p.1 = true
    · rw [if_pos hs, if_pos hs, ih]
    · rw [if_neg hs, if_neg hs, ih, List.flatMap_append, List.flatMap_cons]
      have h32 : ∀ b : Bool, (if b = true then ([32] : List Nat) else []).flatMap enc = if b = true then [32] else [] := by
        intro b
        cases b
        · rfl
        · rw [if_pos rfl, if_pos rfl, List.flatMap_cons, List.flatMap_nil, enc_sp]; rfl
      rw [h32]
      have hE := enc_ne (low p.1)
      generalize enc (low p.1) = E at *
      have hne : (acc ++ ((if (g && !acc.isEmpty) = true then [32] else []) ++ E)).isEmpty = false := by
        cases E with
        | nil => exact absurd rfl hE
        | cons a b => simp
      rw [hne]
      simp only [List.append_assoc]; rfl
def foldC (cs : List Nat) : List Nat := outC false false cs
theorem foldL_out (s : ByteArray) : foldL s = (foldC ((pts s).map (·.1))).flatMap enc := by
  unfold foldL
  rw [foldP_out]; rfl
theorem low_low (c : Nat) : low (low c) = low c := by
  have key : lowerZ (lowerZ c) = lowerZ c := by
    generalize (c : Int) = z
    have h := show lowerZ z = if (65 ≤ z ∧ z ≤ 90) ∨ (192 ≤ z ∧ z ≤ 222 ∧ z ≠ 215) ∨ (913 ≤ z ∧ z ≤ 939 ∧ z ≠ 930) ∨ (1040 ≤ z ∧ z ≤ 1071) then z + 32 else if 1024 ≤ z ∧ z ≤ 1039 then z + 80 else z from rfl
    rw [h]
    unfold lowerZ
    (repeat' split) <;> omega
  unfold low
  have h : 0 ≤ lowerZ c := by unfold lowerZ; (repeat' split) <;> omega
  rw [Int.toNat_of_nonneg h, key]
theorem low_space (c : Nat) : spaceB (low c) = spaceB c := by
  have h : (low c : Int) = lowerZ c := by
    unfold low
    rw [Int.toNat_of_nonneg (by unfold lowerZ; (repeat' split) <;> omega)]
  unfold spaceB
  rw [h]
  unfold lowerZ
  (repeat' split) <;> first | rfl | (rw [Bool.eq_iff_iff]; simp; omega)
theorem low_scalar (c : Nat) (h : Scalar c) : Scalar (low c) := by
  have e : (low c : Int) = lowerZ c := by
    unfold low
    rw [Int.toNat_of_nonneg (by unfold lowerZ; (repeat' split) <;> omega)]
  unfold Scalar at *
  have : lowerZ c = c ∨ (lowerZ c ≤ 2000 ∧ 0 ≤ lowerZ c) := by unfold lowerZ; (repeat' split) <;> omega
  omega
theorem low_unclean (c : Nat) (h : uncleanB c = false) : uncleanB (low c) = false := by
  have e : (low c : Int) = lowerZ c := by
    unfold low
    rw [Int.toNat_of_nonneg (by unfold lowerZ; (repeat' split) <;> omega)]
  unfold uncleanB at *
  rw [e]
  have : lowerZ c = c ∨ 128 ≤ lowerZ c ∨ (97 ≤ lowerZ c ∧ lowerZ c ≤ 122) := by unfold lowerZ; (repeat' split) <;> omega
  rcases this with h1 | h1
  · rw [h1]; exact h
  · simp; omega
theorem outC_good (cs : List Nat) (P : Nat → Prop) (h32 : P 32) (hl : ∀ c, P c → P (low c)) : ∀ (g ne : Bool), (∀ c ∈ cs, spaceB c = true ∨ P c) → ∀ d ∈ outC g ne cs, P d := by
  induction cs with
  | nil => intro g ne _ d hd; simp [outC] at hd
  | cons c cs ih =>
    intro g ne h d hd
    simp only [outC] at hd
    by_cases hs : spaceB c = true
    · rw [if_pos hs] at hd; exact ih _ _ (fun x hx => h x (by simp [hx])) d hd
    · rw [if_neg hs] at hd
      rcases List.mem_append.1 hd with hd | hd
      · split at hd
        · simp at hd; subst hd; exact h32
        · simp at hd
      · rcases List.mem_cons.1 hd with rfl | hd
        · rcases h c (by simp) with h' | h'
          · exact absurd h' hs
          · exact hl c h'
        · exact ih _ _ (fun x hx => h x (by simp [hx])) d hd
theorem outC_false (cs : List Nat) : ∀ g g' : Bool, outC g false cs = outC g' false cs := by
  induction cs with
  | nil => intros; rfl
  | cons c cs ih =>
    intro g g'
    simp only [outC, Bool.and_false]
/-- Folding what is folded. -/
theorem outC_twice (cs : List Nat) : outC false true (outC false true cs) = outC false true cs ∧ outC false true (outC true true cs) = outC true true cs := by
  induction cs with
  | nil => exact ⟨rfl, rfl⟩
  | cons c cs ih =>
    have hl : ∀ X, outC false true (low c :: X) = if spaceB c = true then outC true true X else low c :: outC false true X := fun X => by
      simp only [outC, low_space, low_low, Bool.false_and]; rfl
    by_cases hs : spaceB c = true
    · have e1 : outC false true (c :: cs) = outC true true cs := by simp [outC, hs]
      have e2 : outC true true (c :: cs) = outC true true cs := by simp [outC, hs]
      rw [e1, e2]; exact ⟨ih.2, ih.2⟩
    · have e1 : outC false true (c :: cs) = low c :: outC false true cs := by simp [outC, hs]
      have e2 : outC true true (c :: cs) = 32 :: low c :: outC false true cs := by simp [outC, hs]
      rw [e1, e2]
      refine ⟨by rw [hl, if_neg hs, ih.1], ?_⟩
      have e3 : ∀ X, outC false true (32 :: X) = outC true true X := fun X => by simp [outC, show spaceB 32 = true from by decide]
      have e4 : ∀ X, outC true true (low c :: X) = 32 :: low c :: outC false true X := fun X => by simp [outC, low_space, hs, low_low]
      rw [e3, e4, ih.1]
theorem outC_fold (cs : List Nat) (ne : Bool) : outC true ne (foldC cs) = outC true ne cs := by
  unfold foldC
  induction cs with
  | nil => rfl
  | cons c cs ih =>
    by_cases hs : spaceB c = true
    · have e1 : outC false false (c :: cs) = outC false false cs := by simp only [outC, if_pos hs]; exact outC_false cs true false
      have e2 : outC true ne (c :: cs) = outC true ne cs := by simp [outC, hs]
      rw [e1, e2, ih]
    · have e1 : outC false false (c :: cs) = low c :: outC false true cs := by simp [outC, hs]
      rw [e1]
      simp only [outC, low_space, low_low, if_neg hs, (outC_twice cs).1]
theorem foldC_fold (cs : List Nat) : foldC (foldC cs) = foldC cs := by
  have := outC_fold cs false
  rw [outC_false _ true false] at this
  unfold foldC at *
  rw [this, outC_false cs true false]
theorem foldC_scalar (cs : List Nat) (h : ∀ c ∈ cs, Scalar c) : ∀ d ∈ foldC cs, Scalar d :=
  outC_good cs Scalar (Or.inl (by omega)) low_scalar _ _ fun c hc => Or.inr (h c hc)
theorem codes_scalar (s : ByteArray) : ∀ c ∈ (pts s).map (·.1), Scalar c := by
  intro c hc
  obtain ⟨p, hp, rfl⟩ := List.mem_map.1 hc
  exact pts_scalar s p hp
theorem pts_foldL (s : ByteArray) : pts (mk (foldL s)) = (foldC ((pts s).map (·.1))).map withLen := by
  rw [foldL_out]; exact pts_enc _ (foldC_scalar _ (codes_scalar s))
theorem fold_fold (s : ByteArray) : foldL (mk (foldL s)) = foldL s := by
  rw [foldL_out (mk (foldL s)), pts_foldL, map_withLen, foldC_fold, ← foldL_out]
theorem valid_fold (s : ByteArray) (h : validB s = true) : validB (mk (foldL s)) = true := by
  have hv := valid_pts s h
  unfold validB
  rw [pts_foldL, List.all_eq_true]
  intro p hp
  obtain ⟨c, hc, rfl⟩ := List.mem_map.1 hp
  refine okPt_len c (outC_good _ (fun c => uncleanB c = false) (by decide) low_unclean _ _ (fun c hc => ?_) c hc)
  obtain ⟨p, hp, rfl⟩ := List.mem_map.1 hc
  exact Or.inr (hv p hp).2

/-- The code points, put together. -/
def again (s : ByteArray) : ByteArray := mk (((pts s).map (·.1)).flatMap enc)
theorem again_valid (s : ByteArray) (h : validB s = true) : again s = s := by
  unfold again
  rw [pts_back s fun p hp => (valid_pts s h p hp).1, mk_bytesL]
theorem again_count (s : ByteArray) : (pts (again s)).length = (pts s).length := by
  unfold again
  rw [pts_enc _ (codes_scalar s)]; simp

/-- Two texts with white space between. -/
theorem outC_join (a b : List Nat) : ∀ (g ne : Bool) (x : Nat), spaceB x = true → outC g ne (a ++ x :: b) = outC g ne a ++ outC true (ne || a.any fun c => !spaceB c) b := by
  induction a with
  | nil => intro g ne x hx; simp [outC, hx]
  | cons c a ih =>
    intro g ne x hx
    by_cases hs : spaceB c = true
    · simp only [List.cons_append, outC, ih _ _ x hx, List.any_cons, hs, if_true, Bool.not_true, Bool.false_or]
    · simp only [List.cons_append, outC, if_neg hs, ih _ _ x hx, List.any_cons, Bool.not_eq_true] at *
      simp [hs]
theorem any_fold (cs : List Nat) : ∀ g ne : Bool, (outC g ne cs).any (fun c => !spaceB c) = cs.any fun c => !spaceB c := by
  induction cs with
  | nil => intros; rfl
  | cons c cs ih =>
    intro g ne
    by_cases hs : spaceB c = true
    · simp only [outC, ih, List.any_cons, hs, if_true, Bool.not_true, Bool.false_or]
    · simp only [outC, if_neg hs, List.any_append, List.any_cons, low_space]
      simp [hs]
theorem fold_join (a b : List Nat) : foldC (a ++ 32 :: b) = foldC (foldC a ++ 32 :: foldC b) := by
  have h := outC_join a b false false 32 (by decide)
  have h' := outC_join (foldC a) (foldC b) false false 32 (by decide)
  show outC false false _ = outC false false _
  rw [h, h', outC_fold]
  have e1 := foldC_fold a
  unfold foldC at *
  rw [e1, any_fold]
theorem fold_wide (a b : List Nat) : foldC (a ++ 32 :: b) = foldC (a ++ 10 :: 32 :: 32 :: b) := by
  have h := outC_join a b false false 32 (by decide)
  have h' := outC_join a (32 :: 32 :: b) false false 10 (by decide)
  show outC false false _ = outC false false _
  rw [h, h']
  simp [outC, show spaceB 32 = true from by decide]
def codes (l : List UInt8) : List Nat := (ptsL l).map (·.1)
theorem dec_ascii_head (x : UInt8) (b : List UInt8) (hx : x.toNat < 128) : decL (x :: b) = (x.toNat, 1) := by
  unfold decL Lib.decodeN
  have : atL (x :: b) 0 = x.toNat := rfl
  rw [this, if_pos hx]
theorem codes_ascii (a b : List UInt8) (x : UInt8) (hx : x.toNat < 128) : codes (a ++ x :: b) = codes a ++ x.toNat :: codes b := by
  unfold codes
  rw [ptsL_ascii _ a b x (Nat.le_refl _) hx, List.map_append, ptsL_cons (x :: b) (by simp), dec_ascii_head x b hx]
  rfl
theorem foldL_codes (l : List UInt8) : foldL (mk l) = (foldC (codes l)).flatMap enc := by rw [foldL_out, pts_mk]; rfl
theorem codes_foldL (l : List UInt8) : codes (foldL (mk l)) = foldC (codes l) := by
  have := pts_foldL (mk l)
  rw [pts_mk, pts_mk] at this
  unfold codes
  rw [this, map_withLen]
theorem join_fold (a b : List UInt8) : foldL (mk (a ++ 32 :: b)) = foldL (mk (foldL (mk a) ++ 32 :: foldL (mk b))) := by
  rw [foldL_codes, foldL_codes (foldL (mk a) ++ 32 :: foldL (mk b)), codes_ascii a b 32 (by decide), codes_ascii (foldL (mk a)) (foldL (mk b)) 32 (by decide), codes_foldL, codes_foldL]
  rw [show (32 : UInt8).toNat = 32 from rfl, fold_join]
theorem join_wide (a b : List UInt8) : foldL (mk (a ++ 32 :: b)) = foldL (mk (a ++ 10 :: 32 :: 32 :: b)) := by
  rw [foldL_codes, foldL_codes (a ++ 10 :: 32 :: 32 :: b), codes_ascii a b 32 (by decide), codes_ascii a (32 :: 32 :: b) 10 (by decide)]
  have h2 := codes_ascii [] (32 :: b) 32 (by decide)
  have h3 := codes_ascii [] b 32 (by decide)
  simp only [List.nil_append] at h2 h3
  rw [h2, h3, show (32 : UInt8).toNat = 32 from rfl, show (10 : UInt8).toNat = 10 from rfl, fold_wide]
  rfl
end Go.Pub
