/-
  Texts of the proof, put together (what this law reaches): PureC, AttrB, AttrV, AttrW, AttrC, AttrD, AttrE, AttrF.
-/
import Derived.Test.YtpoafhgbhnblmaaGreatDoorX05
import Derived.Test.YtpoafhgbhnblmaaGreatDoorX04
import Derived.Test.YtpoafhgbhnblmaaGreatDoorX03
import Derived.Test.YtpoafhgbhnblmaaGreatDoorX06
import Derived.Test.YtpoafhgbhnblmaaGreatDoorX07
import Derived.Test.YtpoafhgbhnblmaaGreatDoorX09
set_option linter.unusedVariables false
set_option linter.unusedSimpArgs false
namespace Go.Pub
open Go.Proofs.YtpoafhgbhnblmaaGreatDoor
def enc (c : Nat) : List UInt8 := encL (c : Int)
def withLen (c : Nat) : Nat × Nat := (c, (enc c).length)
theorem pts_mk (l : List UInt8) : pts (mk l) = ptsL l := by rw [pts_ptsL, bytesL_mk']
theorem pts_enc (cs : List Nat) (h : ∀ c ∈ cs, Scalar c) : pts (mk (cs.flatMap enc)) = cs.map withLen := by rw [pts_mk]; exact ptsL_enc cs h
theorem pts_scalar (s : ByteArray) : ∀ p ∈ pts s, Scalar p.1 := by rw [pts_ptsL]; exact ptsL_scalar _ _ (Nat.le_refl _)
theorem enc_65533 : (enc 65533).length = 3 := by decide +kernel
theorem okPt_len (c : Nat) (h : uncleanB c = false) : okPt (withLen c) = true := by
  unfold okPt withLen
  by_cases e : c = 65533
  · subst e
    simp only [enc_65533, h]; rfl
  · simp [h, e]
theorem enc_sp : enc 32 = [32] := by decide +kernel
theorem map_withLen (cs : List Nat) : (cs.map withLen).map (·.1) = cs := by simp [withLen, Function.comp_def]
theorem valid_pts (s : ByteArray) (h : validB s = true) : ∀ p ∈ pts s, p ≠ (65533, 1) ∧ uncleanB p.1 = false := by
  unfold validB at h
  rw [List.all_eq_true] at h
  intro p hp
  have := h p hp
  unfold okPt at this
  simp only [Bool.and_eq_true, Bool.not_eq_true', Bool.and_eq_false_iff] at this
  refine ⟨?_, this.2⟩
  rintro rfl
  simp at this
theorem pts_back (s : ByteArray) (h : ∀ p ∈ pts s, p ≠ (65533, 1)) : ((pts s).map (·.1)).flatMap enc = bytesL s := by
  rw [pts_ptsL] at h ⊢
  have := ptsL_back _ (bytesL s) (Nat.le_refl _) h
  rw [List.flatMap_map]; exact this
/-- The code points that Fold writes, if a gap is pending and something has been written. -/
def low (c : Nat) : Nat := (lowerZ c).toNat
def outC (g ne : Bool) : List Nat → List Nat
  | [] => []
  | c :: l => if spaceB c then outC true ne l else (if g && ne then [32] else []) ++ low c :: outC false true l
theorem lowerZ_nonneg (c : Nat) : 0 ≤ lowerZ c := by unfold lowerZ; (repeat' split) <;> omega
theorem low_int (c : Nat) : ((low c : Nat) : Int) = lowerZ c := Int.toNat_of_nonneg (lowerZ_nonneg c)
theorem low_enc (c : Nat) : encL (lowerZ c) = enc (low c) := congrArg encL (low_int c).symm
theorem enc_ne (c : Nat) : enc c ≠ [] := by
  intro h
  have := (encL_length (c : Int)).1
  have e : (enc c).length = (encL (c : Int)).length := rfl
  rw [h] at e
  simp only [List.length_nil] at e
  omega
theorem foldP_cons (g : Bool) (acc : List UInt8) (p : Nat × Nat) (l : List (Nat × Nat)) : foldP g acc (p :: l) = if spaceB p.1 then foldP true acc l else foldP false (acc ++ ((if g && !acc.isEmpty then [32] else []) ++ enc (low p.1))) l := by
  rw [← low_enc]; rfl
theorem outC_cons (g ne : Bool) (c : Nat) (l : List Nat) : outC g ne (c :: l) = if spaceB c then outC true ne l else (if g && ne then [32] else []) ++ low c :: outC false true l := rfl
theorem foldP_out (l : List (Nat × Nat)) : ∀ (g : Bool) (acc : List UInt8), foldP g acc l = acc ++ (outC g (!acc.isEmpty) (l.map (·.1))).flatMap enc := by
  induction l with
  | nil => intro g acc; simp [foldP, outC]
  | cons p l ih =>
    intro g acc
    rw [List.map_cons, foldP_cons, outC_cons]
    by_cases hs : spaceB p.1 = true
    · rw [if_pos hs, if_pos hs, ih]
    · rw [if_neg hs, if_neg hs, ih, List.flatMap_append, List.flatMap_cons]
      have h32 : ∀ b : Bool, (if b = true then ([32] : List Nat) else []).flatMap enc = if b = true then [32] else [] := by
        intro b
        cases b
        · rfl
        · rw [if_pos rfl, if_pos rfl, List.flatMap_cons, List.flatMap_nil, enc_sp]; rfl
      rw [h32]
      have hE := enc_ne (low p.1)
      generalize enc (low p.1) = E at *
      have hne : (acc ++ ((if (g && !acc.isEmpty) = true then [32] else []) ++ E)).isEmpty = false := by
        cases E with
        | nil => exact absurd rfl hE
        | cons a b => simp
      rw [hne]
      simp only [List.append_assoc]; rfl
def foldC (cs : List Nat) : List Nat := outC false false cs
theorem foldL_out (s : ByteArray) : foldL s = (foldC ((pts s).map (·.1))).flatMap enc := by
  unfold foldL
  rw [foldP_out]; rfl
theorem low_low (c : Nat) : low (low c) = low c := by
  have key : lowerZ (lowerZ c) = lowerZ c := by
    generalize (c : Int) = z
    have h := show lowerZ z = if (65 ≤ z ∧ z ≤ 90) ∨ (192 ≤ z ∧ z ≤ 222 ∧ z ≠ 215) ∨ (913 ≤ z ∧ z ≤ 939 ∧ z ≠ 930) ∨ (1040 ≤ z ∧ z ≤ 1071) then z + 32 else if 1024 ≤ z ∧ z ≤ 1039 then z + 80 else z from rfl
    rw [h]
    unfold lowerZ
    (repeat' split) <;> omega
  unfold low
  have h : 0 ≤ lowerZ c := by unfold lowerZ; (repeat' split) <;> omega
  rw [Int.toNat_of_nonneg h, key]
theorem low_space (c : Nat) : spaceB (low c) = spaceB c := by
  have h : (low c : Int) = lowerZ c := by
    unfold low
    rw [Int.toNat_of_nonneg (by unfold lowerZ; (repeat' split) <;> omega)]
  unfold spaceB
  rw [h]
  unfold lowerZ
  (repeat' split) <;> first | rfl | (rw [Bool.eq_iff_iff]; simp; omega)
theorem low_scalar (c : Nat) (h : Scalar c) : Scalar (low c) := by
  have e : (low c : Int) = lowerZ c := by
    unfold low
    rw [Int.toNat_of_nonneg (by unfold lowerZ; (repeat' split) <;> omega)]
  unfold Scalar at *
  have : lowerZ c = c ∨ (lowerZ c ≤ 2000 ∧ 0 ≤ lowerZ c) := by unfold lowerZ; (repeat' split) <;> omega
  omega
theorem outC_good (cs : List Nat) (P : Nat → Prop) (h32 : P 32) (hl : ∀ c, P c → P (low c)) : ∀ (g ne : Bool), (∀ c ∈ cs, spaceB c = true ∨ P c) → ∀ d ∈ outC g ne cs, P d := by
  induction cs with
  | nil => intro g ne _ d hd; simp [outC] at hd
  | cons c cs ih =>
    intro g ne h d hd
    simp only [outC] at hd
    by_cases hs : spaceB c = true
    · rw [if_pos hs] at hd; exact ih _ _ (fun x hx => h x (by simp [hx])) d hd
    · rw [if_neg hs] at hd
      rcases List.mem_append.1 hd with hd | hd
      · split at hd
        · simp at hd; subst hd; exact h32
        · simp at hd
      · rcases List.mem_cons.1 hd with rfl | hd
        · rcases h c (by simp) with h' | h'
          · exact absurd h' hs
          · exact hl c h'
        · exact ih _ _ (fun x hx => h x (by simp [hx])) d hd
theorem outC_false (cs : List Nat) : ∀ g g' : Bool, outC g false cs = outC g' false cs := by
  induction cs with
  | nil => intros; rfl
  | cons c cs ih =>
    intro g g'
    simp only [outC, Bool.and_false]
/-- Folding what is folded. -/
theorem outC_twice (cs : List Nat) : outC false true (outC false true cs) = outC false true cs ∧ outC false true (outC true true cs) = outC true true cs := by
  induction cs with
  | nil => exact ⟨rfl, rfl⟩
  | cons c cs ih =>
    have hl : ∀ X, outC false true (low c :: X) = if spaceB c = true then outC true true X else low c :: outC false true X := fun X => by
      simp only [outC, low_space, low_low, Bool.false_and]; rfl
    by_cases hs : spaceB c = true
    · have e1 : outC false true (c :: cs) = outC true true cs := by simp [outC, hs]
      have e2 : outC true true (c :: cs) = outC true true cs := by simp [outC, hs]
      rw [e1, e2]; exact ⟨ih.2, ih.2⟩
    · have e1 : outC false true (c :: cs) = low c :: outC false true cs := by simp [outC, hs]
      have e2 : outC true true (c :: cs) = 32 :: low c :: outC false true cs := by simp [outC, hs]
      rw [e1, e2]
      refine ⟨by rw [hl, if_neg hs, ih.1], ?_⟩
      have e3 : ∀ X, outC false true (32 :: X) = outC true true X := fun X => by simp [outC, show spaceB 32 = true from by decide]
      have e4 : ∀ X, outC true true (low c :: X) = 32 :: low c :: outC false true X := fun X => by simp [outC, low_space, hs, low_low]
      rw [e3, e4, ih.1]
theorem outC_fold (cs : List Nat) (ne : Bool) : outC true ne (foldC cs) = outC true ne cs := by
  unfold foldC
  induction cs with
  | nil => rfl
  | cons c cs ih =>
    by_cases hs : spaceB c = true
    · have e1 : outC false false (c :: cs) = outC false false cs := by simp only [outC, if_pos hs]; exact outC_false cs true false
      have e2 : outC true ne (c :: cs) = outC true ne cs := by simp [outC, hs]
      rw [e1, e2, ih]
    · have e1 : outC false false (c :: cs) = low c :: outC false true cs := by simp [outC, hs]
      rw [e1]
      simp only [outC, low_space, low_low, if_neg hs, (outC_twice cs).1]
theorem foldC_fold (cs : List Nat) : foldC (foldC cs) = foldC cs := by
  have := outC_fold cs false
  rw [outC_false _ true false] at this
  unfold foldC at *
  rw [this, outC_false cs true false]
theorem foldC_scalar (cs : List Nat) (h : ∀ c ∈ cs, Scalar c) : ∀ d ∈ foldC cs, Scalar d :=
  outC_good cs Scalar (Or.inl (by omega)) low_scalar _ _ fun c hc => Or.inr (h c hc)
theorem codes_scalar (s : ByteArray) : ∀ c ∈ (pts s).map (·.1), Scalar c := by
  intro c hc
  obtain ⟨p, hp, rfl⟩ := List.mem_map.1 hc
  exact pts_scalar s p hp
theorem pts_foldL (s : ByteArray) : pts (mk (foldL s)) = (foldC ((pts s).map (·.1))).map withLen := by
  rw [foldL_out]; exact pts_enc _ (foldC_scalar _ (codes_scalar s))
theorem fold_fold (s : ByteArray) : foldL (mk (foldL s)) = foldL s := by
  rw [foldL_out (mk (foldL s)), pts_foldL, map_withLen, foldC_fold, ← foldL_out]
/-- The code points, put together. -/
def again (s : ByteArray) : ByteArray := mk (((pts s).map (·.1)).flatMap enc)
theorem dec_ascii_head (x : UInt8) (b : List UInt8) (hx : x.toNat < 128) : decL (x :: b) = (x.toNat, 1) := by
  unfold decL Lib.decodeN
  have : atL (x :: b) 0 = x.toNat := rfl
  rw [this, if_pos hx]
end Go.Pub
namespace Go.Pub
theorem indexByte_neg (l : List UInt8) (c : UInt8) : -1 ≤ Lib.indexByte l c ∧ (decide (Lib.indexByte l c < 0) = !l.contains c) := by
  induction l with
  | nil => exact ⟨Int.le_refl _, rfl⟩
  | cons b l ih =>
    unfold Lib.indexByte
    by_cases h : b = c
    · subst h; simp
    · have h1 : (b == c) = false := by simpa using h
      have h2 : (c == b) = false := by simpa using fun e => h e.symm
      rw [h1]
      simp only [Bool.false_eq_true, if_false, List.contains_cons, h2, Bool.false_or]
      by_cases h3 : Lib.indexByte l c = -1
      · rw [show (Lib.indexByte l c == -1) = true by simpa using h3, if_pos rfl]
        refine ⟨by decide, ?_⟩
        rw [← ih.2, h3]
      · rw [show (Lib.indexByte l c == -1) = false by simpa using h3, if_neg (by decide)]
        have := ih.1
        refine ⟨by omega, ?_⟩
        rw [← ih.2]
        rw [decide_eq_false (by omega), decide_eq_false (by omega)]
def noLF (s : ByteArray) : Bool := !(bytesL s).contains 10
theorem noLF_iff (s : ByteArray) : noLF s = true ↔ ∀ k, k < s.size → bt s k ≠ 10 := by
  unfold noLF
  rw [Bool.not_eq_true', ← Bool.not_eq_true, List.contains_iff_mem]
  have key : ∀ k, k < s.size → ((bytesL s)[k]? = some (s.get! k)) := fun k hk => by
    unfold bytesL
    rw [Array.getElem?_toList]
    have : s.get! k = s.data[k]! := rfl
    rw [this, getElem!_pos s.data k hk, Array.getElem?_eq_getElem hk]
  constructor
  · intro h k hk e
    apply h
    have h10 : s.get! k = 10 := UInt8.toNat_inj.1 e
    have := key k hk
    rw [h10] at this
    exact List.mem_of_getElem? this
  · intro h hm
    obtain ⟨k, hk, he⟩ := List.mem_iff_getElem.1 hm
    have hk' : k < s.size := by have e : (bytesL s).length = s.size := Array.length_toList; omega
    have := key k hk'
    rw [List.getElem?_eq_getElem hk, he] at this
    injection this with this
    exact h k hk' (by unfold bt; rw [← this]; rfl)
end Go.Pub
namespace Go.Proofs.YtpoafhgbhnblmaaGreatDoor
open Go.RowKit Go.Pub
def lineB (s : ByteArray) : Bool := validB s && noLF s
set_option maxRecDepth 100000 in
set_option maxHeartbeats 2000000 in
theorem cleanLine_any (s : ByteArray) (w : World) (hs : s.size < 9223372036854775800) : Calls Tryz.prog 98 #[.string s] w fun e w' => e = .returned (.bool (lineB s)) ∧ Below w.heap.size w w' := by
  have HL : Hid (lineB s = (validB s && noLF s)) := Lib.hid rfl
  have HV := Lib.hid (valid_any s)
  have HX : Hid (∀ W, Calls Tryz.prog 91 #[.string s, .int .u8 10] W fun e w' => e = .returned (.int .i64 (Lib.indexByte (bytesL s) 10)) ∧ w' = W) := Lib.hid fun W => Tryz.strings_IndexByte s 10 W
  have HD : Hid (decide (Lib.indexByte (bytesL s) 10 < 0) = noLF s) := Lib.hid (indexByte_neg _ _).2
  generalize lineB s = R at *
  generalize validB s = V at *
  generalize Lib.indexByte (bytesL s) 10 = x at *
  cases V
  · go_enter Tryz.func98, Tryz.ntmps98
    go_wp2_with fail
    refine (HV.out _ hs).mono ?_
    rintro e w1 ⟨rfl, b1⟩
    go_wp2_with fail
    go_ret
    exact ⟨ret_bool (by rw [HL.out]; rfl), b1⟩
  · go_enter Tryz.func98, Tryz.ntmps98
    go_wp2_with fail
    refine (HV.out _ hs).mono ?_
    rintro e w1 ⟨rfl, b1⟩
    go_wp2_with fail
    refine (HX.out _).mono ?_
    rintro e w2 ⟨rfl, rfl⟩
    go_wp2
    go_ret
    exact ⟨ret_bool (by rw [HL.out, ← HD.out]; rfl), b1⟩

end Go.Proofs.YtpoafhgbhnblmaaGreatDoor
namespace Go.Pub
/-- What stands between quotation marks from place i on, and the place behind. -/
def qv (s : ByteArray) : Nat → Nat → List UInt8 → Option (List UInt8 × Nat)
  | 0, _, _ => none
  | f + 1, i, acc =>
    if i < s.size then
      (if bt s i = 34 then some (acc, i + 1)
       else if bt s i = 92 then (if i + 1 < s.size ∧ (bt s (i + 1) = 34 ∨ bt s (i + 1) = 92) then qv s f (i + 2) (acc ++ [s.get! (i + 1)]) else none)
       else qv s f (i + 1) (acc ++ [s.get! i]))
    else none
theorem qv_end (s : ByteArray) (f i : Nat) (acc : List UInt8) (h : ¬ i < s.size) : qv s f i acc = none := by
  cases f <;> simp [qv, h]
theorem qv_quote (s : ByteArray) (f i : Nat) (acc : List UInt8) (h : i < s.size) (hf : s.size ≤ i + f) (hb : bt s i = 34) : qv s f i acc = some (acc, i + 1) := by
  obtain ⟨g, rfl⟩ : ∃ g, f = g + 1 := ⟨f - 1, by omega⟩
  simp [qv, h, hb]
theorem qv_esc (s : ByteArray) (f i : Nat) (acc : List UInt8) (h : i < s.size) (hf : s.size ≤ i + f) (hb : bt s i = 92) : qv s f i acc = if i + 1 < s.size ∧ (bt s (i + 1) = 34 ∨ bt s (i + 1) = 92) then qv s (f - 1) (i + 2) (acc ++ [s.get! (i + 1)]) else none := by
  obtain ⟨g, rfl⟩ : ∃ g, f = g + 1 := ⟨f - 1, by omega⟩
  simp only [qv, if_pos h, if_neg (show ¬ bt s i = 34 by omega), if_pos hb, Nat.add_sub_cancel]
theorem qv_plain (s : ByteArray) (f i : Nat) (acc : List UInt8) (h : i < s.size) (hf : s.size ≤ i + f) (h1 : bt s i ≠ 34) (h2 : bt s i ≠ 92) : qv s f i acc = qv s (f - 1) (i + 1) (acc ++ [s.get! i]) := by
  obtain ⟨g, rfl⟩ : ∃ g, f = g + 1 := ⟨f - 1, by omega⟩
  simp only [qv, if_pos h, if_neg h1, if_neg h2, Nat.add_sub_cancel]
theorem qv_len (s : ByteArray) : ∀ f i acc l j, qv s f i acc = some (l, j) → l.length ≤ acc.length + (s.size - i) ∧ i < j ∧ j ≤ s.size
  | 0, i, acc, l, j, h => by simp [qv] at h
  | f + 1, i, acc, l, j, h => by
    unfold qv at h
    split at h
    · rename_i hi
      split at h
      · injection h with h; injection h with h1 h2; subst h1 h2; omega
      · split at h
        · split at h
          · rename_i hq
            have := qv_len s f _ _ l j h
            simp at this; omega
          · cases h
        · have := qv_len s f _ _ l j h
          simp at this; omega
    · cases h
end Go.Pub
namespace Go.Proofs.YtpoafhgbhnblmaaGreatDoor
open Go.RowKit Go.Pub
def valOf (o : Option (List UInt8 × Nat)) : ByteArray × Nat × Bool :=
  match o with
  | some (l, j) => (mk l, j, lineB (mk l))
  | none => (⟨#[]⟩, 0, false)
def TripleBelow (r : ByteArray × Nat × Bool) (w : World) (e : Ending) (w' : World) : Prop := e = .returned (.tuple #[.string r.1, .int .i64 r.2.1, .bool r.2.2]) ∧ Below w.heap.size w w'
theorem byte_cell (s : ByteArray) (k : Nat) : Lib.byteCells [s.get! k] = [.int .u8 (bt s k)] := rfl
def VRel (s : ByteArray) (R : Option (List UInt8 × Nat)) (w : World) (i : Value) (wr : World) : Prop :=
  ∃ (k f : Nat) (acc : List UInt8), i = .int .i64 k ∧ Lib.IsBuilderF 158 5 w.heap.size w.heap.size (Lib.byteCells acc) wr ∧ Below w.heap.size w wr ∧ qv s f k acc = R ∧ s.size ≤ k + f ∧ acc.length ≤ k ∧ w.heap.size < wr.heap.size
set_option maxRecDepth 100000 in
set_option maxHeartbeats 8000000 in
theorem readValue_q (s : ByteArray) (i : Nat) (w : World) (hs : s.size ≤ 1000000) (hi : i < s.size) (hq : bt s i = 34) : Calls Tryz.prog 232 #[.string s, .int .i64 i] w (TripleBelow (valOf (qv s s.size (i + 1) [])) w) := by
  have hlt0 : ((s[i].toNat : Nat) : Int) < 256 := by rw [get_bt s i hi]; have := bt_lt s i; omega
  have z0 : (((s[i].toNat : Nat) : Int) != 34) = false := by rw [get_bt s i hi, hq]; rfl
  have hlenq : Hid (∀ l j, qv s s.size (i + 1) [] = some (l, j) → l.length ≤ s.size) := Lib.hid fun l j h => by
    have := (qv_len s _ _ _ l j h).1; simp at this; omega
  have Hq := Lib.hid hq
  have d0 : decide (s.size ≤ i) = false := decide_eq_false (by omega)
  clear hq
  generalize hR : qv s s.size (i + 1) [] = R at *
  have HR := Lib.hid hR
  clear hR
  have HVO : Hid (∀ l j, R = some (l, j) → valOf R = (mk l, j, lineB (mk l))) := Lib.hid fun l j h => by rw [h]; rfl
  have HVN : Hid (R = none → valOf R = (⟨#[]⟩, 0, false)) := Lib.hid fun h => by rw [h]; rfl
  generalize valOf R = T at *
  go_enter Tryz.func232, Tryz.ntmps232
  go_wp2
  go_loopw [8] (fun v wr => VRel s R w v wr) (fun v _ => s.size - (intOf v).toNat)
  case atStart => exact ⟨i + 1, s.size, [], by go_num, Lib.IsBuilderF.of (Lib.fresh_isBuilder 158 5 w), (Below.refl _ w).alloc (Nat.le_refl _) _, HR.out, by omega, by simp, by simp⟩
  case round =>
    obtain ⟨k, f, acc, rfl, hI, hbw, hacc, hf, hal, hsz⟩ := hrel
    have Hacc := Lib.hid hacc
    clear hacc
    by_cases hk : k < s.size
    · have hb := bt_lt s k
      have hlt : ((s[k].toNat : Nat) : Int) < 256 := by rw [get_bt s k hk]; omega
      have hbi := Lib.hid (bt_int s k hk)
      by_cases c1 : bt s k = 34
      · have z1 : (((s[k].toNat : Nat) : Int) == 34) = true := by rw [get_bt s k hk, c1]; rfl
        have hT := Lib.hid (HVO.out acc (k + 1) (by rw [← Hacc.out, qv_quote s f k acc hk hf c1]))
        have hll : acc.length ≤ s.size := hlenq.out acc (k + 1) (by rw [← Hacc.out, qv_quote s f k acc hk hf c1])
        have HCL := Lib.hid (cleanLine_any (mk acc))
        have hms : (mk acc).size ≤ 1000000 := by rw [← bytesL_length, bytesL_mk']; omega
        clear c1
        go_wp2_with fail
        refine (Tryz.Builder_String_any_k w.heap.size w.heap.size acc _ hI (by omega)).mono ?_
        rintro e W1 ⟨rfl, h1, b1, _⟩
        have hz1 := b1.size
        go_wp2_with fail
        refine (Tryz.Builder_String_any_k w.heap.size w.heap.size acc _ h1 (by omega)).mono ?_
        rintro e W2 ⟨rfl, h2, b2, _⟩
        have hz2 := b2.size
        go_wp2_with fail
        refine (HCL.out _ (by omega)).mono ?_
        rintro e W3 ⟨rfl, b3⟩
        go_wp2
        go_ret3
        refine ⟨?_, (((hbw.trans b1).trans b2).trans (b3.mono (by omega)))⟩
        rw [hT.out]; rfl
      · have z1 : (((s[k].toNat : Nat) : Int) == 34) = false := by rw [get_bt s k hk, beq_eq_false_iff_ne]; omega
        by_cases c2 : bt s k = 92
        · have z2 : (((s[k].toNat : Nat) : Int) == 92) = true := by rw [get_bt s k hk, c2]; rfl
          have hst := Lib.hid (qv_esc s f k acc hk hf c2)
          clear c1 c2
          by_cases hk1 : k + 1 < s.size
          · have hb1 := bt_lt s (k + 1)
            have hlt1 : ((s[k + 1].toNat : Nat) : Int) < 256 := by rw [get_bt s _ hk1]; omega
            have hbi1 := Lib.hid (bt_int s (k + 1) hk1)
            by_cases c3 : bt s (k + 1) = 34 ∨ bt s (k + 1) = 92
            · have hR1 := Lib.hid (hst.out.symm.trans Hacc.out)
              have hR2 : Hid (qv s (f - 1) (k + 2) (acc ++ [s.get! (k + 1)]) = R) := Lib.hid (by rw [← hR1.out, if_pos ⟨hk1, c3⟩])
              have cc : (((s[k + 1].toNat : Nat) : Int) != 34) = false ∨ ((((s[k + 1].toNat : Nat) : Int) != 34) = true ∧ (((s[k + 1].toNat : Nat) : Int) != 92) = false) := by
                rw [get_bt s _ hk1]
                rcases c3 with c | c
                · left; rw [c]; rfl
                · right; rw [c]; exact ⟨rfl, rfl⟩
              clear c3
              rcases cc with z3 | ⟨z3, z4⟩
              all_goals
                go_wp2_with fail
                refine (writeByte_k w.heap.size w.heap.size _ _ _ hI (by rw [Lib.byteCells_length]; omega) (by omega)).mono ?_
                rintro e W1 ⟨rfl, h1, b1, _⟩
                have hz1 := b1.size
                go_wp2
                go_roundw
                case rel => exact ⟨k + 2, f - 1, acc ++ [s.get! (k + 1)], by go_num, by rw [Lib.byteCells_append, byte_cell, ← hbi1.out]; exact Or.inr h1, hbw.trans b1, hR2.out, by omega, by simp; omega, by omega⟩
                case measure => simp [intOf]; omega
            · have hRn : Hid (T = (⟨#[]⟩, 0, false)) := Lib.hid (HVN.out (by rw [← Hacc.out, hst.out, if_neg (by intro h; exact c3 h.2)]))
              have z3 : (((s[k + 1].toNat : Nat) : Int) != 34) = true := by rw [get_bt s _ hk1]; simp; omega
              have z4 : (((s[k + 1].toNat : Nat) : Int) != 92) = true := by rw [get_bt s _ hk1]; simp; omega
              clear c3
              go_wp2_with fail
              go_ret3
              refine ⟨?_, hbw⟩
              rw [hRn.out]; rfl
          · have hRn : Hid (T = (⟨#[]⟩, 0, false)) := Lib.hid (HVN.out (by rw [← Hacc.out, hst.out, if_neg (by intro h; exact hk1 h.1)]))
            go_wp2_with fail
            go_ret3
            refine ⟨?_, hbw⟩
            rw [hRn.out]; rfl
        · have z2 : (((s[k].toNat : Nat) : Int) == 92) = false := by rw [get_bt s k hk, beq_eq_false_iff_ne]; omega
          have hR2 : Hid (qv s (f - 1) (k + 1) (acc ++ [s.get! k]) = R) := Lib.hid (by rw [← Hacc.out, qv_plain s f k acc hk hf c1 c2])
          clear c1 c2
          go_wp2_with fail
          refine (writeByte_k w.heap.size w.heap.size _ _ _ hI (by rw [Lib.byteCells_length]; omega) (by omega)).mono ?_
          rintro e W1 ⟨rfl, h1, b1, _⟩
          have hz1 := b1.size
          go_wp2
          go_roundw
          case rel => exact ⟨k + 1, f - 1, acc ++ [s.get! k], by go_num, by rw [Lib.byteCells_append, byte_cell, ← hbi.out]; exact Or.inr h1, hbw.trans b1, hR2.out, by omega, by simp; omega, by omega⟩
          case measure => simp [intOf]; omega
    · have hRn : Hid (T = (⟨#[]⟩, 0, false)) := Lib.hid (HVN.out (by rw [← Hacc.out, qv_end s f k acc hk]))
      go_wp2
      go_ret3
      refine ⟨?_, hbw⟩
      rw [hRn.out]; rfl

end Go.Proofs.YtpoafhgbhnblmaaGreatDoor
namespace Go.Proofs.YtpoafhgbhnblmaaGreatDoor
open Go.RowKit Go.Pub
/-- The value that attr.readValue gives where no quotation mark stands. -/
def bareVal (s : ByteArray) (i : Nat) : ByteArray × Nat × Bool := (s.extract i (wordAt s i), wordAt s i, nameB (s.extract i (wordAt s i)))
theorem extract_size (s : ByteArray) (i j : Nat) (h : i ≤ j) (hj : j ≤ s.size) : (s.extract i j).size = j - i := by
  rw [ByteArray.size_extract]; omega
set_option maxRecDepth 100000 in
set_option maxHeartbeats 1000000 in
theorem readValue_n (s : ByteArray) (i : Nat) (w : World) (hs : s.size ≤ 1000000) (hi : i ≤ s.size) (hq : ¬ (i < s.size ∧ bt s i = 34)) : Calls Tryz.prog 232 #[.string s, .int .i64 i] w (TripleBelow (bareVal s i) w) := by
  have hwb := wEnd_bd s (s.size - i) i
  have hw1 : i ≤ wordAt s i := hwb.1
  have hw2 : wordAt s i ≤ s.size := hwb.2 hi
  clear hwb
  have HW := Lib.hid (wordEnd_any s i)
  have HN := Lib.hid (name_any (s.extract i (wordAt s i)))
  have hsz : (s.extract i (wordAt s i)).size ≤ 1000000 := by rw [extract_size s i _ hw1 hw2]; omega
  have HB : Hid (bareVal s i = (s.extract i (wordAt s i), wordAt s i, nameB (s.extract i (wordAt s i)))) := Lib.hid rfl
  generalize bareVal s i = T at *
  generalize wordAt s i = j at *
  have HM : ∀ w : World, (Builtin.min_ #[3, 3] 3 #[.int .i64 i, .int .i64 s.size]).run Tryz.prog w = .ok (.int .i64 i) w := fun w => by rw [run_min_int2, if_neg (by omega)]
  by_cases h1 : i < s.size
  · have hne : bt s i ≠ 34 := fun e => hq ⟨h1, e⟩
    have hlt0 : ((s[i].toNat : Nat) : Int) < 256 := by rw [get_bt s i h1]; have := bt_lt s i; omega
    have z0 : (((s[i].toNat : Nat) : Int) != 34) = true := by rw [get_bt s i h1]; simp; omega
    have d0 : decide (s.size ≤ i) = false := decide_eq_false (by omega)
    clear hq hne
    go_enter Tryz.func232, Tryz.ntmps232
    go_wp2_with fail
    ((with_reducible refine (HW.out _ (by omega)).mono ?_))
    rintro e w1 ⟨rfl, rfl⟩
    go_wp2_with fail
    ((with_reducible refine (HN.out _ (by omega)).mono ?_))
    rintro e w1 ⟨rfl, rfl⟩
    go_wp2
    go_ret3
    refine ⟨?_, Below.refl _ _⟩
    rw [HB.out]; rfl
  · obtain rfl : i = s.size := by omega
    have d0 : decide (s.size ≤ s.size) = true := decide_eq_true (Nat.le_refl _)
    clear hq
    go_enter Tryz.func232, Tryz.ntmps232
    go_wp2_with fail
    ((with_reducible refine (HW.out _ (by omega)).mono ?_))
    rintro e w1 ⟨rfl, rfl⟩
    go_wp2_with fail
    ((with_reducible refine (HN.out _ (by omega)).mono ?_))
    rintro e w1 ⟨rfl, rfl⟩
    go_wp2
    go_ret3
    refine ⟨?_, Below.refl _ _⟩
    rw [HB.out]; rfl

end Go.Proofs.YtpoafhgbhnblmaaGreatDoor
namespace Go.Pub
structure AttrL where
  id : ByteArray
  cl : List ByteArray
  pr : List (ByteArray × ByteArray)
def prs (l : List (ByteArray × ByteArray)) : List Value := l.flatMap fun p => [.string p.1, .string p.2]
theorem prs_at (l : List (ByteArray × ByteArray)) (k : Nat) (h : k < l.length) : (prs l)[k * 2]? = some (.string l[k].1) ∧ (prs l)[k * 2 + 1]? = some (.string l[k].2) := by
  induction l generalizing k with
  | nil => exact absurd h (by simp)
  | cons p l ih =>
    cases k with
    | zero => exact ⟨rfl, rfl⟩
    | succ k =>
      have := ih k (by simpa using h)
      unfold prs at this ⊢
      rw [List.flatMap_cons]
      have e1 : (k + 1) * 2 = (k * 2) + 2 := by omega
      rw [e1]
      exact this
def getL : List (ByteArray × ByteArray) → ByteArray → Option ByteArray
  | [], _ => none
  | p :: l, k => if p.1 = k then some p.2 else getL l k
theorem getL_hit (x : ByteArray) : ∀ (l : List (ByteArray × ByteArray)) (k : Nat) (h : k < l.length), l[k].1 = x → (∀ j (hj : j < l.length), j < k → l[j].1 ≠ x) → getL l x = some l[k].2
  | [], k, h, _, _ => absurd h (by simp)
  | p :: l, 0, h, e, _ => by
    have e' : p.1 = x := e
    simp [getL, e']
  | p :: l, k + 1, h, e, hno => by
    have h0 : p.1 ≠ x := hno 0 (by simp) (by omega)
    unfold getL
    rw [if_neg h0]
    exact getL_hit x l k (by simpa using h) e fun j hj hjk => hno (j + 1) (by simpa using hj) (by omega)
theorem getL_none (x : ByteArray) : ∀ (l : List (ByteArray × ByteArray)), (∀ j (hj : j < l.length), l[j].1 ≠ x) → getL l x = none
  | [], _ => rfl
  | p :: l, h => by
    unfold getL
    have h0 : p.1 ≠ x := h 0 (by simp)
    rw [if_neg h0]
    exact getL_none x l fun j hj => h (j + 1) (by simpa using hj)
def hasKeyL (l : List (ByteArray × ByteArray)) (k : ByteArray) : Bool := (getL l k).isSome
end Go.Pub
namespace Go.Proofs.YtpoafhgbhnblmaaGreatDoor
open Go.RowKit Go.Pub
set_option maxRecDepth 100000 in
set_option maxHeartbeats 1000000 in
theorem has_any (id : ByteArray) (A : Option Addr) (c B : Nat) (zs : List ByteArray) (v2 : Value) (x : ByteArray) (w : World) (hB : B ≤ w.heap.size) (hr : Reads w B 1 A zs.length (strs zs)) (hn : zs.length ≤ 1000000) :
    Calls Tryz.prog 253 #[.agg #[.string id, .slice A zs.length c, v2], .string x] w fun e w' => e = .returned (.bool (Lib.containsS zs x)) ∧ Below w.heap.size w w' := by
  have HC : Hid (∀ W, Reads W B 1 A zs.length (strs zs) → Calls Tryz.prog 268 #[.slice A zs.length c, .string x] W fun e w' => e = .returned (.bool (Lib.containsS zs x)) ∧ w' = W) := Lib.hid fun W hr => by
    by_cases h0 : zs.length = 0
    · have hz : zs = [] := List.eq_nil_of_length_eq_zero h0
      subst hz
      exact Tryz.slices_Contains_string_empty A c x W
    · obtain ⟨b, off, rfl, hb, hcell⟩ := hr.row (by omega) (by omega)
      have := Tryz.slices_Contains_string b off zs.length c zs x W (Nat.le_refl _) (by omega) (fun j hj => by
        have := hcell j _ (strs_at zs j hj)
        rw [this]; simp [List.getD_eq_getElem?_getD, List.getElem?_eq_getElem hj])
      rw [List.take_length] at this
      exact this
  have HR := Lib.hid hr
  clear hr
  generalize Lib.containsS zs x = R at *
  go_enter Tryz.func253, Tryz.ntmps253
  go_wp2_with fail
  refine (HC.out _ (HR.out.alloc hB _)).mono ?_
  rintro e w1 ⟨rfl, rfl⟩
  go_wp2
  go_ret
  exact ⟨rfl, (Below.refl _ _).alloc (Nat.le_refl _) _⟩

def GetPost (zs : List (ByteArray × ByteArray)) (x : ByteArray) (w : World) (e : Ending) (w' : World) : Prop := e = .returned (.tuple #[.string ((getL zs x).getD ⟨#[]⟩), .bool (getL zs x).isSome]) ∧ Below w.heap.size w w'
theorem heap_alloc_size (w : World) (o : Obj) : (w.alloc o).heap.size = w.heap.size + 1 := by simp
set_option maxRecDepth 100000 in
set_option maxHeartbeats 1000000 in
theorem get_any (id : ByteArray) (A : Option Addr) (c B : Nat) (zs : List (ByteArray × ByteArray)) (v1 : Value) (x : ByteArray) (w : World) (hB : B ≤ w.heap.size) (hr : Reads w B 2 A zs.length (prs zs)) (hn : zs.length ≤ 1000000) :
    Calls Tryz.prog 254 #[.agg #[.string id, v1, .slice A zs.length c], .string x] w (GetPost zs x w) := by
  have HH : Hid (∀ (k : Nat) (h : k < zs.length), zs[k].1 = x → (∀ j (hj : j < zs.length), j < k → zs[j].1 ≠ x) → getL zs x = some zs[k].2) := Lib.hid fun k h e hno => getL_hit x zs k h e hno
  have HF : Hid ((∀ j (hj : j < zs.length), zs[j].1 ≠ x) → getL zs x = none) := Lib.hid fun h => getL_none x zs h
  have HG : Hid (∀ e w', e = Ending.returned (.tuple #[.string ((getL zs x).getD ⟨#[]⟩), .bool (getL zs x).isSome]) ∧ Below w.heap.size w w' → GetPost zs x w e w') := Lib.hid fun e w' h => h
  have HR := Lib.hid hr
  clear hr
  generalize getL zs x = R at *
  have hs1 : w.heap.size < w.heap.size + 1 := by omega
  go_enter Tryz.func254, Tryz.ntmps254
  go_wp2
  go_loopw [11] (fun v wr => ∃ k : Nat, v = .int .i64 k ∧ k ≤ zs.length ∧ Hid (∀ j (h : j < zs.length), j < k → zs[j].1 ≠ x) ∧ Hid (Below (w.heap.size + 1) (w.alloc (.cells #[.string id, v1, .slice A zs.length c] 43)) wr)) (fun v _ => zs.length - (intOf v).toNat)
  case atStart => exact ⟨0, rfl, by omega, Lib.hid fun j h hj => absurd hj (by omega), Lib.hid (Below.refl _ _)⟩
  case round =>
    obtain ⟨k, rfl, hk, HN, HBW⟩ := hrel
    have hrd := Lib.hid ((HR.out.alloc hB (.cells #[.string id, v1, .slice A zs.length c] 43)).below (HBW.out.mono (by omega)))
    have hsz := HBW.out.size
    simp only [heap_alloc_size] at hsz
    have hcb : wr.cell? ⟨w.heap.size, 2, none⟩ = some (.slice A zs.length c) := by
      have := HBW.out.cell (p := ⟨w.heap.size, 2, none⟩) hs1
      rw [this]; simp [go_sem]
    by_cases hlt : k < zs.length
    · obtain ⟨b, off, rfl, hb, hcell⟩ := hrd.out.row (by omega) (by omega)
      have hc := hcell _ _ (prs_at zs k hlt).1
      have hc2 := hcell _ _ (prs_at zs k hlt).2
      rw [← Nat.add_assoc] at hc2
      clear hcell
      by_cases he : zs[k].1 = x
      · have hR : Hid (R = some zs[k].2) := Lib.hid (HH.out k hlt he HN.out)
        have z1 : (zs[k].1.toList == x.toList) = true := (Lib.bytes_beq_iff _ _).2 he
        clear he
        go_wp2
        go_ret2
        refine HG.out _ _ ⟨?_, ?_⟩
        · rw [hR.out]; rfl
        · exact (((Below.refl _ _).alloc (Nat.le_refl _) _).trans (HBW.out.mono (by omega))).alloc (by omega) _
      · have HE := Lib.hid he
        have z1 : (zs[k].1.toList == x.toList) = false := (Lib.bytes_beq_false_iff _ _).2 he
        clear he
        go_wp2
        go_roundw
        case rel =>
          refine ⟨k + 1, by go_num, by omega, Lib.hid fun j h hj => ?_, Lib.hid ?_⟩
          · by_cases hj' : j < k
            · exact HN.out j h hj'
            · obtain rfl : j = k := by omega
              exact HE.out
          · exact HBW.out.alloc (by omega) _
        case measure => simp [intOf]; omega
    · obtain rfl : k = zs.length := by omega
      have hR : Hid (R = none) := Lib.hid (HF.out fun j hj => HN.out j hj hj)
      go_wp2
      go_ret2
      refine HG.out _ _ ⟨?_, ?_⟩
      · rw [hR.out]; rfl
      · exact ((Below.refl _ _).alloc (Nat.le_refl _) _).trans (HBW.out.mono (by omega))

end Go.Proofs.YtpoafhgbhnblmaaGreatDoor
namespace Go.Proofs.YtpoafhgbhnblmaaGreatDoor
open Go.RowKit Go.Pub
structure AttrCells (w : World) (g base : Nat) (a : AttrL) (vC vP : Value) : Prop where
  blk : Blk w g 43 #[.string a.id, vC, vP]
  cls : w.ownsRow base 9 1 vC a.cl.length (strs a.cl)
  prs : w.ownsRow base 81 2 vP a.pr.length (prs a.pr)
  lt : g < base
  le : base ≤ w.heap.size
  c32 : a.cl.length ≤ 32
  p32 : a.pr.length ≤ 32
def AttrAt (w : World) (g base : Nat) (a : AttrL) : Prop := ∃ vC vP, AttrCells w g base a vC vP
theorem AttrCells.below {w w' : World} {g base : Nat} {a : AttrL} {vC vP : Value} (h : AttrCells w g base a vC vP) (hb : Below w.heap.size w w') : AttrCells w' g base a vC vP :=
  ⟨h.blk.below hb (by have := h.lt; have := h.le; omega), own_below h.cls hb, own_below h.prs hb, h.lt, Nat.le_trans h.le hb.size, h.c32, h.p32⟩
def classE (a : AttrL) (name : ByteArray) : Nat := if Lib.containsS a.cl name = true then 7 else if 32 ≤ a.cl.length then 3 else 0
def classA (a : AttrL) (name : ByteArray) : AttrL := if classE a name = 0 then { a with cl := a.cl ++ [name] } else a
def ItemPost (e0 : Nat) (a' : AttrL) (g base : Nat) (w : World) (e : Ending) (w' : World) : Prop := e = .returned (.int .i64 e0) ∧ AttrAt w' g base a' ∧ BelowBut g base w w'
theorem str_info : (Tryz.prog.info? 9).map (fun i => (i.zero, i.size, i.bytes)) = some (some (.string ⟨#[]⟩), 1, 16) := by kernel_rfl
theorem pair_info : (Tryz.prog.info? 81).map (fun i => (i.zero, i.size, i.bytes)) = some (some (.agg #[.string ⟨#[]⟩, .string ⟨#[]⟩]), 2, 32) := by kernel_rfl
theorem class_done {w1 w2 : World} {g base : Nat} {a : AttrL} {vC vP v' : Value} {name : ByteArray} (h : AttrCells w1 g base a vC vP)
    (hown : w2.ownsRow base 9 1 v' (a.cl.length + 1) (strs a.cl ++ [.string name])) (hg : (w1.alloc (.cells #[.string name] 9)).grownBy w2 vC.ownBlock) (hl : a.cl.length < 32) :
    AttrCells (w2.setCell ⟨g, 1, none⟩ v') g base { a with cl := a.cl ++ [name] } v' vP ∧ BelowBut g base w1 (w2.setCell ⟨g, 1, none⟩ v') := by
  have hgne : some g ≠ vC.ownBlock := fun e => by have := (h.cls.lt g e.symm).1; have := h.lt; omega
  refine ⟨⟨?_, ?_, ?_, h.lt, ?_, ?_, h.p32⟩, ?_⟩
  · have := ((h.blk.alloc (.cells #[.string name] 9)).grown hg hgne).set_ 1 v'
    simpa using this
  · refine ownsRow_setCell_below ?_ h.lt _
    show w2.ownsRow base 9 1 v' (a.cl ++ [name]).length (strs (a.cl ++ [name]))
    unfold strs at hown ⊢
    rw [List.length_append, List.map_append]
    exact hown
  · exact ownsRow_setCell_below ((h.prs.alloc _).kept hg (own_ne h.prs h.cls (by decide))) h.lt _
  · have := hg.size; have := h.le; simp [World.setCell] at *; omega
  · simp; omega
  · refine BelowBut.store ?_ _ _
    refine .of (((Below.refl _ _).alloc h.le _).grown hg (by have := h.le; simp; omega) (fun k hk => (h.cls.lt k hk).1))
set_option maxRecDepth 100000 in
set_option maxHeartbeats 1000000 in
theorem addClass_any (w : World) (g base : Nat) (a : AttrL) (name : ByteArray) (h : AttrAt w g base a) :
    Calls Tryz.prog 231 #[.pointer (some ⟨g, 0, none⟩), .string name] w (ItemPost (classE a name) (classA a name) g base w) := by
  obtain ⟨vC, vP, hA⟩ := h
  obtain ⟨AC, cC, rfl⟩ := own_slice hA.cls
  obtain ⟨i0, hi0, hz0, hz1, hz2⟩ := info_parts str_info
  have HH := Lib.hid (has_any a.id AC cC w.heap.size a.cl vP name w (Nat.le_refl _) (Reads.of_own hA.cls) (by have := hA.c32; omega))
  have hc0 : w.cell? ⟨g, 0, none⟩ = some (.string a.id) := hA.blk.cell 0
  have hc1 : w.cell? ⟨g, 1, none⟩ = some (.slice AC a.cl.length cC) := hA.blk.cell 1
  have hc2 : w.cell? ⟨g, 2, none⟩ = some vP := hA.blk.cell 2
  have hgl := hA.blk.lt
  have HE : Hid (classE a name = if Lib.containsS a.cl name = true then 7 else if 32 ≤ a.cl.length then 3 else 0) := Lib.hid rfl
  have HA : Hid (classA a name = if classE a name = 0 then { a with cl := a.cl ++ [name] } else a) := Lib.hid rfl
  generalize classA a name = A1 at *
  generalize classE a name = E1 at *
  generalize Lib.containsS a.cl name = R at *
  cases R
  · by_cases hl : 32 ≤ a.cl.length
    · have hE : Hid (E1 = 3) := Lib.hid (by rw [HE.out, if_neg (by decide), if_pos hl])
      go_enter Tryz.func231, Tryz.ntmps231
      go_wp2_with fail
      refine HH.out.mono ?_
      rintro e w1 ⟨rfl, b1⟩
      have k1 := (hA.below b1).blk.cell 1
      simp at k1
      go_wp2
      go_ret
      refine ⟨by rw [hE.out]; rfl, ?_, .of (b1.mono hA.le)⟩
      rw [HA.out, if_neg (by rw [hE.out]; decide)]
      exact ⟨_, _, hA.below b1⟩
    · have hE : Hid (E1 = 0) := Lib.hid (by rw [HE.out, if_neg (by decide), if_neg hl])
      have hl' : a.cl.length < 32 := by omega
      go_enter Tryz.func231, Tryz.ntmps231
      go_wp2_with fail
      refine HH.out.mono ?_
      rintro e w1 ⟨rfl, b1⟩
      have hA1 := hA.below b1
      have k1 := hA1.blk.cell 1
      simp at k1
      have f1 := hA1.blk.frozen 1
      have hgl1 := hA1.blk.lt
      go_wp2_with (at_builtin; refine wpList_append_own _ rfl _ _ 22 rfl base 9 i0 _ 1 16 Tryz.underlying22 hi0 hz0 hz1 hz2 rfl (by decide) _ _ _ rfl (hA1.cls.alloc _) ⟨w1.heap.size, 0, none⟩ 1 1 [.string name] rfl rfl ?c1 ?c2 ?c3 ?c4 ?c5 ?_)
      case c1 =>
        intro j u hj
        match j, hj with
        | 0, hj => simp at hj; subst hj; simp [Addr.add]
      case c2 => intro u hu; simp at hu; subst hu; rfl
      case c3 => unfold maxLen; omega
      case c4 => omega
      case c5 => have := hA1.le; simp; omega
      intro v' w2 hown2 hgrow _
      obtain ⟨A2, c2, rfl⟩ := own_slice hown2
      obtain ⟨hd1, hd2⟩ := class_done hA1 hown2 hgrow hl'
      have hgne : some g ≠ (Value.slice AC a.cl.length cC).ownBlock := fun e => by have := (hA1.cls.lt g e.symm).1; have := hA1.lt; omega
      have hb2 := (hA1.blk.alloc (.cells #[.string name] 9)).grown hgrow hgne
      have k2 := hb2.cell 1
      simp at k2
      have f2 := hb2.frozen 1
      go_wp2
      go_ret
      refine ⟨by rw [hE.out]; rfl, ?_, (BelowBut.of (b1.mono hA.le)).trans hd2⟩
      rw [HA.out, if_pos hE.out]
      exact ⟨_, _, hd1⟩
  · have hE : Hid (E1 = 7) := Lib.hid (by rw [HE.out, if_pos rfl])
    go_enter Tryz.func231, Tryz.ntmps231
    go_wp2_with fail
    refine HH.out.mono ?_
    rintro e w1 ⟨rfl, b1⟩
    go_wp2
    go_ret
    refine ⟨by rw [hE.out]; rfl, ?_, .of (b1.mono hA.le)⟩
    rw [HA.out, if_neg (by rw [hE.out]; decide)]
    exact ⟨_, _, hA.below b1⟩

end Go.Proofs.YtpoafhgbhnblmaaGreatDoor
namespace Go.Proofs.YtpoafhgbhnblmaaGreatDoor
open Go.RowKit Go.Pub
def pairE (a : AttrL) (key : ByteArray) : Nat := if hasKeyL a.pr key = true then 7 else if 32 ≤ a.pr.length then 3 else 0
def pairA (a : AttrL) (key val : ByteArray) : AttrL := if pairE a key = 0 then { a with pr := a.pr ++ [(key, val)] } else a
theorem pair_done {w1 w2 : World} {g base : Nat} {a : AttrL} {vC vP v' : Value} {key val : ByteArray} (h : AttrCells w1 g base a vC vP)
    (hown : w2.ownsRow base 81 2 v' (a.pr.length + 1) (prs a.pr ++ [.string key, .string val])) (hg : (w1.alloc (.cells #[.string key, .string val] 81)).grownBy w2 vP.ownBlock) (hl : a.pr.length < 32) :
    AttrCells (w2.setCell ⟨g, 2, none⟩ v') g base { a with pr := a.pr ++ [(key, val)] } vC v' ∧ BelowBut g base w1 (w2.setCell ⟨g, 2, none⟩ v') := by
  have hgne : some g ≠ vP.ownBlock := fun e => by have := (h.prs.lt g e.symm).1; have := h.lt; omega
  refine ⟨⟨?_, ?_, ?_, h.lt, ?_, h.c32, ?_⟩, ?_⟩
  · have := ((h.blk.alloc (.cells #[.string key, .string val] 81)).grown hg hgne).set_ 2 v'
    simpa using this
  · exact ownsRow_setCell_below ((h.cls.alloc _).kept hg (own_ne h.cls h.prs (by decide))) h.lt _
  · refine ownsRow_setCell_below ?_ h.lt _
    show w2.ownsRow base 81 2 v' (a.pr ++ [(key, val)]).length (prs (a.pr ++ [(key, val)]))
    unfold prs at hown ⊢
    rw [List.length_append, List.flatMap_append]
    exact hown
  · have := hg.size; have := h.le; simp [World.setCell] at *; omega
  · simp; omega
  · refine BelowBut.store ?_ _ _
    refine .of (((Below.refl _ _).alloc h.le _).grown hg (by have := h.le; simp; omega) (fun k hk => (h.prs.lt k hk).1))
set_option maxRecDepth 100000 in
set_option maxHeartbeats 1000000 in
theorem addPair_any (w : World) (g base : Nat) (a : AttrL) (key val : ByteArray) (h : AttrAt w g base a) :
    Calls Tryz.prog 233 #[.pointer (some ⟨g, 0, none⟩), .string key, .string val] w (ItemPost (pairE a key) (pairA a key val) g base w) := by
  obtain ⟨vC, vP, hA⟩ := h
  obtain ⟨AC, cC, rfl⟩ := own_slice hA.prs
  obtain ⟨i0, hi0, hz0, hz1, hz2⟩ := info_parts pair_info
  have HH := Lib.hid (get_any a.id AC cC w.heap.size a.pr vC key w (Nat.le_refl _) (Reads.of_own hA.prs) (by have := hA.p32; omega))
  have hc0 : w.cell? ⟨g, 0, none⟩ = some (.string a.id) := hA.blk.cell 0
  have hc1 : w.cell? ⟨g, 1, none⟩ = some vC := hA.blk.cell 1
  have hc2 : w.cell? ⟨g, 2, none⟩ = some (.slice AC a.pr.length cC) := hA.blk.cell 2
  have hgl := hA.blk.lt
  have HE : Hid (pairE a key = if hasKeyL a.pr key = true then 7 else if 32 ≤ a.pr.length then 3 else 0) := Lib.hid rfl
  have HA : Hid (pairA a key val = if pairE a key = 0 then { a with pr := a.pr ++ [(key, val)] } else a) := Lib.hid rfl
  have HK : Hid (hasKeyL a.pr key = (getL a.pr key).isSome) := Lib.hid rfl
  have HG : Hid (∀ e w', GetPost a.pr key w e w' → e = .returned (.tuple #[.string ((getL a.pr key).getD ⟨#[]⟩), .bool (getL a.pr key).isSome]) ∧ Below w.heap.size w w') := Lib.hid fun e w' h => h
  generalize pairA a key val = A1 at *
  generalize pairE a key = E1 at *
  generalize hasKeyL a.pr key = R at *
  generalize getL a.pr key = G at *
  cases G with
  | none =>
    obtain rfl : R = false := HK.out
    by_cases hl : 32 ≤ a.pr.length
    · have hE : Hid (E1 = 3) := Lib.hid (by rw [HE.out, if_neg (by decide), if_pos hl])
      go_enter Tryz.func233, Tryz.ntmps233
      go_wp2_with fail
      refine HH.out.mono ?_
      intro e w1 hpost
      obtain ⟨rfl, b1⟩ := HG.out _ _ hpost
      clear hpost
      have k1 := (hA.below b1).blk.cell 2
      simp at k1
      go_wp2
      go_ret
      refine ⟨by rw [hE.out]; rfl, ?_, .of (b1.mono hA.le)⟩
      rw [HA.out, if_neg (by rw [hE.out]; decide)]
      exact ⟨_, _, hA.below b1⟩
    · have hE : Hid (E1 = 0) := Lib.hid (by rw [HE.out, if_neg (by decide), if_neg hl])
      have hl' : a.pr.length < 32 := by omega
      go_enter Tryz.func233, Tryz.ntmps233
      go_wp2_with fail
      refine HH.out.mono ?_
      intro e w1 hpost
      obtain ⟨rfl, b1⟩ := HG.out _ _ hpost
      clear hpost
      have hA1 := hA.below b1
      have k1 := hA1.blk.cell 2
      simp at k1
      have f1 := hA1.blk.frozen 2
      have hgl1 := hA1.blk.lt
      go_wp2_with (at_builtin; refine wpList_append_own _ rfl _ _ 41 rfl base 81 i0 _ 2 32 Tryz.underlying41 hi0 hz0 hz1 hz2 rfl (by decide) _ _ _ rfl (hA1.prs.alloc _) ⟨w1.heap.size, 0, none⟩ 1 1 [.string key, .string val] rfl rfl ?c1 ?c2 ?c3 ?c4 ?c5 ?_)
      case c1 =>
        intro j u hj
        match j, hj with
        | 0, hj => simp at hj; subst hj; simp [Addr.add]
        | 1, hj => simp at hj; subst hj; simp [Addr.add]
      case c2 => intro u hu; simp at hu; rcases hu with rfl | rfl <;> rfl
      case c3 => unfold maxLen; omega
      case c4 => omega
      case c5 => have := hA1.le; simp; omega
      intro v' w2 hown2 hgrow _
      obtain ⟨A2, c2, rfl⟩ := own_slice hown2
      obtain ⟨hd1, hd2⟩ := pair_done hA1 hown2 hgrow hl'
      have hgne : some g ≠ (Value.slice AC a.pr.length cC).ownBlock := fun e => by have := (hA1.prs.lt g e.symm).1; have := hA1.lt; omega
      have hb2 := (hA1.blk.alloc (.cells #[.string key, .string val] 81)).grown hgrow hgne
      have k2 := hb2.cell 2
      simp at k2
      have f2 := hb2.frozen 2
      go_wp2
      go_ret
      refine ⟨by rw [hE.out]; rfl, ?_, (BelowBut.of (b1.mono hA.le)).trans hd2⟩
      rw [HA.out, if_pos hE.out]
      exact ⟨_, _, hd1⟩
  | some y =>
    obtain rfl : R = true := HK.out
    have hE : Hid (E1 = 7) := Lib.hid (by rw [HE.out, if_pos rfl])
    go_enter Tryz.func233, Tryz.ntmps233
    go_wp2_with fail
    refine HH.out.mono ?_
    intro e w1 hpost
    obtain ⟨rfl, b1⟩ := HG.out _ _ hpost
    clear hpost
    go_wp2
    go_ret
    refine ⟨by rw [hE.out]; rfl, ?_, .of (b1.mono hA.le)⟩
    rw [HA.out, if_neg (by rw [hE.out]; decide)]
    exact ⟨_, _, hA.below b1⟩

end Go.Proofs.YtpoafhgbhnblmaaGreatDoor
namespace Go.Proofs.YtpoafhgbhnblmaaGreatDoor
open Go.RowKit Go.Pub
/-- The value at place i. -/
def valL (s : ByteArray) (i : Nat) : ByteArray × Nat × Bool := if i < s.size ∧ bt s i = 34 then valOf (qv s s.size (i + 1) []) else bareVal s i
theorem readValue_any (s : ByteArray) (i : Nat) (w : World) (hs : s.size ≤ 1000000) (hi : i ≤ s.size) : Calls Tryz.prog 232 #[.string s, .int .i64 i] w (TripleBelow (valL s i) w) := by
  unfold valL
  by_cases h : i < s.size ∧ bt s i = 34
  · rw [if_pos h]; exact readValue_q s i w hs h.1 h.2
  · rw [if_neg h]; exact readValue_n s i w hs hi h
/-- The item's name from place i on. -/
def nameAt (s : ByteArray) (i : Nat) : ByteArray := s.extract i (wordAt s i)
/-- A pair whose key ends at place t: the place behind, the error, the attributes. -/
def pairItem (a : AttrL) (s : ByteArray) (name : ByteArray) (t : Nat) : Nat × Nat × AttrL :=
  if t < s.size ∧ bt s t = 61 then (if (valL s (t + 1)).2.2 = true then ((valL s (t + 1)).2.1, pairE a name, pairA a name (valL s (t + 1)).1) else (0, 5, a)) else (0, 5, a)
/-- The item at place i: the place behind it, the error, the attributes. -/
def itemL (a : AttrL) (s : ByteArray) (i : Nat) : Nat × Nat × AttrL :=
  if bt s i = 35 then (if nameB (nameAt s (i + 1)) = true then (if a.id = ⟨#[]⟩ then (wordAt s (i + 1), 0, { a with id := nameAt s (i + 1) }) else (0, 7, a)) else (0, 5, a))
  else if bt s i = 46 then (if nameB (nameAt s (i + 1)) = true then (wordAt s (i + 1), classE a (nameAt s (i + 1)), classA a (nameAt s (i + 1))) else (0, 5, a))
  else if nameB (nameAt s i) = true then pairItem a s (nameAt s i) (wordAt s i) else (0, 5, a)
def ReadPost (r : Nat × Nat × AttrL) (g base : Nat) (w : World) (e : Ending) (w' : World) : Prop :=
  e = .returned (.tuple #[.int .i64 r.1, .int .i64 r.2.1]) ∧ AttrAt w' g base r.2.2 ∧ BelowBut g base w w'
theorem AttrAt.below {w w' : World} {g base : Nat} {a : AttrL} (h : AttrAt w g base a) (hb : Below w.heap.size w w') : AttrAt w' g base a := by
  obtain ⟨vC, vP, h⟩ := h
  exact ⟨vC, vP, h.below hb⟩
theorem AttrAt.le {w : World} {g base : Nat} {a : AttrL} (h : AttrAt w g base a) : base ≤ w.heap.size := by
  obtain ⟨vC, vP, h⟩ := h
  exact h.le
theorem AttrAt.setId {w : World} {g base : Nat} {a : AttrL} (h : AttrAt w g base a) (x : ByteArray) : AttrAt (w.setCell ⟨g, 0, none⟩ (.string x)) g base { a with id := x } := by
  obtain ⟨vC, vP, h⟩ := h
  refine ⟨vC, vP, ?_, ownsRow_setCell_below h.cls h.lt _, ownsRow_setCell_below h.prs h.lt _, h.lt, by simpa [World.setCell] using h.le, h.c32, h.p32⟩
  have := h.blk.set_ 0 (.string x)
  simpa using this
theorem toList_nil : (⟨#[]⟩ : ByteArray).toList = [] := by
  unfold ByteArray.toList ByteArray.toList.loop
  rfl
theorem toList_iff (a : ByteArray) : a.toList = [] ↔ a = ⟨#[]⟩ := by
  rw [← Lib.bytes_beq_iff, toList_nil, beq_iff_eq]
theorem nat_succ (i : Nat) : ((i + 1 : Nat) : Int) = (i : Int) + 1 := by omega
set_option maxRecDepth 100000 in
set_option maxHeartbeats 2000000 in
theorem readItem_id (w : World) (g base : Nat) (a : AttrL) (s : ByteArray) (i : Nat) (h : AttrAt w g base a) (hs : s.size ≤ 1000000) (hi : i < s.size) (hb : bt s i = 35) :
    Calls Tryz.prog 204 #[.pointer (some ⟨g, 0, none⟩), .string s, .int .i64 i] w (ReadPost (itemL a s i) g base w) := by
  have HI : Hid (itemL a s i = (if nameB (nameAt s (i + 1)) = true then (if a.id = ⟨#[]⟩ then (wordAt s (i + 1), 0, { a with id := nameAt s (i + 1) }) else (0, 7, a)) else (0, 5, a))) := Lib.hid (by unfold itemL; rw [if_pos hb])
  have hlt : ((s[i].toNat : Nat) : Int) < 256 := by rw [get_bt s i hi]; omega
  have z1 : (((s[i].toNat : Nat) : Int) == 35) = true := by rw [get_bt s i hi, hb]; rfl
  clear hb
  have hwb := wEnd_bd s (s.size - (i + 1)) (i + 1)
  have hw1 : i + 1 ≤ wordAt s (i + 1) := hwb.1
  have hw2 : wordAt s (i + 1) ≤ s.size := hwb.2 hi
  clear hwb
  have HW : Hid (∀ W, Calls Tryz.prog 97 #[.string s, .int .i64 ((i : Int) + 1)] W fun e w' => e = .returned (.int .i64 (wordAt s (i + 1))) ∧ W = w') := Lib.hid fun W => by rw [← nat_succ]; exact wordEnd_any s (i + 1) W (by omega)
  have HN : Hid (∀ W, Calls Tryz.prog 51 #[.string (s.extract (i + 1) (wordAt s (i + 1)))] W fun e w' => e = .returned (.bool (nameB (nameAt s (i + 1)))) ∧ W = w') := Lib.hid fun W => name_any _ W (by rw [extract_size s _ _ hw1 hw2]; omega)
  have HNA : Hid (nameAt s (i + 1) = s.extract (i + 1) (wordAt s (i + 1))) := Lib.hid rfl
  have HA := Lib.hid h
  obtain ⟨vC, vP, hA⟩ := h
  have hc0 : w.cell? ⟨g, 0, none⟩ = some (.string a.id) := hA.blk.cell 0
  have hf0 := hA.blk.frozen 0
  clear hA
  generalize itemL a s i = T at *
  generalize nameB (nameAt s (i + 1)) = nb at *
  generalize nameAt s (i + 1) = na at *
  generalize wordAt s (i + 1) = t at *
  cases nb
  · go_enter Tryz.func204, Tryz.ntmps204
    go_wp2_with fail
    ((with_reducible refine (HW.out _).mono ?_))
    rintro e w1 ⟨rfl, rfl⟩
    go_wp2_with fail
    ((with_reducible refine (HN.out _).mono ?_))
    rintro e w1 ⟨rfl, rfl⟩
    go_wp2_with fail
    go_ret2
    rw [HI.out]
    exact ⟨rfl, HA.out, .refl⟩
  · by_cases hid : a.id = ⟨#[]⟩
    · have hT : Hid (T = (t, 0, { a with id := na })) := Lib.hid (by rw [HI.out, if_pos rfl, if_pos hid])
      have y1 : a.id.toList = [] := (toList_iff _).2 hid
      have y2 : a.id.toList.isEmpty = true := by rw [y1]; rfl
      clear hid
      go_enter Tryz.func204, Tryz.ntmps204
      go_wp2_with fail
      ((with_reducible refine (HW.out _).mono ?_))
      rintro e w1 ⟨rfl, rfl⟩
      go_wp2_with fail
      ((with_reducible refine (HN.out _).mono ?_))
      rintro e w1 ⟨rfl, rfl⟩
      go_wp2_with fail
      go_ret2
      rw [hT.out, HNA.out]
      exact ⟨rfl, HA.out.setId _, BelowBut.refl.store _ _⟩
    · have hT : Hid (T = (0, 7, a)) := Lib.hid (by rw [HI.out, if_pos rfl, if_neg hid])
      have y1 : ¬ a.id.toList = [] := fun e => hid ((toList_iff _).1 e)
      have y2 : a.id.toList.isEmpty = false := by rw [List.isEmpty_eq_false_iff]; exact y1
      clear hid
      go_enter Tryz.func204, Tryz.ntmps204
      go_wp2_with fail
      ((with_reducible refine (HW.out _).mono ?_))
      rintro e w1 ⟨rfl, rfl⟩
      go_wp2_with fail
      ((with_reducible refine (HN.out _).mono ?_))
      rintro e w1 ⟨rfl, rfl⟩
      go_wp2_with fail
      go_ret2
      rw [hT.out]
      exact ⟨rfl, HA.out, .refl⟩

set_option maxRecDepth 100000 in
set_option maxHeartbeats 2000000 in
theorem readItem_cl (w : World) (g base : Nat) (a : AttrL) (s : ByteArray) (i : Nat) (h : AttrAt w g base a) (hs : s.size ≤ 1000000) (hi : i < s.size) (hb : bt s i = 46) :
    Calls Tryz.prog 204 #[.pointer (some ⟨g, 0, none⟩), .string s, .int .i64 i] w (ReadPost (itemL a s i) g base w) := by
  have HI : Hid (itemL a s i = (if nameB (nameAt s (i + 1)) = true then (wordAt s (i + 1), classE a (nameAt s (i + 1)), classA a (nameAt s (i + 1))) else (0, 5, a))) := Lib.hid (by unfold itemL; rw [if_neg (by omega), if_pos hb])
  have hlt : ((s[i].toNat : Nat) : Int) < 256 := by rw [get_bt s i hi]; omega
  have z1 : (((s[i].toNat : Nat) : Int) == 35) = false := by rw [get_bt s i hi, hb]; rfl
  have z2 : (((s[i].toNat : Nat) : Int) == 46) = true := by rw [get_bt s i hi, hb]; rfl
  clear hb
  have hwb := wEnd_bd s (s.size - (i + 1)) (i + 1)
  have hw1 : i + 1 ≤ wordAt s (i + 1) := hwb.1
  have hw2 : wordAt s (i + 1) ≤ s.size := hwb.2 hi
  clear hwb
  have HW : Hid (∀ W, Calls Tryz.prog 97 #[.string s, .int .i64 ((i : Int) + 1)] W fun e w' => e = .returned (.int .i64 (wordAt s (i + 1))) ∧ W = w') := Lib.hid fun W => by rw [← nat_succ]; exact wordEnd_any s (i + 1) W (by omega)
  have HN : Hid (∀ W, Calls Tryz.prog 51 #[.string (s.extract (i + 1) (wordAt s (i + 1)))] W fun e w' => e = .returned (.bool (nameB (nameAt s (i + 1)))) ∧ W = w') := Lib.hid fun W => name_any _ W (by rw [extract_size s _ _ hw1 hw2]; omega)
  have HC : Hid (Calls Tryz.prog 231 #[.pointer (some ⟨g, 0, none⟩), .string (s.extract (i + 1) (wordAt s (i + 1)))] w (ItemPost (classE a (nameAt s (i + 1))) (classA a (nameAt s (i + 1))) g base w)) := Lib.hid (addClass_any w g base a (nameAt s (i + 1)) h)
  have HA := Lib.hid h
  clear h
  generalize itemL a s i = T at *
  generalize nameB (nameAt s (i + 1)) = nb at *
  generalize classE a (nameAt s (i + 1)) = E1 at *
  generalize classA a (nameAt s (i + 1)) = A1 at *
  generalize wordAt s (i + 1) = t at *
  cases nb
  · go_enter Tryz.func204, Tryz.ntmps204
    go_wp2_with fail
    ((with_reducible refine (HW.out _).mono ?_))
    rintro e w1 ⟨rfl, rfl⟩
    go_wp2_with fail
    ((with_reducible refine (HN.out _).mono ?_))
    rintro e w1 ⟨rfl, rfl⟩
    go_wp2_with fail
    go_ret2
    rw [HI.out]
    exact ⟨rfl, HA.out, .refl⟩
  · go_enter Tryz.func204, Tryz.ntmps204
    go_wp2_with fail
    ((with_reducible refine (HW.out _).mono ?_))
    rintro e w1 ⟨rfl, rfl⟩
    go_wp2_with fail
    ((with_reducible refine (HN.out _).mono ?_))
    rintro e w1 ⟨rfl, rfl⟩
    go_wp2_with fail
    ((with_reducible refine HC.out.mono ?_))
    rintro e w1 ⟨rfl, hA1, hb1⟩
    go_wp2_with fail
    go_ret2
    rw [HI.out]
    exact ⟨rfl, hA1, hb1⟩

set_option maxRecDepth 100000 in
set_option maxHeartbeats 4000000 in
theorem readItem_pr (w : World) (g base : Nat) (a : AttrL) (s : ByteArray) (i : Nat) (h : AttrAt w g base a) (hs : s.size ≤ 1000000) (hi : i < s.size) (hb1 : bt s i ≠ 35) (hb2 : bt s i ≠ 46) :
    Calls Tryz.prog 204 #[.pointer (some ⟨g, 0, none⟩), .string s, .int .i64 i] w (ReadPost (itemL a s i) g base w) := by
  have HI : Hid (itemL a s i = if nameB (nameAt s i) = true then pairItem a s (nameAt s i) (wordAt s i) else (0, 5, a)) := Lib.hid (by unfold itemL; rw [if_neg hb1, if_neg hb2])
  have hlt : ((s[i].toNat : Nat) : Int) < 256 := by rw [get_bt s i hi]; have := bt_lt s i; omega
  have z1 : (((s[i].toNat : Nat) : Int) == 35) = false := by rw [get_bt s i hi, beq_eq_false_iff_ne]; omega
  have z2 : (((s[i].toNat : Nat) : Int) == 46) = false := by rw [get_bt s i hi, beq_eq_false_iff_ne]; omega
  clear hb1 hb2
  have hwb := wEnd_bd s (s.size - i) i
  have hw1 : i ≤ wordAt s i := hwb.1
  have hw2 : wordAt s i ≤ s.size := hwb.2 (by omega)
  clear hwb
  have HW := Lib.hid (fun W => wordEnd_any s i W (by omega))
  have HN : Hid (∀ W, Calls Tryz.prog 51 #[.string (s.extract i (wordAt s i))] W fun e w' => e = .returned (.bool (nameB (nameAt s i))) ∧ W = w') := Lib.hid fun W => name_any _ W (by rw [extract_size s _ _ hw1 hw2]; omega)
  have HP : Hid (∀ v W, AttrAt W g base a → Calls Tryz.prog 233 #[.pointer (some ⟨g, 0, none⟩), .string (s.extract i (wordAt s i)), .string v] W (ItemPost (pairE a (nameAt s i)) (pairA a (nameAt s i) v) g base W)) := Lib.hid fun v W h => addPair_any W g base a (nameAt s i) v h
  have HPI : Hid (pairItem a s (nameAt s i) (wordAt s i) = if wordAt s i < s.size ∧ bt s (wordAt s i) = 61 then (if (valL s (wordAt s i + 1)).2.2 = true then ((valL s (wordAt s i + 1)).2.1, pairE a (nameAt s i), pairA a (nameAt s i) (valL s (wordAt s i + 1)).1) else (0, 5, a)) else (0, 5, a)) := Lib.hid rfl
  have HA := Lib.hid h
  clear h
  generalize pairItem a s (nameAt s i) (wordAt s i) = PI at *
  generalize itemL a s i = T at *
  generalize nameB (nameAt s i) = nb at *
  generalize pairE a (nameAt s i) = E1 at *
  generalize pairA a (nameAt s i) = A1 at *
  generalize wordAt s i = t at *
  cases nb
  · go_enter Tryz.func204, Tryz.ntmps204
    go_wp2_with fail
    ((with_reducible refine (HW.out _).mono ?_))
    rintro e w1 ⟨rfl, rfl⟩
    go_wp2_with fail
    ((with_reducible refine (HN.out _).mono ?_))
    rintro e w1 ⟨rfl, rfl⟩
    go_wp2_with fail
    go_ret2
    rw [HI.out]
    exact ⟨rfl, HA.out, .refl⟩
  · by_cases ht : t < s.size
    · have htl : ((s[t].toNat : Nat) : Int) < 256 := by rw [get_bt s t ht]; have := bt_lt s t; omega
      by_cases h61 : bt s t = 61
      · have z3 : (((s[t].toNat : Nat) : Int) != 61) = false := by rw [get_bt s t ht, h61]; rfl
        have hT : Hid (T = if (valL s (t + 1)).2.2 = true then ((valL s (t + 1)).2.1, E1, A1 (valL s (t + 1)).1) else (0, 5, a)) := Lib.hid (by rw [HI.out, if_pos rfl, HPI.out, if_pos ⟨ht, h61⟩])
        have d1 : decide (s.size ≤ t) = false := decide_eq_false (by omega)
        clear h61
        have HV : Hid (∀ W, Calls Tryz.prog 232 #[.string s, .int .i64 ((t : Int) + 1)] W (TripleBelow (valL s (t + 1)) W)) := Lib.hid fun W => by rw [← nat_succ]; exact readValue_any s (t + 1) W hs (by omega)
        generalize valL s (t + 1) = V at *
        obtain ⟨v, t2, ok⟩ := V
        cases ok
        · go_enter Tryz.func204, Tryz.ntmps204
          go_wp2_with fail
          ((with_reducible refine (HW.out _).mono ?_))
          rintro e w1 ⟨rfl, rfl⟩
          go_wp2_with fail
          ((with_reducible refine (HN.out _).mono ?_))
          rintro e w1 ⟨rfl, rfl⟩
          go_wp2_with fail
          ((with_reducible refine (HV.out _).mono ?_))
          rintro e w1 ⟨rfl, b1⟩
          go_wp2_with fail
          go_ret2
          rw [hT.out]
          exact ⟨rfl, HA.out.below b1, .of (b1.mono HA.out.le)⟩
        · go_enter Tryz.func204, Tryz.ntmps204
          go_wp2_with fail
          ((with_reducible refine (HW.out _).mono ?_))
          rintro e w1 ⟨rfl, rfl⟩
          go_wp2_with fail
          ((with_reducible refine (HN.out _).mono ?_))
          rintro e w1 ⟨rfl, rfl⟩
          go_wp2_with fail
          ((with_reducible refine (HV.out _).mono ?_))
          rintro e w1 ⟨rfl, b1⟩
          go_wp2_with fail
          ((with_reducible refine (HP.out _ _ (HA.out.below b1)).mono ?_))
          rintro e w2 ⟨rfl, hA1, hb1⟩
          go_wp2_with fail
          go_ret2
          rw [hT.out]
          exact ⟨rfl, hA1, (BelowBut.of (b1.mono HA.out.le)).trans hb1⟩
      · have z3 : (((s[t].toNat : Nat) : Int) != 61) = true := by rw [get_bt s t ht]; simp; omega
        have d1 : decide (s.size ≤ t) = false := decide_eq_false (by omega)
        have hT : Hid (T = (0, 5, a)) := Lib.hid (by rw [HI.out, if_pos rfl, HPI.out, if_neg (fun h => h61 h.2)])
        clear h61
        go_enter Tryz.func204, Tryz.ntmps204
        go_wp2_with fail
        ((with_reducible refine (HW.out _).mono ?_))
        rintro e w1 ⟨rfl, rfl⟩
        go_wp2_with fail
        ((with_reducible refine (HN.out _).mono ?_))
        rintro e w1 ⟨rfl, rfl⟩
        go_wp2_with fail
        go_ret2
        rw [hT.out]
        exact ⟨rfl, HA.out, .refl⟩
    · have d1 : decide (s.size ≤ t) = true := decide_eq_true (by omega)
      have hT : Hid (T = (0, 5, a)) := Lib.hid (by rw [HI.out, if_pos rfl, HPI.out, if_neg (fun h => ht h.1)])
      go_enter Tryz.func204, Tryz.ntmps204
      go_wp2_with fail
      ((with_reducible refine (HW.out _).mono ?_))
      rintro e w1 ⟨rfl, rfl⟩
      go_wp2_with fail
      ((with_reducible refine (HN.out _).mono ?_))
      rintro e w1 ⟨rfl, rfl⟩
      go_wp2_with fail
      go_ret2
      rw [hT.out]
      exact ⟨rfl, HA.out, .refl⟩

theorem readItem_any (w : World) (g base : Nat) (a : AttrL) (s : ByteArray) (i : Nat) (h : AttrAt w g base a) (hs : s.size ≤ 1000000) (hi : i < s.size) :
    Calls Tryz.prog 204 #[.pointer (some ⟨g, 0, none⟩), .string s, .int .i64 i] w (ReadPost (itemL a s i) g base w) := by
  by_cases h1 : bt s i = 35
  · exact readItem_id w g base a s i h hs hi h1
  · by_cases h2 : bt s i = 46
    · exact readItem_cl w g base a s i h hs hi h2
    · exact readItem_pr w g base a s i h hs hi h1 h2
end Go.Proofs.YtpoafhgbhnblmaaGreatDoor
