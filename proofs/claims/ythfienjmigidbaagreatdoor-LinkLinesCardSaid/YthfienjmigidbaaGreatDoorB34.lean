/-
  Texts of the proof, put together: LinkU, LineP, LinkV, LawN.
-/
import Derived.Test.YthfienjmigidbaaGreatDoorB27
import Derived.Test.YthfienjmigidbaaGreatDoorB32
import Derived.Test.YthfienjmigidbaaGreatDoorB31
import Derived.Test.YthfienjmigidbaaGreatDoorB33
set_option linter.unusedVariables false
set_option linter.unusedSimpArgs false
namespace Go.Pub
theorem escS_cons (c : UInt8) (l : List UInt8) : escS (c :: l) = escS1 c ++ escS l := rfl
theorem spec_punc (b : UInt8) (h : specB b.toNat = true) : puncB b = true := by
  simp only [specB, List.contains_cons, List.contains_nil, Bool.or_false, Bool.or_eq_true, beq_iff_eq] at h
  unfold puncB
  rcases h with h | h | h | h | h | h | h | h | h | h | h <;> rw [h] <;> decide
theorem escH_not (c : UInt8) (l : List UInt8) (h : c ≠ 92) : escH (c :: l) = false := by
  cases l with
  | nil => rfl
  | cons d l => show (c == 92 && puncB d) = false; rw [beq_eq_false_iff_ne.2 h]; rfl
theorem escH_spec (c : UInt8) (l : List UInt8) (h : specB c.toNat = true) : escH (92 :: c :: l) = true := by
  show ((92 : UInt8) == 92 && puncB c) = true
  rw [spec_punc c h]; rfl
theorem spec_ne (c a : UInt8) (hc : ¬ specB c.toNat = true) (ha : specB a.toNat = true) : c ≠ a := by rintro rfl; exact hc ha
theorem scan_esc (a b : UInt8) (ha : specB a.toNat = true) (hb : specB b.toNat = true) (ha' : a ≠ 92) (hb' : b ≠ 92) (rest : List UInt8) : ∀ l : List UInt8, (∀ c ∈ l, c ≠ 10) → scanL a b (escS l ++ a :: rest) = some (escS l).length
  | [], _ => by show scanL a b (a :: rest) = some 0; rw [scanL_cons, if_pos rfl]
  | c :: l, h => by
    have ih := scan_esc a b ha hb ha' hb' rest l (fun x hx => h x (List.mem_cons_of_mem _ hx))
    have h10 := h c List.mem_cons_self
    rw [escS_cons]
    unfold escS1
    split
    · rename_i hc
      rw [List.append_assoc]
      show scanL a b (92 :: c :: (escS l ++ a :: rest)) = _
      rw [scanL_cons, if_neg (Ne.symm ha'), if_neg (by rintro (e | e); exact hb' e.symm; exact absurd e (by decide)), if_pos (escH_spec c _ hc)]
      show (scanL a b (escS l ++ a :: rest)).map (· + 2) = _
      rw [ih]; simp
    · rename_i hc
      show scanL a b (c :: (escS l ++ a :: rest)) = _
      rw [scanL_cons, if_neg (spec_ne c a hc ha), if_neg (by rintro (e | e); exact spec_ne c b hc hb e; exact h10 e), if_neg (by rw [escH_not c _ (spec_ne c 92 hc (by decide))]; simp), ih]
      simp
theorem dest_esc (e : UInt8) (he : e = 32 ∨ e = 41) (rest : List UInt8) : ∀ l : List UInt8, gapB l = false → destL 0 (escS l ++ e :: rest) = some (escS l).length
  | [], _ => by
    show destL 0 (e :: rest) = some 0
    rw [destL_cons, if_pos (by rcases he with h | h; exact Or.inl h; exact Or.inr (Or.inr ⟨h, rfl⟩)), if_pos rfl]
  | c :: l, h => by
    have h' : spaceB (c.toNat : Int) = false ∧ gapB l = false := by
      unfold gapB at h ⊢
      rw [List.any_cons, Bool.or_eq_false_iff] at h
      exact h
    have ih := dest_esc e he rest l h'.2
    have h32 : c ≠ 32 := by rintro rfl; exact absurd h'.1 (by decide)
    have h10 : c ≠ 10 := by rintro rfl; exact absurd h'.1 (by decide)
    rw [escS_cons]
    unfold escS1
    split
    · rename_i hc
      rw [List.append_assoc]
      show destL 0 (92 :: c :: (escS l ++ e :: rest)) = _
      rw [destL_cons, if_neg (by decide), if_pos (escH_spec c _ hc)]
      show (destL 0 (escS l ++ e :: rest)).map (· + 2) = _
      rw [ih]; simp
    · rename_i hc
      have h40 := spec_ne c 40 hc (by decide)
      have h41 := spec_ne c 41 hc (by decide)
      show destL 0 (c :: (escS l ++ e :: rest)) = _
      rw [destL_cons, if_neg (by rintro (e | e | e); exact h32 e; exact h10 e; exact h41 e.1), if_neg (by rw [escH_not c _ (spec_ne c 92 hc (by decide))]; simp), if_neg h40, if_neg h41, ih]
      simp
theorem unesc_escS : ∀ l : List UInt8, unescL (escS l) = l
  | [] => rfl
  | c :: l => by
    have ih := unesc_escS l
    rw [escS_cons]
    unfold escS1
    split
    · rename_i hc
      show unescL (92 :: c :: escS l) = _
      rw [unescL_cons, if_pos (escH_spec c _ hc)]
      show c :: unescL (escS l) = _
      rw [ih]
    · rename_i hc
      show unescL (c :: escS l) = _
      rw [unescL_cons, if_neg (by rw [escH_not c _ (spec_ne c 92 hc (by decide))]; simp), ih]

theorem scan_back {s : ByteArray} {i : Nat} (a b : Nat) (ha1 : a < 256) (hb1 : b < 256) (ha : specB a = true) (hb : specB b = true) (ha' : a ≠ 92) (hb' : b ≠ 92) {l r : List UInt8} (hl : ∀ c ∈ l, c ≠ 10) (c0 : UInt8)
    (h : sfx s i = c0 :: (escS l ++ UInt8.ofNat a :: r)) : betw s i a b = some (l, i + (escS l).length + 2) := by
  obtain ⟨_, _, h1⟩ := sfx_head h
  have ea : (UInt8.ofNat a).toNat = a := by simp [UInt8.toNat_ofNat]; omega
  have eb : (UInt8.ofNat b).toNat = b := by simp [UInt8.toNat_ofNat]; omega
  have k1 : scanA s a b (i + 1) = some (i + 1 + (escS l).length) := by
    unfold scanA
    rw [h1, scan_esc _ _ (by rw [ea]; exact ha) (by rw [eb]; exact hb) (fun e => ha' (by have := congrArg UInt8.toNat e; rw [ea] at this; exact this)) (fun e => hb' (by have := congrArg UInt8.toNat e; rw [eb] at this; exact this)) r l hl]
    simp only [Option.map_some]; congr 1; omega
  unfold betw
  rw [k1]
  simp only [Option.map_some]
  rw [sub_run h1, unesc_escS]
  congr 2
  omega

/-- The written form of a destination. -/
def dstL (d : List UInt8) : List UInt8 := if d = [] ∨ gapB d = true then [60] ++ escS d ++ [62] else escS d
theorem escS1_head (c : UInt8) (h : spaceB (c.toNat : Int) = false) : ∃ b r, escS1 c = b :: r ∧ spaceB (b.toNat : Int) = false ∧ b ≠ 41 ∧ b ≠ 60 := by
  unfold escS1
  split
  · exact ⟨92, [c], rfl, by decide, by decide, by decide⟩
  · rename_i hc
    exact ⟨c, [], rfl, h, spec_ne c 41 hc (by decide), spec_ne c 60 hc (by decide)⟩
theorem dst_head (d : List UInt8) : ∃ b r, dstL d = b :: r ∧ spaceB (b.toNat : Int) = false ∧ b ≠ 41 ∧ (b = 60 ↔ (d = [] ∨ gapB d = true)) := by
  unfold dstL
  split
  · rename_i h
    exact ⟨60, escS d ++ [62], rfl, by decide, by decide, by simp [h]⟩
  · rename_i h
    cases d with
    | nil => exact absurd (Or.inl rfl) h
    | cons c l =>
      have hg : gapB (c :: l) = false := by rw [Bool.eq_false_iff]; exact fun e => h (Or.inr e)
      have hc : spaceB (c.toNat : Int) = false := by
        unfold gapB at hg
        rw [List.any_cons, Bool.or_eq_false_iff] at hg
        exact hg.1
      obtain ⟨b, r, e1, e2, e3, e4⟩ := escS1_head c hc
      exact ⟨b, r ++ escS l, by rw [escS_cons, e1]; rfl, e2, e3, by simp [e4, hg]⟩
theorem dest_back {s : ByteArray} {i : Nat} (d : List UInt8) (hd : ∀ c ∈ d, c ≠ 10) (e : UInt8) (he : e = 32 ∨ e = 41) {r : List UInt8} (h : sfx s i = dstL d ++ e :: r) : destR s i = some (d, i + (dstL d).length) := by
  obtain ⟨b, t, hb, _, _, h60⟩ := dst_head d
  have hh : sfx s i = b :: (t ++ e :: r) := by rw [h, hb]; rfl
  obtain ⟨hi, hbt, _⟩ := sfx_head hh
  unfold destR
  rw [if_pos ⟨by omega, by omega⟩, Int.toNat_natCast]
  by_cases c : d = [] ∨ gapB d = true
  · have e0 : dstL d = [60] ++ escS d ++ [62] := by unfold dstL; rw [if_pos c]
    rw [hbt, h60.2 c, if_pos (by rfl)]
    rw [scan_back 62 60 (by decide) (by decide) (by decide) (by decide) (by decide) (by decide) hd 60 (r := e :: r) (by rw [h, e0]; simp), e0]
    simp; omega
  · have e0 : dstL d = escS d := by unfold dstL; rw [if_neg c]
    rw [e0] at h ⊢
    rw [hbt, if_neg (u8n (n := 60) (by decide) (fun e => c (h60.1 e)))]
    have hg : gapB d = false := by rw [Bool.eq_false_iff]; exact fun e => c (Or.inr e)
    have k1 : destA s 0 i = some (i + (escS d).length) := by
      unfold destA
      rw [h, dest_esc e he r d hg]
      simp only [Option.map_some]; congr 1; omega
    have hpos : 0 < (escS d).length := by rw [← e0, hb]; simp
    rw [k1]
    show (if i + (escS d).length = i then none else some (unescL (sub s i (i + (escS d).length)), i + (escS d).length)) = _
    rw [if_neg (by omega), sub_run h, unesc_escS]
theorem title_back {s : ByteArray} {i : Nat} (t : List UInt8) (ht : ∀ c ∈ t, c ≠ 10) {r : List UInt8} (h : sfx s i = 34 :: (escS t ++ 34 :: r)) : titleR s i = some (t, i + (escS t).length + 2) := by
  obtain ⟨hi, hbt, _⟩ := sfx_head h
  unfold titleR
  rw [if_pos ⟨by omega, by omega⟩, Int.toNat_natCast, hbt, if_pos (by rfl)]
  exact scan_back 34 34 (by decide) (by decide) (by decide) (by decide) (by decide) (by decide) ht 34 h
theorem skip_stop {s : ByteArray} {i : Nat} {b : UInt8} {r : List UInt8} (h : sfx s i = b :: r) (hb : spaceB (b.toNat : Int) = false) : skipA s i = i := by
  obtain ⟨hi, hbt, _⟩ := sfx_head h
  exact skipA_no s i hi (by rw [hbt]; exact hb)
theorem skip_one {s : ByteArray} {i : Nat} {b : UInt8} {r : List UInt8} (h : sfx s i = 32 :: b :: r) (hb : spaceB (b.toNat : Int) = false) : skipA s i = i + 1 := by
  obtain ⟨hi, hbt, h1⟩ := sfx_head h
  rw [skipA_yes s i hi (by rw [hbt]; rfl), skip_stop h1 hb]
theorem insideL_eq (d t : List UInt8) (h : ¬ (d = [] ∧ t = [])) : insideL d t = dstL d ++ (if t = [] then [] else [32, 34] ++ escS t ++ [34]) := by
  unfold insideL dstL; rw [if_neg h]
theorem tail_back {s : ByteArray} (d t r : List UInt8) (hd : ∀ c ∈ d, c ≠ 10) (ht : ∀ c ∈ t, c ≠ 10) (h : sfx s 0 = 40 :: (insideL d t ++ 41 :: r)) : tailR s 0 = some ⟨d, t, [], (insideL d t).length + 2⟩ := by
  obtain ⟨hi, hbt, h1⟩ := sfx_head h
  unfold tailR
  rw [if_pos ⟨by omega, by omega⟩]
  show (if bt s 0 = 40 then _ else _) = _
  rw [hbt, if_pos (by rfl)]
  show (if skipA s 1 < s.size ∧ bt s (skipA s 1) = 41 then some (⟨[], [], [], skipA s 1 + 1⟩ : Tl) else
      (destR s (skipA s 1 : Nat)).bind fun r =>
        if skipA s r.2 < s.size then
          if bt s (skipA s r.2) = 41 then some ⟨r.1, [], [], skipA s r.2 + 1⟩
          else if r.2 < skipA s r.2 then (titleR s (skipA s r.2 : Nat)).bind fun q =>
            if skipA s q.2 < s.size ∧ bt s (skipA s q.2) = 41 then some ⟨r.1, q.1, [], skipA s q.2 + 1⟩ else none
          else none
        else none) = _
  rw [Nat.zero_add] at h1
  by_cases c : d = [] ∧ t = []
  · obtain ⟨rfl, rfl⟩ := c
    have e0 : insideL [] [] = [] := rfl
    rw [e0] at h1 ⊢
    have h1 : sfx s 1 = 41 :: r := h1
    obtain ⟨hi1, hb1, _⟩ := sfx_head h1
    rw [skip_stop h1 (by decide), if_pos (show _ ∧ bt s _ = 41 from ⟨hi1, hb1⟩)]
    rfl
  · have e0 := insideL_eq d t c
    obtain ⟨b, m, hb, hsp, h41, _⟩ := dst_head d
    by_cases ct : t = []
    · rw [if_pos ct, List.append_nil] at e0
      subst ct
      rw [e0] at h1 ⊢
      have hh : sfx s 1 = b :: (m ++ 41 :: r) := by rw [h1, hb]; rfl
      obtain ⟨hi1, hb1, _⟩ := sfx_head hh
      have h2 := sfx_app h1
      obtain ⟨hi2, hb2, _⟩ := sfx_head h2
      rw [skip_stop hh hsp, if_neg (fun e => u8n (n := 41) (by decide) h41 (by rw [← hb1]; exact e.2)), dest_back d hd 41 (Or.inr rfl) h1]
      show (if skipA s (1 + (dstL d).length) < s.size then _ else _) = _
      rw [skip_stop h2 (by decide), if_pos hi2, if_pos (show bt s _ = 41 from hb2)]
      congr 2; omega
    · rw [if_neg ct] at e0
      rw [e0] at h1 ⊢
      have h1' : sfx s 1 = dstL d ++ 32 :: (34 :: (escS t ++ 34 :: 41 :: r)) := by rw [h1]; simp
      have hh : sfx s 1 = b :: (m ++ 32 :: (34 :: (escS t ++ 34 :: 41 :: r))) := by rw [h1', hb]; rfl
      obtain ⟨hi1, hb1, _⟩ := sfx_head hh
      have h2 := sfx_app h1'
      obtain ⟨hi2, hb2, h3⟩ := sfx_head h2
      obtain ⟨hi3, hb3, h4⟩ := sfx_head h3
      have h5 := sfx_app h4
      obtain ⟨_, _, h6⟩ := sfx_head h5
      obtain ⟨hi7, hb7, _⟩ := sfx_head h6
      have e7 : 1 + (dstL d).length + 1 + 1 + (escS t).length + 1 = 1 + (dstL d).length + 1 + (escS t).length + 2 := by omega
      rw [e7] at h6 hi7 hb7
      rw [skip_stop hh hsp, if_neg (fun e => u8n (n := 41) (by decide) h41 (by rw [← hb1]; exact e.2)), dest_back d hd 32 (Or.inl rfl) h1']
      show (if skipA s (1 + (dstL d).length) < s.size then (if bt s (skipA s (1 + (dstL d).length)) = 41 then some (⟨d, [], [], skipA s (1 + (dstL d).length) + 1⟩ : Tl) else if 1 + (dstL d).length < skipA s (1 + (dstL d).length) then (titleR s (skipA s (1 + (dstL d).length) : Nat)).bind _ else none) else none) = _
      rw [skip_one h2 (by decide), if_pos hi3, hb3, if_neg (by decide), if_pos (by omega), title_back t ht h3]
      show (if skipA s (1 + (dstL d).length + 1 + (escS t).length + 2) < s.size ∧ bt s (skipA s (1 + (dstL d).length + 1 + (escS t).length + 2)) = 41 then some (⟨d, t, [], skipA s (1 + (dstL d).length + 1 + (escS t).length + 2) + 1⟩ : Tl) else none) = _
      rw [skip_stop h6 (by decide), if_pos (show _ ∧ bt s _ = 41 from ⟨hi7, hb7⟩)]
      simp only [List.length_append, List.length_cons, List.length_nil]
      congr 2; omega
end Go.Pub
namespace Go.Pub
theorem dest_esc0 : ∀ l : List UInt8, gapB l = false → destL 0 (escS l) = some (escS l).length
  | [], _ => rfl
  | c :: l, h => by
    have h' : spaceB (c.toNat : Int) = false ∧ gapB l = false := by
      unfold gapB at h ⊢
      rw [List.any_cons, Bool.or_eq_false_iff] at h
      exact h
    have ih := dest_esc0 l h'.2
    have h32 : c ≠ 32 := by rintro rfl; exact absurd h'.1 (by decide)
    have h10 : c ≠ 10 := by rintro rfl; exact absurd h'.1 (by decide)
    rw [escS_cons]
    unfold escS1
    split
    · rename_i hc
      show destL 0 (92 :: c :: escS l) = _
      rw [destL_cons, if_neg (by decide), if_pos (escH_spec c _ hc)]
      show (destL 0 (escS l)).map (· + 2) = _
      rw [ih]; simp
    · rename_i hc
      have h40 := spec_ne c 40 hc (by decide)
      have h41 := spec_ne c 41 hc (by decide)
      show destL 0 (c :: escS l) = _
      rw [destL_cons, if_neg (by rintro (e | e | e); exact h32 e; exact h10 e; exact h41 e.1), if_neg (by rw [escH_not c _ (spec_ne c 92 hc (by decide))]; simp), if_neg h40, if_neg h41, ih]
      simp
theorem dest_end {s : ByteArray} {i : Nat} (d : List UInt8) (hd : ∀ c ∈ d, c ≠ 10) (h : sfx s i = dstL d) : destR s i = some (d, i + (dstL d).length) := by
  obtain ⟨b, t, hb, _, _, h60⟩ := dst_head d
  have hh : sfx s i = b :: t := by rw [h, hb]
  obtain ⟨hi, hbt, _⟩ := sfx_head hh
  unfold destR
  rw [if_pos ⟨by omega, by omega⟩, Int.toNat_natCast]
  by_cases c : d = [] ∨ gapB d = true
  · have e0 : dstL d = [60] ++ escS d ++ [62] := by unfold dstL; rw [if_pos c]
    rw [hbt, h60.2 c, if_pos (by rfl)]
    rw [scan_back 62 60 (by decide) (by decide) (by decide) (by decide) (by decide) (by decide) hd 60 (r := []) (by rw [h, e0]; simp), e0]
    simp; omega
  · have e0 : dstL d = escS d := by unfold dstL; rw [if_neg c]
    rw [e0] at h ⊢
    rw [hbt, if_neg (u8n (n := 60) (by decide) (fun e => c (h60.1 e)))]
    have hg : gapB d = false := by rw [Bool.eq_false_iff]; exact fun e => c (Or.inr e)
    have k1 : destA s 0 i = some (i + (escS d).length) := by
      unfold destA
      rw [h, dest_esc0 d hg]
      simp only [Option.map_some]; congr 1; omega
    have hpos : 0 < (escS d).length := by rw [← e0, hb]; simp
    rw [k1]
    show (if i + (escS d).length = i then none else some (unescL (sub s i (i + (escS d).length)), i + (escS d).length)) = _
    rw [if_neg (by omega), sub_run (r := []) (by rw [h, List.append_nil]), unesc_escS]
theorem ind_nil {s : ByteArray} {i : Nat} (h : sfx s i = []) : indA s i = i := by unfold indA; rw [h]; rfl
theorem ind_stop {s : ByteArray} {i : Nat} {b : UInt8} {r : List UInt8} (h : sfx s i = b :: r) (hb : b ≠ 32) : indA s i = i := by
  unfold indA; rw [h]
  show i + (if b = 32 then indN r + 1 else 0) = i
  rw [if_neg hb]; rfl
theorem ind_one {s : ByteArray} {i : Nat} {b : UInt8} {r : List UInt8} (h : sfx s i = 32 :: b :: r) (hb : b ≠ 32) : indA s i = i + 1 := by
  unfold indA; rw [h]
  show i + (if (32 : UInt8) = 32 then (if b = 32 then indN r + 1 else 0) + 1 else 0) = i + 1
  rw [if_pos rfl, if_neg hb]
theorem brk_run (L r : List UInt8) (h : ∀ c ∈ L, c ≠ 93) : brk (L ++ 93 :: r) = L.length := by
  unfold brk
  induction L with
  | nil => rfl
  | cons c L ih =>
    have hc := h c (List.mem_cons_self ..)
    rw [List.cons_append, List.findIdx_cons, beq_eq_false_iff_ne.2 hc]
    show (List.findIdx _ (L ++ 93 :: r)) + 1 = _
    rw [ih fun x hx => h x (List.mem_cons_of_mem _ hx)]; rfl
/-- A written definition. -/
def lineL (L d t : List UInt8) : List UInt8 := 91 :: (L ++ 93 :: 58 :: 32 :: insideL d t)
theorem nsp {b : UInt8} (h : spaceB (b.toNat : Int) = false) : b ≠ 32 := by rintro rfl; exact absurd h (by decide)
theorem def_back (L d t : List UInt8) (hL : L ≠ []) (h93 : ∀ c ∈ L, c ≠ 93) (hl : labelL L = L) (hd : ∀ c ∈ d, c ≠ 10) (ht : ∀ c ∈ t, c ≠ 10) (hne : ¬ (d = [] ∧ t = [])) : defR (mk (lineL L d t)) = some (L, d, t) := by
  rw [← defI_eq]
  generalize hs : mk (lineL L d t) = s
  have h0 : sfx s 0 = 91 :: (L ++ 93 :: 58 :: 32 :: insideL d t) := by rw [← hs]; unfold sfx; rw [bytesL_mk']; rfl
  obtain ⟨hi0, hb0, h1⟩ := sfx_head h0
  rw [Nat.zero_add] at h1
  have h2 := sfx_app h1
  obtain ⟨hi2, hb2, h3⟩ := sfx_head h2
  obtain ⟨hi3, hb3, h4⟩ := sfx_head h3
  have e0 := insideL_eq d t hne
  obtain ⟨b, m, hb, hsp, h41, _⟩ := dst_head d
  have hin : insideL d t = b :: (m ++ (if t = [] then [] else [32, 34] ++ escS t ++ [34])) := by rw [e0, hb]; rfl
  have h5 : sfx s (1 + L.length + 1 + 1) = 32 :: b :: (m ++ (if t = [] then [] else [32, 34] ++ escS t ++ [34])) := by rw [h4, hin]
  obtain ⟨hi5, _, h6⟩ := sfx_head h5
  unfold defI
  rw [ind_stop h0 (by decide), if_neg (by omega)]
  have hbr : brackR s 0 = some (L, 1 + L.length + 1) := by
    unfold brackR
    have e1 : sfx s (0 + 1) = L ++ 93 :: 58 :: 32 :: insideL d t := h1
    rw [if_pos ⟨hi0, hb0⟩, e1, brk_run L _ h93, if_pos]
    · rw [List.take_left, hl]; congr 2; omega
    · rw [List.take_left, hl]; exact ⟨by simp, hL⟩
  rw [hbr]
  show (if 1 + L.length + 1 < s.size ∧ bt s (1 + L.length + 1) = 58 then defDt s L (1 + L.length + 1) else none) = _
  have g1 : 1 + L.length + 1 < s.size ∧ bt s (1 + L.length + 1) = 58 := ⟨hi3, hb3⟩
  rw [if_pos g1]
  unfold defDt
  rw [ind_one h5 (nsp hsp)]
  generalize hj : 1 + L.length + 1 + 1 + 1 = j at *
  by_cases ct : t = []
  · subst ct
    rw [if_pos rfl, List.append_nil] at e0
    have h7 : sfx s j = dstL d := by rw [h6, hb, if_pos rfl, List.append_nil]
    rw [dest_end d hd h7]
    show defTl s L d (j + (dstL d).length) = _
    have hz : j + (dstL d).length = s.size := by
      have := congrArg List.length h7
      rw [sfx_len] at this
      have hp : 0 < (dstL d).length := by rw [hb]; simp
      omega
    have hn : sfx s (j + (dstL d).length) = [] := sfx_nil s _ (by omega)
    unfold defTl
    rw [ind_nil hn, if_pos hz]
  · rw [if_neg ct] at e0
    have h7 : sfx s j = dstL d ++ 32 :: (34 :: (escS t ++ 34 :: [])) := by rw [h6, hb, if_neg ct]; simp
    rw [dest_back d hd 32 (Or.inl rfl) h7]
    show defTl s L d (j + (dstL d).length) = _
    have h8 := sfx_app h7
    obtain ⟨hi8, _, h9⟩ := sfx_head h8
    obtain ⟨hi9, _, h10⟩ := sfx_head h9
    have h11 := sfx_app h10
    obtain ⟨hi11, _, h12⟩ := sfx_head h11
    unfold defTl
    rw [ind_one h8 (by decide), if_neg (by omega), if_neg (by omega), title_back t ht h9]
    have e7 : j + (dstL d).length + 1 + 1 + (escS t).length + 1 = j + (dstL d).length + 1 + (escS t).length + 2 := by omega
    rw [e7] at h12
    show (if indA s (j + (dstL d).length + 1 + (escS t).length + 2) < s.size then none else some (L, d, t)) = _
    have hz := congrArg List.length h12
    rw [sfx_len] at hz
    simp at hz
    rw [ind_nil h12, if_neg (by omega)]
theorem label_facts {x : List UInt8} (h : labelL x ≠ []) : foldL (mk (labelL x)) = labelL x ∧ labelL (labelL x) = labelL x ∧ (∀ c ∈ labelL x, c.toNat < 128 → labB (c.toNat : Nat) = true) ∧ (labelL x).length ≤ 60 := by
  have hd : ∀ y, labelL y = if 60 < (foldL (mk y)).length then [] else if (pts (mk (foldL (mk y)))).all fun p => labB p.1 then foldL (mk y) else [] := fun _ => rfl
  have hx := hd x
  by_cases h1 : 60 < (foldL (mk x)).length
  · rw [if_pos h1] at hx; exact absurd hx h
  rw [if_neg h1] at hx
  by_cases h2 : ((pts (mk (foldL (mk x)))).all fun p => labB p.1) = true
  · rw [if_pos h2] at hx
    rw [hx]
    have hf : foldL (mk (foldL (mk x))) = foldL (mk x) := fold_fold (mk x)
    refine ⟨hf, ?_, ?_, by omega⟩
    · rw [hd (foldL (mk x)), hf, if_neg h1, if_pos h2]
    · intro c hc hlt
      obtain ⟨a, b, hab⟩ := List.append_of_mem hc
      have h3 : c.toNat ∈ codes (foldL (mk x)) := by
        rw [hab, codes_ascii a b c hlt]
        exact List.mem_append_right _ (List.mem_cons_self ..)
      unfold codes at h3
      obtain ⟨p, hp, e⟩ := List.mem_map.1 h3
      rw [← pts_mk] at hp
      have := List.all_eq_true.1 h2 p hp
      rw [← e]; exact this
  · rw [if_neg h2] at hx; exact absurd hx h
theorem lab_not (c : UInt8) (h : c = 93 ∨ c = 94) : labB (c.toNat : Nat) = false := by
  rcases h with rfl | rfl <;> decide +kernel
end Go.Pub
namespace Go.Proofs.YthfienjmigidbaaGreatDoor
open Go.RowKit Go.Pub

theorem mark_bracket (s : ByteArray) (b : UInt8) (r : List UInt8) (h : bytesL s = 91 :: b :: r) (hb : b ≠ 94) : markM s = (defM s).getD { rest := s } := by
  have h0' : sfx s 0 = 91 :: b :: r := by unfold sfx; rw [List.drop_zero]; exact h
  obtain ⟨h0, hq, _⟩ := sfx_head h0'
  have hq : bt s 0 = 91 := hq
  have hi : indA s 0 = 0 := indA_no s 0 h0 (by omega)
  have hz : s.extract 0 s.size = s := ByteArray.extract_zero_size
  unfold markM blankB
  rw [hi, decide_eq_false (by omega), if_neg Bool.false_ne_true, hz]
  unfold markC
  rw [if_neg (by omega)]
  have hr : ∀ n : Nat, bt s 0 ≠ n → firstN s (· != n) = 0 := fun n hn => firstN_eq s _ 0 (by omega) (fun j hj => by omega) (fun _ => by rw [bne_iff_ne]; exact hn)
  have r0 : headM s = none := by unfold headM; rw [hr 35 (by omega), if_neg (by omega)]
  have r1 : ruleM s = none := by unfold ruleM; rw [if_neg (by omega)]
  have r2 : quoteM s 0 = none := by unfold quoteM; rw [if_neg (by omega)]
  have r3 : bulletM s 0 = none := by unfold bulletM; rw [if_neg (by omega)]
  have r4 : numberM s 0 = none := by
    have : numDig s = 0 := firstN_eq s _ 0 (by omega) (fun j hj => by omega) (fun _ => by
      cases hd : digN (bt s 0)
      · rfl
      · have := (digN_iff _).1 hd; omega)
    unfold numberM numR
    rw [this, if_neg (by omega)]
  have r5 : fenceM s 0 = none := by unfold fenceM; rw [if_neg (by omega)]
  have r6 : mathM s = none := by
    unfold mathM; rw [h, if_neg]
    rintro ⟨h1, _⟩
    cases h1
  have r7 : divM s = none := by unfold divM; rw [hr 58 (by omega), if_neg (by omega)]
  have r8 : noteM s = none := by
    unfold noteM; rw [h, if_neg]
    intro h1
    have : ([91, 94] : List UInt8).isPrefixOf (91 :: b :: r) = true := h1
    rw [List.isPrefixOf, List.isPrefixOf, Bool.and_eq_true, Bool.and_eq_true] at this
    exact hb (eq_of_beq this.2.1).symm
  unfold rdrs
  rw [r0, r1, r2, r3, r4, r5, r6, r7, r8]
  cases defM s <;> rfl
theorem mark_line (L d t : List UInt8) (hL : L ≠ []) (hlab : ∀ c ∈ L, c.toNat < 128 → labB (c.toNat : Nat) = true) (hl : labelL L = L) (hd : ∀ c ∈ d, c ≠ 10) (ht : ∀ c ∈ t, c ≠ 10) (hne : ¬ (d = [] ∧ t = [])) :
    defR (mk (lineL L d t)) = some (L, d, t) ∧ (markM (mk (lineL L d t))).kind = 11 := by
  have hno : ∀ c ∈ L, c ≠ 93 ∧ c ≠ 94 := fun c hc => by
    constructor
    · rintro rfl
      have := hlab 93 hc (by decide)
      rw [lab_not 93 (Or.inl rfl)] at this; cases this
    · rintro rfl
      have := hlab 94 hc (by decide)
      rw [lab_not 94 (Or.inr rfl)] at this; cases this
  have hr := def_back L d t hL (fun c hc => (hno c hc).1) hl hd ht hne
  refine ⟨hr, ?_⟩
  cases L with
  | nil => exact absurd rfl hL
  | cons b L =>
    have hm := mark_bracket (mk (lineL (b :: L) d t)) b (L ++ 93 :: 58 :: 32 :: insideL d t) (by rw [bytesL_mk']; rfl) (hno b (List.mem_cons_self ..)).2
    rw [hm, defM_eq]
    generalize hs : mk (lineL (b :: L) d t) = s at *
    have h0 : sfx s 0 = 91 :: (b :: L ++ 93 :: 58 :: 32 :: insideL d t) := by rw [← hs]; unfold sfx; rw [bytesL_mk']; rfl
    have hi := ind_stop h0 (by decide)
    have e : defR s = (brackR s 0).bind fun b => if b.2 < s.size ∧ bt s b.2 = 58 then defB b.1 (triB (s.extract (b.2 + 1) s.size)) else none := by
      unfold defR
      rw [triB_at, hi, ext_zero, if_neg (by omega)]
    rw [← e, hr]
    rfl
end Go.Proofs.YthfienjmigidbaaGreatDoor
namespace Go.Pub
def feedB (l : List UInt8) : Bool := l.any (· == 10)
theorem feed_end (s : ByteArray) (k : Nat) (h : s.size ≤ k) : feedB (sfx s k) = false := by rw [sfx_nil s k h]; rfl
theorem feed_yes (s : ByteArray) (k : Nat) (h : k < s.size) (hc : bt s k = 10) : feedB (sfx s k) = true := by
  rw [sfx_cons s k h]; unfold feedB; rw [List.any_cons, (g10 s k).2 hc]; rfl
theorem feed_no (s : ByteArray) (k : Nat) (h : k < s.size) (hc : bt s k ≠ 10) : feedB (sfx s k) = feedB (sfx s (k + 1)) := by
  rw [sfx_cons s k h]; unfold feedB; rw [List.any_cons, beq_eq_false_iff_ne.2 (fun e => hc ((g10 s k).1 e)), Bool.false_or]
theorem feed_all {l : List UInt8} (h : feedB l = false) : ∀ c ∈ l, c ≠ 10 := by
  intro c hc e
  unfold feedB at h
  rw [List.any_eq_false] at h
  exact h c hc (by rw [e]; rfl)
end Go.Pub
namespace Go.Proofs.YthfienjmigidbaaGreatDoor
open Go.RowKit Go.Pub

set_option maxRecDepth 100000 in
set_option maxHeartbeats 1000000 in
theorem feed_any (s : ByteArray) (w : World) (hs : s.size ≤ 1000000) : Calls Tryz.prog 22 #[.string s] w fun e w' => e = .returned (.bool (feedB (bytesL s))) ∧ w = w' := by
  have HX : Hid (feedB (sfx s 0) = feedB (bytesL s)) := Lib.hid rfl
  generalize feedB (bytesL s) = R at *
  go_enter Tryz.func22, Tryz.ntmps22
  go_wp2
  go_loop [3] (fun v => ∃ k : Nat, k ≤ s.size ∧ v = .int .i64 k ∧ Hid (feedB (sfx s k) = R)) (fun v => s.size - (intOf v).toNat)
  case atStart => exact ⟨0, by omega, rfl, HX⟩
  case round =>
    obtain ⟨k, hk, rfl, Hk⟩ := hrel
    by_cases hlt : k < s.size
    · have hlt2 : ((s[k].toNat : Nat) : Int) < 256 := by rw [get_bt s k hlt]; have := bt_lt s k; omega
      by_cases hc : bt s k = 10
      · have z : (((s[k].toNat : Nat) : Int) == 10) = true := by rw [get_bt s k hlt, hc]; rfl
        have HF : Hid (R = true) := Lib.hid (by rw [← Hk.out]; exact feed_yes s k hlt hc)
        clear hc
        go_wp2_with fail
        go_ret
        exact ⟨ret_bool (by rw [HF.out]), rfl⟩
      · have z : (((s[k].toNat : Nat) : Int) == 10) = false := by rw [get_bt s k hlt, beq_eq_false_iff_ne]; omega
        have hst := Lib.hid (feed_no s k hlt hc)
        clear hc
        go_wp2_with fail
        go_round
        case rel => exact ⟨k + 1, by omega, by go_num, Lib.hid (by rw [← hst.out]; exact Hk.out)⟩
        case measure => simp [intOf]; omega
    · have HF : Hid (R = false) := Lib.hid (by rw [← Hk.out]; exact feed_end s k (by omega))
      go_wp2_with fail
      go_ret
      exact ⟨ret_bool (by rw [HF.out]), rfl⟩

end Go.Proofs.YthfienjmigidbaaGreatDoor
namespace Go.Proofs.YthfienjmigidbaaGreatDoor
open Go.RowKit Go.Pub

theorem inside_len (d t : List UInt8) (hd : d.length ≤ 400) (ht : t.length ≤ 400) : (insideL d t).length ≤ 2000 := by
  have e1 := escS_len d
  have e2 := escS_len t
  unfold insideL
  split
  · simp
  · rw [List.length_append]
    have a1 : (if d = [] ∨ gapB d = true then [60] ++ escS d ++ [62] else escS d).length ≤ 900 := by
      split
      · simp; omega
      · omega
    have a2 : (if t = [] then [] else [32, 34] ++ escS t ++ [34]).length ≤ 900 := by split <;> simp <;> omega
    omega
theorem of_kind (s : ByteArray) (k : Nat) (h : (markM s).kind = k) (W : World) (hs : s.size ≤ 1000000) : Calls Tryz.prog 13 #[.string s] W fun e w' => ∃ n s2 i3 s4 s5 s6 s7 s8 A1 n1 c1 A2 n2 c2, e = .returned (.agg #[.int .i64 (k : Nat), .int .i64 n, .string s2, .int .i64 i3, .string s4, .string s5, .string s6, .string s7, .string s8, .slice A1 n1 c1, .slice A2 n2 c2]) ∧ Below W.heap.size W w' := by
  refine ((m_of s W hs).mono fun e w' => mkpost_sl).mono ?_
  rintro e w' ⟨A1, c1, A2, c2, rfl, hb⟩
  subst h
  exact ⟨_, _, _, _, _, _, _, _, _, _, _, _, _, _, rfl, hb⟩

set_option maxRecDepth 100000 in
set_option maxHeartbeats 4000000 in
theorem lawLines_any (lb d t : ByteArray) (w : World) (hlb : lb.size ≤ 9223372036854775807) (hd : d.size ≤ 9223372036854775807) (ht : t.size ≤ 9223372036854775807) : Calls Tryz.prog 7 #[.string lb, .string d, .string t] w fun e w' => e = .returned (.bool true) ∧ Below w.heap.size w w' := by
  have HA := Lib.hid awake_any
  by_cases h1 : 400 < lb.size
  · have d1 : decide (400 < lb.size) = true := decide_eq_true h1
    go_enter Tryz.func7, Tryz.ntmps7
    go_wp2_with fail
    ((with_reducible refine (HA.out _).mono ?_))
    rintro e w1 ⟨rfl, b1⟩
    go_wp2_with fail
    go_ret
    exact ⟨rfl, b1⟩
  have d1 : decide (400 < lb.size) = false := decide_eq_false h1
  by_cases h2 : 400 < d.size
  · have d2 : decide (400 < d.size) = true := decide_eq_true h2
    go_enter Tryz.func7, Tryz.ntmps7
    go_wp2_with fail
    ((with_reducible refine (HA.out _).mono ?_))
    rintro e w1 ⟨rfl, b1⟩
    go_wp2_with fail
    go_ret
    exact ⟨rfl, b1⟩
  have d2 : decide (400 < d.size) = false := decide_eq_false h2
  by_cases h3 : 400 < t.size
  · have d3 : decide (400 < t.size) = true := decide_eq_true h3
    go_enter Tryz.func7, Tryz.ntmps7
    go_wp2_with fail
    ((with_reducible refine (HA.out _).mono ?_))
    rintro e w1 ⟨rfl, b1⟩
    go_wp2_with fail
    go_ret
    exact ⟨rfl, b1⟩
  have d3 : decide (400 < t.size) = false := decide_eq_false h3
  have F1 := Lib.hid fun W => feed_any d W (by omega)
  have F2 := Lib.hid fun W => feed_any t W (by omega)
  cases f1 : feedB (bytesL d)
  rotate_left
  · rw [f1] at F1
    clear f1
    go_enter Tryz.func7, Tryz.ntmps7
    go_wp2_with fail
    ((with_reducible refine (F1.out _).mono ?_))
    rintro e w0 ⟨rfl, rfl⟩
    go_wp2_with fail
    ((with_reducible refine (HA.out _).mono ?_))
    rintro e w1 ⟨rfl, b1⟩
    go_wp2_with fail
    go_ret
    exact ⟨rfl, b1⟩
  rw [f1] at F1
  cases f2 : feedB (bytesL t)
  rotate_left
  · rw [f2] at F2
    clear f1 f2
    go_enter Tryz.func7, Tryz.ntmps7
    go_wp2_with fail
    ((with_reducible refine (F1.out _).mono ?_))
    rintro e w0 ⟨rfl, rfl⟩
    go_wp2_with fail
    ((with_reducible refine (F2.out _).mono ?_))
    rintro e w0 ⟨rfl, rfl⟩
    go_wp2_with fail
    ((with_reducible refine (HA.out _).mono ?_))
    rintro e w1 ⟨rfl, b1⟩
    go_wp2_with fail
    go_ret
    exact ⟨rfl, b1⟩
  rw [f2] at F2
  have g1 := feed_all f1
  have g2 := feed_all f2
  clear f1 f2
  by_cases he : d.size = 0 ∧ t.size = 0
  · obtain ⟨hd0, ht0⟩ := he
    obtain rfl : d = ⟨#[]⟩ := by rw [← mk_bytesL d, (size_nil d).1 hd0]; rfl
    obtain rfl : t = ⟨#[]⟩ := by rw [← mk_bytesL t, (size_nil t).1 ht0]; rfl
    clear g1 g2 hd0 ht0
    go_enter Tryz.func7, Tryz.ntmps7
    go_wp2_with fail
    ((with_reducible refine (F1.out _).mono ?_))
    rintro e w0 ⟨rfl, rfl⟩
    go_wp2_with fail
    ((with_reducible refine (F2.out _).mono ?_))
    rintro e w0 ⟨rfl, rfl⟩
    go_wp2_with fail
    ((with_reducible refine (HA.out _).mono ?_))
    rintro e w1 ⟨rfl, b1⟩
    go_wp2_with fail
    go_ret
    exact ⟨rfl, b1⟩
  have hne : ¬ (bytesL d = [] ∧ bytesL t = []) := fun h => he ⟨(size_nil d).2 h.1, (size_nil t).2 h.2⟩
  have HL := Lib.hid fun W => l_label lb W (by omega)
  have hlf := @label_facts (bytesL lb)
  generalize labelL (bytesL lb) = L at *
  have hcase : (d.toList ≠ [] ∧ d.toList.isEmpty = false) ∨ (d = ⟨#[]⟩ ∧ t.toList ≠ [] ∧ t.toList.isEmpty = false) := by
    by_cases hd0 : d.size = 0
    · right
      refine ⟨by rw [← mk_bytesL d, (size_nil d).1 hd0]; rfl, ?_⟩
      exact cons_list t (fun e => he ⟨hd0, (size_nil t).2 e⟩)
    · left; exact cons_list d (fun e => hd0 ((size_nil d).2 e))
  clear he
  by_cases hL : L = []
  · subst hL
    have e0 : mk [] = ⟨#[]⟩ := rfl
    rw [e0] at HL
    clear hlf hne g1 g2
    rcases hcase with ⟨x1, x2⟩ | ⟨rfl, x1, x2⟩
    all_goals
      go_enter Tryz.func7, Tryz.ntmps7
      go_wp2_with fail
      ((with_reducible refine (F1.out _).mono ?_))
      rintro e w0 ⟨rfl, rfl⟩
      go_wp2_with fail
      ((with_reducible refine (F2.out _).mono ?_))
      rintro e w0 ⟨rfl, rfl⟩
      go_wp2_with fail
      ((with_reducible refine (HL.out _).mono ?_))
      rintro e w1 ⟨rfl, b1⟩
      go_wp2_with fail
      ((with_reducible refine (HA.out _).mono ?_))
      rintro e w2 ⟨rfl, b2⟩
      go_wp2_with fail
      go_ret
      exact ⟨rfl, b1.trans (b2.mono b1.size)⟩
  obtain ⟨lf1, lf2, lf3, lf4⟩ := hlf hL
  clear hlf
  obtain ⟨md, mkd⟩ := mark_line L (bytesL d) (bytesL t) hL lf3 lf2 g1 g2 hne
  have hil := inside_len (bytesL d) (bytesL t) (by rw [bytesL_length]; omega) (by rw [bytesL_length]; omega)
  have hsz : (mk (lineL L (bytesL d) (bytesL t))).size ≤ 1000000 := by
    rw [mk_size]; unfold lineL
    simp only [List.length_cons, List.length_append]; omega
  have HI := Lib.hid fun W => l_inside d t W (by omega) (by omega)
  have HD : Hid (∀ W, Calls Tryz.prog 18 #[.string (mk (lineL L (bytesL d) (bytesL t)))] W fun e w' => e = .returned (.tuple #[.string (mk L), .string d, .string t, .bool true]) ∧ Below W.heap.size W w') := Lib.hid fun W => by
    have h := l_def (mk (lineL L (bytesL d) (bytesL t))) W hsz
    rw [md] at h
    refine h.mono ?_
    rintro e w' ⟨rfl, hb⟩
    refine ⟨?_, hb⟩
    show Ending.returned (.tuple #[.string (mk L), .string (mk (bytesL d)), .string (mk (bytesL t)), .bool true]) = _
    rw [mk_bytesL, mk_bytesL]
  have HO := Lib.hid fun W => of_kind (mk (lineL L (bytesL d) (bytesL t))) 11 mkd W hsz
  have HL2 : Hid (∀ W, Calls Tryz.prog 20 #[.string (mk L)] W fun e w' => e = .returned (.string (mk L)) ∧ Below W.heap.size W w') := Lib.hid fun W => by
    have h := l_label (mk L) W (by rw [mk_size]; omega)
    rw [bytesL_mk', lf2] at h
    exact h
  have HFo : Hid (∀ W, Calls Tryz.prog 24 #[.string (mk L)] W fun e w' => e = .returned (.string (mk L)) ∧ Below W.heap.size W w') := Lib.hid fun W => by
    have h := fold_any (mk L) W (by rw [mk_size]; omega)
    rw [lf1] at h
    exact h
  have E1 : ∀ W, (Op.stringOp .add ⟨#[91]⟩ (mk L)).run Tryz.prog W = .ok (.string (mk (91 :: L))) W := fun W => cat_two W [91] L _ (by simp; omega) rfl
  have E2 : ∀ W, (Op.stringOp .add (mk (91 :: L)) ⟨#[93, 58, 32]⟩).run Tryz.prog W = .ok (.string (mk (91 :: L ++ [93, 58, 32]))) W := fun W => cat_two W (91 :: L) [93, 58, 32] _ (by simp; omega) rfl
  have E3 : ∀ W, (Op.stringOp .add (mk (91 :: L ++ [93, 58, 32])) (mk (insideL (bytesL d) (bytesL t)))).run Tryz.prog W = .ok (.string (mk (lineL L (bytesL d) (bytesL t)))) W := fun W => cat_two W (91 :: L ++ [93, 58, 32]) _ _ (by simp only [List.length_cons, List.length_append, List.length_nil]; omega) (by unfold lineL; simp)
  obtain ⟨z1, z2⟩ := cons_list (mk L) (by rw [bytesL_mk']; exact hL)
  clear md mkd hil hsz lf1 lf2 lf3 lf4 hL hne g1 g2
  generalize mk (lineL L (bytesL d) (bytesL t)) = S at *
  generalize mk (insideL (bytesL d) (bytesL t)) = I at *
  generalize mk (91 :: L ++ [93, 58, 32]) = S2 at *
  generalize mk (91 :: L) = S1 at *
  generalize mk L = LS at *
  have q1 : (LS.toList == LS.toList) = true := beq_self_eq_true _
  have q2 : (d.toList == d.toList) = true := beq_self_eq_true _
  have q3 : (t.toList == t.toList) = true := beq_self_eq_true _
  have hfd : ∀ (k n : Int) (s2 : ByteArray) (i3 : Int) (s4 s5 s6 s7 s8 : ByteArray) (A : Option Addr) (m c : Nat) (A' : Option Addr) (m' c' : Nat) (W : World), (Instr.field 27 (.agg #[.int .i64 k, .int .i64 n, .string s2, .int .i64 i3, .string s4, .string s5, .string s6, .string s7, .string s8, .slice A m c, .slice A' m' c']) 0).run Tryz.prog W = .ok (.int .i64 k) W := fun _ _ _ _ _ _ _ _ _ _ _ _ _ _ _ _ => by kernel_rfl
  rcases hcase with ⟨x1, x2⟩ | ⟨rfl, x1, x2⟩
  all_goals
    go_enter Tryz.func7, Tryz.ntmps7
    go_wp2_with fail
    ((with_reducible refine (F1.out _).mono ?_))
    rintro e w0 ⟨rfl, rfl⟩
    go_wp2_with fail
    ((with_reducible refine (F2.out _).mono ?_))
    rintro e w0 ⟨rfl, rfl⟩
    go_wp2_with fail
    ((with_reducible refine (HL.out _).mono ?_))
    rintro e w1 ⟨rfl, b1⟩
    have C1 := Lib.hid b1
    clear b1
    go_wp2_with fail
    ((with_reducible refine (HI.out _).mono ?_))
    rintro e w2 ⟨rfl, b2⟩
    have C2 := Lib.hid (C1.out.trans (b2.mono C1.out.size))
    clear b2
    go_wp2_with fail
    ((with_reducible refine (HD.out _).mono ?_))
    rintro e w3 ⟨rfl, b3⟩
    have C3 := Lib.hid (C2.out.trans (b3.mono C2.out.size))
    clear b3
    go_wp2_with fail
    ((with_reducible refine (HL2.out _).mono ?_))
    rintro e w4 ⟨rfl, b4⟩
    have C4 := Lib.hid (C3.out.trans (b4.mono C3.out.size))
    clear b4
    go_wp2_with fail
    ((with_reducible refine (HFo.out _).mono ?_))
    rintro e w5 ⟨rfl, b5⟩
    have C5 := Lib.hid (C4.out.trans (b5.mono C4.out.size))
    clear b5
    go_wp2_with fail
    ((with_reducible refine (HO.out _).mono ?_))
    rintro e w6 ⟨n, s2, i3, s4, s5, s6, s7, s8, A1, n1, c1, A2, n2, c2, rfl, b6⟩
    have C6 := Lib.hid (C5.out.trans (b6.mono C5.out.size))
    clear b6
    go_wp2_with fail
    ((with_reducible refine (HA.out _).mono ?_))
    rintro e w7 ⟨rfl, b7⟩
    go_wp2_with fail
    go_ret
    exact ⟨rfl, C6.out.trans (b7.mono C6.out.size)⟩
end Go.Proofs.YthfienjmigidbaaGreatDoor
