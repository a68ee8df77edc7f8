/-
  What stands inside is read back as a tail: pure.
-/
import Derived.Test.YtepeaenbjgbnfaaDoorLinkK
set_option linter.unusedVariables false
set_option linter.unusedSimpArgs false
namespace Go.Pub
theorem sfx_head {s : ByteArray} {i : Nat} {b : UInt8} {r : List UInt8} (h : sfx s i = b :: r) : i < s.size ∧ bt s i = b.toNat ∧ sfx s (i + 1) = r := by
  have hl : i < s.size := by
    have := congrArg List.length h
    rw [sfx_len, List.length_cons] at this
    omega
  rw [sfx_cons s i hl] at h
  injection h with h1 h2
  exact ⟨hl, by rw [← h1]; rfl, h2⟩
theorem sfx_app {s : ByteArray} {i : Nat} {n r : List UInt8} (h : sfx s i = n ++ r) : sfx s (i + n.length) = r := by
  unfold sfx at h ⊢
  rw [← List.drop_drop, h, List.drop_left]
theorem sub_run {s : ByteArray} {i : Nat} {n r : List UInt8} (h : sfx s i = n ++ r) : sub s i (i + n.length) = n := by
  unfold sub sfx at *
  rw [h, Nat.add_sub_cancel_left, List.take_left]
theorem escS_cons (c : UInt8) (l : List UInt8) : escS (c :: l) = escS1 c ++ escS l := rfl
theorem spec_punc (b : UInt8) (h : specB b.toNat = true) : puncB b = true := by
  simp only [specB, List.contains_cons, List.contains_nil, Bool.or_false, Bool.or_eq_true, beq_iff_eq] at h
  unfold puncB
  rcases h with h | h | h | h | h | h | h | h | h | h | h <;> rw [h] <;> decide
theorem escH_not (c : UInt8) (l : List UInt8) (h : c ≠ 92) : escH (c :: l) = false := by
  cases l with
  | nil => rfl
  | cons d l => show (c == 92 && puncB d) = false; rw [beq_eq_false_iff_ne.2 h]; rfl
theorem escH_spec (c : UInt8) (l : List UInt8) (h : specB c.toNat = true) : escH (92 :: c :: l) = true := by
  show ((92 : UInt8) == 92 && puncB c) = true
  rw [spec_punc c h]; rfl
theorem spec_ne (c a : UInt8) (hc : ¬ specB c.toNat = true) (ha : specB a.toNat = true) : c ≠ a := by rintro rfl; exact hc ha
theorem scan_esc (a b : UInt8) (ha : specB a.toNat = true) (hb : specB b.toNat = true) (ha' : a ≠ 92) (hb' : b ≠ 92) (rest : List UInt8) : ∀ l : List UInt8, (∀ c ∈ l, c ≠ 10) → scanL a b (escS l ++ a :: rest) = some (escS l).length
  | [], _ => by show scanL a b (a :: rest) = some 0; rw [scanL_cons, if_pos rfl]
  | c :: l, h => by
    have ih := scan_esc a b ha hb ha' hb' rest l (fun x hx => h x (List.mem_cons_of_mem _ hx))
    have h10 := h c List.mem_cons_self
    rw [escS_cons]
    unfold escS1
    split
    · rename_i hc
      rw [List.append_assoc]
      show scanL a b (92 :: c :: (escS l ++ a :: rest)) = _
      rw [scanL_cons, if_neg (Ne.symm ha'), if_neg (by rintro (e | e); exact hb' e.symm; exact absurd e (by decide)), if_pos (escH_spec c _ hc)]
      show (scanL a b (escS l ++ a :: rest)).map (· + 2) = _
      rw [ih]; simp
    · rename_i hc
      show scanL a b (c :: (escS l ++ a :: rest)) = _
      rw [scanL_cons, if_neg (spec_ne c a hc ha), if_neg (by rintro (e | e); exact spec_ne c b hc hb e; exact h10 e), if_neg (by rw [escH_not c _ (spec_ne c 92 hc (by decide))]; simp), ih]
      simp
theorem dest_esc (e : UInt8) (he : e = 32 ∨ e = 41) (rest : List UInt8) : ∀ l : List UInt8, gapB l = false → destL 0 (escS l ++ e :: rest) = some (escS l).length
  | [], _ => by
    show destL 0 (e :: rest) = some 0
    rw [destL_cons, if_pos (by rcases he with h | h; exact Or.inl h; exact Or.inr (Or.inr ⟨h, rfl⟩)), if_pos rfl]
  | c :: l, h => by
    have h' : spaceB (c.toNat : Int) = false ∧ gapB l = false := by
      unfold gapB at h ⊢
      rw [List.any_cons, Bool.or_eq_false_iff] at h
      exact h
    have ih := dest_esc e he rest l h'.2
    have h32 : c ≠ 32 := by rintro rfl; exact absurd h'.1 (by decide)
    have h10 : c ≠ 10 := by rintro rfl; exact absurd h'.1 (by decide)
    rw [escS_cons]
    unfold escS1
    split
    · rename_i hc
      rw [List.append_assoc]
      show destL 0 (92 :: c :: (escS l ++ e :: rest)) = _
      rw [destL_cons, if_neg (by decide), if_pos (escH_spec c _ hc)]
      show (destL 0 (escS l ++ e :: rest)).map (· + 2) = _
      rw [ih]; simp
    · rename_i hc
      have h40 := spec_ne c 40 hc (by decide)
      have h41 := spec_ne c 41 hc (by decide)
      show destL 0 (c :: (escS l ++ e :: rest)) = _
      rw [destL_cons, if_neg (by rintro (e | e | e); exact h32 e; exact h10 e; exact h41 e.1), if_neg (by rw [escH_not c _ (spec_ne c 92 hc (by decide))]; simp), if_neg h40, if_neg h41, ih]
      simp
theorem unesc_escS : ∀ l : List UInt8, unescL (escS l) = l
  | [] => rfl
  | c :: l => by
    have ih := unesc_escS l
    rw [escS_cons]
    unfold escS1
    split
    · rename_i hc
      show unescL (92 :: c :: escS l) = _
      rw [unescL_cons, if_pos (escH_spec c _ hc)]
      show c :: unescL (escS l) = _
      rw [ih]
    · rename_i hc
      show unescL (c :: escS l) = _
      rw [unescL_cons, if_neg (by rw [escH_not c _ (spec_ne c 92 hc (by decide))]; simp), ih]

theorem scan_back {s : ByteArray} {i : Nat} (a b : Nat) (ha1 : a < 256) (hb1 : b < 256) (ha : specB a = true) (hb : specB b = true) (ha' : a ≠ 92) (hb' : b ≠ 92) {l r : List UInt8} (hl : ∀ c ∈ l, c ≠ 10) (c0 : UInt8)
    (h : sfx s i = c0 :: (escS l ++ UInt8.ofNat a :: r)) : betw s i a b = some (l, i + (escS l).length + 2) := by
  obtain ⟨_, _, h1⟩ := sfx_head h
  have ea : (UInt8.ofNat a).toNat = a := by simp [UInt8.toNat_ofNat]; omega
  have eb : (UInt8.ofNat b).toNat = b := by simp [UInt8.toNat_ofNat]; omega
  have k1 : scanA s a b (i + 1) = some (i + 1 + (escS l).length) := by
    unfold scanA
    rw [h1, scan_esc _ _ (by rw [ea]; exact ha) (by rw [eb]; exact hb) (fun e => ha' (by have := congrArg UInt8.toNat e; rw [ea] at this; exact this)) (fun e => hb' (by have := congrArg UInt8.toNat e; rw [eb] at this; exact this)) r l hl]
    simp only [Option.map_some]; congr 1; omega
  unfold betw
  rw [k1]
  simp only [Option.map_some]
  rw [sub_run h1, unesc_escS]
  congr 2
  omega

/-- The written form of a destination. -/
def dstL (d : List UInt8) : List UInt8 := if d = [] ∨ gapB d = true then [60] ++ escS d ++ [62] else escS d
theorem escS1_head (c : UInt8) (h : spaceB (c.toNat : Int) = false) : ∃ b r, escS1 c = b :: r ∧ spaceB (b.toNat : Int) = false ∧ b ≠ 41 ∧ b ≠ 60 := by
  unfold escS1
  split
  · exact ⟨92, [c], rfl, by decide, by decide, by decide⟩
  · rename_i hc
    exact ⟨c, [], rfl, h, spec_ne c 41 hc (by decide), spec_ne c 60 hc (by decide)⟩
theorem dst_head (d : List UInt8) : ∃ b r, dstL d = b :: r ∧ spaceB (b.toNat : Int) = false ∧ b ≠ 41 ∧ (b = 60 ↔ (d = [] ∨ gapB d = true)) := by
  unfold dstL
  split
  · rename_i h
    exact ⟨60, escS d ++ [62], rfl, by decide, by decide, by simp [h]⟩
  · rename_i h
    cases d with
    | nil => exact absurd (Or.inl rfl) h
    | cons c l =>
      have hg : gapB (c :: l) = false := by rw [Bool.eq_false_iff]; exact fun e => h (Or.inr e)
      have hc : spaceB (c.toNat : Int) = false := by
        unfold gapB at hg
        rw [List.any_cons, Bool.or_eq_false_iff] at hg
        exact hg.1
      obtain ⟨b, r, e1, e2, e3, e4⟩ := escS1_head c hc
      exact ⟨b, r ++ escS l, by rw [escS_cons, e1]; rfl, e2, e3, by simp [e4, hg]⟩
theorem u8n {b : UInt8} {n : Nat} (hn : n < 256) (h : b ≠ UInt8.ofNat n) : b.toNat ≠ n := fun e => h ((u8_nat b n hn).2 e)
theorem dest_back {s : ByteArray} {i : Nat} (d : List UInt8) (hd : ∀ c ∈ d, c ≠ 10) (e : UInt8) (he : e = 32 ∨ e = 41) {r : List UInt8} (h : sfx s i = dstL d ++ e :: r) : destR s i = some (d, i + (dstL d).length) := by
  obtain ⟨b, t, hb, _, _, h60⟩ := dst_head d
  have hh : sfx s i = b :: (t ++ e :: r) := by rw [h, hb]; rfl
  obtain ⟨hi, hbt, _⟩ := sfx_head hh
  unfold destR
  rw [if_pos ⟨by omega, by omega⟩, Int.toNat_natCast]
  by_cases c : d = [] ∨ gapB d = true
  · have e0 : dstL d = [60] ++ escS d ++ [62] := by unfold dstL; rw [if_pos c]
    rw [hbt, h60.2 c, if_pos (by rfl)]
    rw [scan_back 62 60 (by decide) (by decide) (by decide) (by decide) (by decide) (by decide) hd 60 (r := e :: r) (by rw [h, e0]; simp), e0]
    simp; omega
  · have e0 : dstL d = escS d := by unfold dstL; rw [if_neg c]
    rw [e0] at h ⊢
    rw [hbt, if_neg (u8n (n := 60) (by decide) (fun e => c (h60.1 e)))]
    have hg : gapB d = false := by rw [Bool.eq_false_iff]; exact fun e => c (Or.inr e)
    have k1 : destA s 0 i = some (i + (escS d).length) := by
      unfold destA
      rw [h, dest_esc e he r d hg]
      simp only [Option.map_some]; congr 1; omega
    have hpos : 0 < (escS d).length := by rw [← e0, hb]; simp
    rw [k1]
    show (if i + (escS d).length = i then none else some (unescL (sub s i (i + (escS d).length)), i + (escS d).length)) = _
    rw [if_neg (by omega), sub_run h, unesc_escS]
theorem title_back {s : ByteArray} {i : Nat} (t : List UInt8) (ht : ∀ c ∈ t, c ≠ 10) {r : List UInt8} (h : sfx s i = 34 :: (escS t ++ 34 :: r)) : titleR s i = some (t, i + (escS t).length + 2) := by
  obtain ⟨hi, hbt, _⟩ := sfx_head h
  unfold titleR
  rw [if_pos ⟨by omega, by omega⟩, Int.toNat_natCast, hbt, if_pos (by rfl)]
  exact scan_back 34 34 (by decide) (by decide) (by decide) (by decide) (by decide) (by decide) ht 34 h
theorem skip_stop {s : ByteArray} {i : Nat} {b : UInt8} {r : List UInt8} (h : sfx s i = b :: r) (hb : spaceB (b.toNat : Int) = false) : skipA s i = i := by
  obtain ⟨hi, hbt, _⟩ := sfx_head h
  exact skipA_no s i hi (by rw [hbt]; exact hb)
theorem skip_one {s : ByteArray} {i : Nat} {b : UInt8} {r : List UInt8} (h : sfx s i = 32 :: b :: r) (hb : spaceB (b.toNat : Int) = false) : skipA s i = i + 1 := by
  obtain ⟨hi, hbt, h1⟩ := sfx_head h
  rw [skipA_yes s i hi (by rw [hbt]; rfl), skip_stop h1 hb]
theorem insideL_eq (d t : List UInt8) (h : ¬ (d = [] ∧ t = [])) : insideL d t = dstL d ++ (if t = [] then [] else [32, 34] ++ escS t ++ [34]) := by
  unfold insideL dstL; rw [if_neg h]
theorem tail_back {s : ByteArray} (d t r : List UInt8) (hd : ∀ c ∈ d, c ≠ 10) (ht : ∀ c ∈ t, c ≠ 10) (h : sfx s 0 = 40 :: (insideL d t ++ 41 :: r)) : tailR s 0 = some ⟨d, t, [], (insideL d t).length + 2⟩ := by
  obtain ⟨hi, hbt, h1⟩ := sfx_head h
  unfold tailR
  rw [if_pos ⟨by omega, by omega⟩]
  show (if bt s 0 = 40 then _ else _) = _
  rw [hbt, if_pos (by rfl)]
  show (if skipA s 1 < s.size ∧ bt s (skipA s 1) = 41 then some (⟨[], [], [], skipA s 1 + 1⟩ : Tl) else
      (destR s (skipA s 1 : Nat)).bind fun r =>
        if skipA s r.2 < s.size then
          if bt s (skipA s r.2) = 41 then some ⟨r.1, [], [], skipA s r.2 + 1⟩
          else if r.2 < skipA s r.2 then (titleR s (skipA s r.2 : Nat)).bind fun q =>
            if skipA s q.2 < s.size ∧ bt s (skipA s q.2) = 41 then some ⟨r.1, q.1, [], skipA s q.2 + 1⟩ else none
          else none
        else none) = _
  rw [Nat.zero_add] at h1
  by_cases c : d = [] ∧ t = []
  · obtain ⟨rfl, rfl⟩ := c
    have e0 : insideL [] [] = [] := rfl
    rw [e0] at h1 ⊢
    have h1 : sfx s 1 = 41 :: r := h1
    obtain ⟨hi1, hb1, _⟩ := sfx_head h1
    rw [skip_stop h1 (by decide), if_pos (show _ ∧ bt s _ = 41 from ⟨hi1, hb1⟩)]
    rfl
  · have e0 := insideL_eq d t c
    obtain ⟨b, m, hb, hsp, h41, _⟩ := dst_head d
    by_cases ct : t = []
    · rw [if_pos ct, List.append_nil] at e0
      subst ct
      rw [e0] at h1 ⊢
      have hh : sfx s 1 = b :: (m ++ 41 :: r) := by rw [h1, hb]; rfl
      obtain ⟨hi1, hb1, _⟩ := sfx_head hh
      have h2 := sfx_app h1
      obtain ⟨hi2, hb2, _⟩ := sfx_head h2
      rw [skip_stop hh hsp, if_neg (fun e => u8n (n := 41) (by decide) h41 (by rw [← hb1]; exact e.2)), dest_back d hd 41 (Or.inr rfl) h1]
      show (if skipA s (1 + (dstL d).length) < s.size then _ else _) = _
      rw [skip_stop h2 (by decide), if_pos hi2, if_pos (show bt s _ = 41 from hb2)]
      congr 2; omega
    · rw [if_neg ct] at e0
      rw [e0] at h1 ⊢
      have h1' : sfx s 1 = dstL d ++ 32 :: (34 :: (escS t ++ 34 :: 41 :: r)) := by rw [h1]; simp
      have hh : sfx s 1 = b :: (m ++ 32 :: (34 :: (escS t ++ 34 :: 41 :: r))) := by rw [h1', hb]; rfl
      obtain ⟨hi1, hb1, _⟩ := sfx_head hh
      have h2 := sfx_app h1'
      obtain ⟨hi2, hb2, h3⟩ := sfx_head h2
      obtain ⟨hi3, hb3, h4⟩ := sfx_head h3
      have h5 := sfx_app h4
      obtain ⟨_, _, h6⟩ := sfx_head h5
      obtain ⟨hi7, hb7, _⟩ := sfx_head h6
      have e7 : 1 + (dstL d).length + 1 + 1 + (escS t).length + 1 = 1 + (dstL d).length + 1 + (escS t).length + 2 := by omega
      rw [e7] at h6 hi7 hb7
      rw [skip_stop hh hsp, if_neg (fun e => u8n (n := 41) (by decide) h41 (by rw [← hb1]; exact e.2)), dest_back d hd 32 (Or.inl rfl) h1']
      show (if skipA s (1 + (dstL d).length) < s.size then (if bt s (skipA s (1 + (dstL d).length)) = 41 then some (⟨d, [], [], skipA s (1 + (dstL d).length) + 1⟩ : Tl) else if 1 + (dstL d).length < skipA s (1 + (dstL d).length) then (titleR s (skipA s (1 + (dstL d).length) : Nat)).bind _ else none) else none) = _
      rw [skip_one h2 (by decide), if_pos hi3, hb3, if_neg (by decide), if_pos (by omega), title_back t ht h3]
      show (if skipA s (1 + (dstL d).length + 1 + (escS t).length + 2) < s.size ∧ bt s (skipA s (1 + (dstL d).length + 1 + (escS t).length + 2)) = 41 then some (⟨d, t, [], skipA s (1 + (dstL d).length + 1 + (escS t).length + 2) + 1⟩ : Tl) else none) = _
      rw [skip_stop h6 (by decide), if_pos (show _ ∧ bt s _ = 41 from ⟨hi7, hb7⟩)]
      simp only [List.length_append, List.length_cons, List.length_nil]
      congr 2; omega
end Go.Pub
