/-
  Texts of the proof, put together: LawO.
-/
import Derived.Test.YthfienjmigidbaaGreatDoorB40
import Derived.Test.YthfienjmigidbaaGreatDoorB41
import Derived.Test.YthfienjmigidbaaGreatDoorB30
set_option linter.unusedVariables false
set_option linter.unusedSimpArgs false
namespace Go.Proofs.YthfienjmigidbaaGreatDoor
open Go.RowKit Go.Pub

theorem number_info {c : ByteArray} {ind : Nat} {m : MkL} (h : numberM c ind = some m) : m.info.size ≤ c.size := by
  unfold numberM numR at h
  generalize numDig c = k at h
  generalize numVal c k = v at h
  by_cases h1 : (1 ≤ k ∧ k ≤ 9 ∧ k < c.size) ∧ (bt c k = 46 ∨ bt c k = 41)
  · rw [if_pos h1] at h
    by_cases h2 : spB (c.extract (k + 1) c.size) = true
    · rw [if_pos h2] at h
      injection h with h
      subst h
      show (c.extract 0 k).size ≤ c.size
      rw [ByteArray.size_extract]; omega
    · rw [if_neg h2] at h; cases h
  · rw [if_neg h1] at h; cases h
theorem rdrs_info (c : ByteArray) (ind : Nat) (m : MkL) (h : some m ∈ rdrs c ind) (h6 : m.kind = 6) : m.info.size ≤ c.size := by
  unfold rdrs at h
  simp only [List.mem_cons, List.not_mem_nil, or_false] at h
  rcases h with h | h | h | h | h | h | h | h | h | h
  · have := head_kind h.symm; omega
  · have := rule_kind h.symm; omega
  · obtain ⟨_, rfl⟩ := quote_some h.symm; exact absurd h6 (by decide : (4 : Nat) ≠ 6)
  · have := bullet_some h.symm; subst this; exact absurd h6 (by decide : (5 : Nat) ≠ 6)
  · exact number_info h.symm
  · have := fence_some h.symm; omega
  · have := math_kind h.symm; omega
  · have := div_kind h.symm; omega
  · obtain ⟨_, rfl⟩ := note_some h.symm; exact absurd h6 (by decide : (10 : Nat) ≠ 6)
  · have := def_kind h.symm; omega
theorem mark_info (s : ByteArray) (h6 : (markM s).kind = 6) : (markM s).info.size ≤ s.size := by
  unfold markM at h6 ⊢
  by_cases hb : blankB s = true
  · rw [if_pos hb] at h6; exact absurd h6 (by decide : (1 : Nat) ≠ 6)
  rw [if_neg hb] at h6 ⊢
  unfold markC at h6 ⊢
  by_cases h3 : 3 < indA s 0
  · rw [if_pos h3] at h6; exact absurd h6 (by decide : (0 : Nat) ≠ 6)
  rw [if_neg h3] at h6 ⊢
  cases hf : firstS (rdrs (s.extract (indA s 0) s.size) (indA s 0)) with
  | none => rw [hf] at h6; exact absurd h6 (by decide : (0 : Nat) ≠ 6)
  | some m =>
    rw [hf] at h6
    exact Nat.le_trans (rdrs_info _ _ m (first_mem _ _ hf) h6) (extract_le s (indA s 0) s.size)
theorem mkpost_val {m : MkL} {w w' : World} {e : Ending} (h : MkPost m w e w') : ∃ A c D d, e = .returned (.agg (m.cells (.slice A m.att.cl.length c) (.slice D m.att.pr.length d))) ∧ Below w.heap.size w w' := by
  obtain ⟨⟨_, rfl, C, P, rfl, o⟩, b⟩ := h
  obtain ⟨A, c, rfl⟩ := own_slice o.cls
  obtain ⟨D, d, rfl⟩ := own_slice o.prs
  exact ⟨A, c, D, d, rfl, b⟩

set_option maxRecDepth 100000 in
set_option maxHeartbeats 2000000 in
theorem lawSame_any (s t : ByteArray) (w : World) (hs : s.size ≤ 9223372036854775807) (ht : t.size ≤ 9223372036854775807) :
    Calls Tryz.prog 4 #[.string s, .string t] w fun e w' => e = .returned (.bool true) ∧ Below w.heap.size w w' := by
  have HA := Lib.hid mk_awake
  by_cases h : 800 < s.size
  · have d1 : decide (800 < s.size) = true := decide_eq_true h
    go_enter Tryz.func4, Tryz.ntmps4
    go_wp2_with fail
    ((with_reducible refine (HA.out _).mono ?_))
    rintro e w1 ⟨rfl, b1⟩
    go_wp2_with fail
    go_ret
    exact ⟨rfl, b1⟩
  have d1 : decide (800 < s.size) = false := decide_eq_false h
  by_cases h2 : 800 < t.size
  · have d2 : decide (800 < t.size) = true := decide_eq_true h2
    go_enter Tryz.func4, Tryz.ntmps4
    go_wp2_with fail
    ((with_reducible refine (HA.out _).mono ?_))
    rintro e w1 ⟨rfl, b1⟩
    go_wp2_with fail
    go_ret
    exact ⟨rfl, b1⟩
  have d2 : decide (800 < t.size) = false := decide_eq_false h2
  have hsa := (mark_small s).2
  have hsb := (mark_small t).2
  have hib := mark_info t
  have H1 := Lib.hid fun W => (m_of s W (by omega)).mono fun e w' => mkpost_val
  have H2 := Lib.hid fun W => (m_of t W (by omega)).mono fun e w' => mkpost_val
  have H3 := Lib.hid fun W => (r5_of s W (by omega)).mono fun e w' => mkpost_val
  have H4 := Lib.hid fun W => (r5_of t W (by omega)).mono fun e w' => mkpost_val
  generalize markM s = a at *
  generalize markM t = b at *
  have HS := Lib.hid fun (A1 : Option Addr) (c1 : Nat) (A2 : Option Addr) (c2 : Nat) (A3 : Option Addr) (c3 : Nat) (A4 : Option Addr) (c4 : Nat) W => m_same a b A1 A2 A3 A4 a.att.cl.length c1 a.att.pr.length c2 b.att.cl.length c3 b.att.pr.length c4 W (by omega) (by omega) (fun e => by have := hib e; omega)
  have HT := Lib.hid fun (A1 : Option Addr) (c1 : Nat) (A2 : Option Addr) (c2 : Nat) (A3 : Option Addr) (c3 : Nat) (A4 : Option Addr) (c4 : Nat) W => r_markSame a b A1 A2 A3 A4 a.att.cl.length c1 a.att.pr.length c2 b.att.cl.length c3 b.att.pr.length c4 W (by omega) (by omega) (fun e => by have := hib e; omega)
  generalize sameR a b = R at *
  have hbb : (R == R) = true := beq_self_eq_true R
  clear hsa hsb hib
  go_enter Tryz.func4, Tryz.ntmps4
  go_wp2_with fail
  ((with_reducible refine (H1.out _).mono ?_))
  rintro e w1 ⟨A1, c1, A2, c2, rfl, b1⟩
  have C1 := Lib.hid b1
  clear b1
  go_wp2_with fail
  ((with_reducible refine (H2.out _).mono ?_))
  rintro e w2 ⟨A3, c3, A4, c4, rfl, b2⟩
  have C2 := Lib.hid (C1.out.trans (b2.mono C1.out.size))
  clear b2
  go_wp2_with fail
  ((with_reducible refine (HS.out A1 c1 A2 c2 A3 c3 A4 c4 _).mono ?_))
  rintro e w3 ⟨rfl, b3⟩
  have C3 := Lib.hid (C2.out.trans (b3.mono C2.out.size))
  clear b3
  go_wp2_with fail
  ((with_reducible refine (H3.out _).mono ?_))
  rintro e w4 ⟨A5, c5, A6, c6, rfl, b4⟩
  have C4 := Lib.hid (C3.out.trans (b4.mono C3.out.size))
  clear b4
  go_wp2_with fail
  ((with_reducible refine (H4.out _).mono ?_))
  rintro e w5 ⟨A7, c7, A8, c8, rfl, b5⟩
  have C5 := Lib.hid (C4.out.trans (b5.mono C4.out.size))
  clear b5
  go_wp2_with fail
  ((with_reducible refine (HT.out A5 c5 A6 c6 A7 c7 A8 c8 _).mono ?_))
  rintro e w6 ⟨rfl, b6⟩
  have C6 := Lib.hid (C5.out.trans (b6.mono C5.out.size))
  clear b6
  go_wp2_with fail
  ((with_reducible refine (HA.out _).mono ?_))
  rintro e w7 ⟨rfl, b7⟩
  go_wp2_with fail
  go_ret
  exact ⟨rfl, C6.out.trans (b7.mono C6.out.size)⟩
end Go.Proofs.YthfienjmigidbaaGreatDoor
