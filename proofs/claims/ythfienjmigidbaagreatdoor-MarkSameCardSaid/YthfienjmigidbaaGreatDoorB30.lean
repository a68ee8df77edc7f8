/-
  Texts of the proof, put together: MkP, MkW, MkY, Row, RowM.
-/
import Derived.Test.YthfienjmigidbaaGreatDoorB13
import Derived.Test.YthfienjmigidbaaGreatDoorB24
import Derived.Test.YthfienjmigidbaaGreatDoorB29
import Derived.Test.YthfienjmigidbaaGreatDoorB23
import Derived.Below
import Derived.ChangeSame
import Derived.ProofKit
import Derived.Test.YthfienjmigidbaaGreatDoorB02
import Derived.Test.YthfienjmigidbaaGreatDoorProg
import Derived.Lib.SmallJoins
import Derived.OpenShut
import Derived.Carry
set_option linter.unusedVariables false
set_option linter.unusedSimpArgs false
namespace Go.Proofs.YthfienjmigidbaaGreatDoor
open Go.RowKit Go.Pub

/-- Whether the mark b continues the list of the mark a. -/
def sameR (a b : MkL) : Bool := decide (a.kind = b.kind ∧ a.ch = b.ch ∧ (b.kind = 6 ∧ (b.off : Int) - 2 - (b.info.size : Int) < (a.off : Int) ∨ b.kind = 5 ∧ (b.off : Int) - 2 < (a.off : Int)))

set_option maxRecDepth 100000 in
set_option maxHeartbeats 1000000 in
theorem m_same (a b : MkL) (A1 A2 A3 A4 : Option Addr) (n1 c1 n2 c2 n3 c3 n4 c4 : Nat) (w : World) (ha : a.off ≤ 2000000) (hb : b.off ≤ 2000000) (hi : b.kind = 6 → b.info.size ≤ 1000000) :
    Calls Tryz.prog 12 #[.agg (a.cells (.slice A1 n1 c1) (.slice A2 n2 c2)), .agg (b.cells (.slice A3 n3 c3) (.slice A4 n4 c4))] w fun e w' => e = .returned (.bool (sameR a b)) ∧ Below w.heap.size w w' := by
  have HR : Hid (sameR a b = decide (a.kind = b.kind ∧ a.ch = b.ch ∧ (b.kind = 6 ∧ (b.off : Int) - 2 - (b.info.size : Int) < (a.off : Int) ∨ b.kind = 5 ∧ (b.off : Int) - 2 < (a.off : Int)))) := Lib.hid rfl
  generalize sameR a b = R at *
  obtain ⟨ka, na, ca, oa, ia, ra, da, ta, aa⟩ := a
  obtain ⟨kb, nb, cb, ob, ib, rb, db, tb, ab⟩ := b
  simp only [MkL.cells] at *
  by_cases hk : ka = kb
  case neg =>
    have z1 : (((ka : Nat) : Int) != (kb : Int)) = true := by rw [bne_iff_ne]; omega
    have z2 : (((ka : Nat) : Int) == (kb : Int)) = false := by rw [beq_eq_false_iff_ne]; omega
    have HF : Hid (R = false) := Lib.hid (by rw [HR.out, decide_eq_false (fun h => hk h.1)])
    clear HR
    go_enter Tryz.func12, Tryz.ntmps12
    go_wp2_with fail
    go_ret
    exact ⟨ret_bool (by rw [HF.out]), (((Below.refl _ w).alloc (Nat.le_refl _) _).alloc (by simp) _)⟩
  subst hk
  by_cases hc : ca = cb
  case neg =>
    have z1 : (ca.toList == cb.toList) = false := (Lib.bytes_beq_false_iff _ _).2 hc
    have HF : Hid (R = false) := Lib.hid (by rw [HR.out, decide_eq_false (fun h => hc h.2.1)])
    clear HR
    go_enter Tryz.func12, Tryz.ntmps12
    go_wp2_with fail
    go_ret
    exact ⟨ret_bool (by rw [HF.out]), (((Below.refl _ w).alloc (Nat.le_refl _) _).alloc (by simp) _)⟩
  subst hc
  by_cases h6 : ka = 6
  · subst h6
    have HF : Hid (R = decide ((ob : Int) - 2 - (ib.size : Int) < (oa : Int))) := Lib.hid (by rw [HR.out]; simp)
    replace hi := hi rfl
    clear HR
    go_enter Tryz.func12, Tryz.ntmps12
    go_wp2_with fail
    go_ret
    exact ⟨ret_bool (by rw [HF.out]), (((Below.refl _ w).alloc (Nat.le_refl _) _).alloc (by simp) _)⟩
  by_cases h5 : ka = 5
  · subst h5
    have HF : Hid (R = decide ((ob : Int) - 2 < (oa : Int))) := Lib.hid (by rw [HR.out]; simp)
    clear HR
    go_enter Tryz.func12, Tryz.ntmps12
    go_wp2_with fail
    go_ret
    exact ⟨ret_bool (by rw [HF.out]), (((Below.refl _ w).alloc (Nat.le_refl _) _).alloc (by simp) _)⟩
  · have z5 : (((ka : Nat) : Int) == 5) = false := by rw [beq_eq_false_iff_ne]; omega
    have z6 : (((ka : Nat) : Int) == 6) = false := by rw [beq_eq_false_iff_ne]; omega
    have HF : Hid (R = false) := Lib.hid (by rw [HR.out]; simp [h5, h6])
    clear HR
    go_enter Tryz.func12, Tryz.ntmps12
    go_wp2_with fail
    go_ret
    exact ⟨ret_bool (by rw [HF.out]), (((Below.refl _ w).alloc (Nat.le_refl _) _).alloc (by simp) _)⟩

def indentR (m : MkL) : Int := if m.kind = 6 then (m.off : Int) - 2 - (m.info.size : Int) else (m.off : Int) - 2

set_option maxRecDepth 100000 in
set_option maxHeartbeats 1000000 in
theorem r_markIndent (b : MkL) (A3 A4 : Option Addr) (n3 c3 n4 c4 : Nat) (w : World) (hb : b.off ≤ 2000000) (hi : b.kind = 6 → b.info.size ≤ 1000000) :
    Calls Tryz.prog 43 #[.agg (b.cells (.slice A3 n3 c3) (.slice A4 n4 c4))] w fun e w' => e = .returned (.int .i64 (indentR b)) ∧ Below w.heap.size w w' := by
  have HR : Hid (indentR b = if b.kind = 6 then (b.off : Int) - 2 - (b.info.size : Int) else (b.off : Int) - 2) := Lib.hid rfl
  generalize indentR b = R at *
  obtain ⟨kb, nb, cb, ob, ib, rb, db, tb, ab⟩ := b
  simp only [MkL.cells] at *
  by_cases h6 : kb = 6
  · subst h6
    have HF : Hid (R = (ob : Int) - 2 - (ib.size : Int)) := Lib.hid (by rw [HR.out]; simp)
    replace hi := hi rfl
    clear HR
    go_enter Tryz.func43, Tryz.ntmps43
    go_wp2_with fail
    go_ret
    exact ⟨ret_int (by rw [HF.out]), ((Below.refl _ w).alloc (Nat.le_refl _) _)⟩
  · have z6 : (((kb : Nat) : Int) == 6) = false := by rw [beq_eq_false_iff_ne]; omega
    have HF : Hid (R = (ob : Int) - 2) := Lib.hid (by rw [HR.out, if_neg h6])
    clear HR
    go_enter Tryz.func43, Tryz.ntmps43
    go_wp2_with fail
    go_ret
    exact ⟨ret_int (by rw [HF.out]), ((Below.refl _ w).alloc (Nat.le_refl _) _)⟩

end Go.Proofs.YthfienjmigidbaaGreatDoor
namespace Go.Proofs.YthfienjmigidbaaGreatDoor
open Go.RowKit Go.Pub

theorem of_ex {s : ByteArray} {m : MkL} (h : markM s = m) (W : World) (hs : s.size ≤ 1000000) : Calls Tryz.prog 13 #[.string s] W fun e w' => ∃ A1 c1 A2 c2, e = .returned (.agg (m.cells (.slice A1 m.att.cl.length c1) (.slice A2 m.att.pr.length c2))) ∧ Below W.heap.size W w' := by
  subst h
  refine (m_of s W hs).mono ?_
  rintro e w' ⟨⟨v, rfl, vC, vP, rfl, ho⟩, hb⟩
  obtain ⟨A1, c1, rfl⟩ := own_slice ho.cls
  obtain ⟨A2, c2, rfl⟩ := own_slice ho.prs
  exact ⟨A1, c1, A2, c2, rfl, hb⟩
theorem closes_ex {s ch : ByteArray} {K N : Int} {r : AttrL × Bool} (h : closesM s K N ch = r) (o : Int) (s4 s5 s6 s7 s8 : ByteArray) (A9 : Option Addr) (n9 c9 : Nat) (A10 : Option Addr) (n10 c10 : Nat) (W : World) (hs : s.size ≤ 1000000) :
    Calls Tryz.prog 9 #[.string s, .agg #[.int .i64 K, .int .i64 N, .string ch, .int .i64 o, .string s4, .string s5, .string s6, .string s7, .string s8, .slice A9 n9 c9, .slice A10 n10 c10]] W fun e w' => ∃ A1 c1 A2 c2, e = .returned (.tuple #[.agg #[.string r.1.id, .slice A1 r.1.cl.length c1, .slice A2 r.1.pr.length c2], .bool r.2]) ∧ Below W.heap.size W w' := by
  subst h
  refine (m_closes s K N o ch s4 s5 s6 s7 s8 A9 n9 c9 A10 n10 c10 W hs).mono ?_
  rintro e w' ⟨⟨vC, vP, rfl, ho⟩, hb⟩
  obtain ⟨A1, c1, rfl⟩ := own_slice ho.cls
  obtain ⟨A2, c2, rfl⟩ := own_slice ho.prs
  exact ⟨A1, c1, A2, c2, rfl, hb⟩
theorem st_next {w w1 w2 : World} {cs : Array Value} {T : TypeId} (c1 : Below w.heap.size w w1) (b2 : Below (w1.alloc (.cells cs T)).heap.size (w1.alloc (.cells cs T)) w2) : Blk w2 w1.heap.size T cs ∧ Below w.heap.size w w2 :=
  ⟨(Blk.new w1 T cs).below b2 (Blk.new w1 T cs).lt, (c1.alloc c1.size _).trans (b2.mono (c1.alloc c1.size _).size)⟩
theorem blk_next {w1 w2 : World} {g : Nat} {cs : Array Value} {T : TypeId} {o : Obj} (h : Blk w1 g T cs) (b2 : Below (w1.alloc o).heap.size (w1.alloc o) w2) : Blk w2 g T cs := (h.alloc o).below b2 (h.alloc o).lt
theorem ex_of0 : markM ⟨#[49, 50, 41, 32, 97]⟩ = ({ kind := 6, n := 12, ch := ⟨#[41]⟩, off := 4, info := ⟨#[49, 50]⟩, rest := ⟨#[97]⟩, dest := ⟨#[]⟩, title := ⟨#[]⟩, att := ⟨⟨#[]⟩, [], []⟩ } : MkL) := by kernel_rfl
theorem ex_of1 : markM ⟨#[35, 32, 65, 32, 123, 35, 120, 125]⟩ = ({ kind := 2, n := 1, ch := ⟨#[]⟩, off := 0, info := ⟨#[]⟩, rest := ⟨#[65]⟩, dest := ⟨#[]⟩, title := ⟨#[]⟩, att := ⟨⟨#[120]⟩, [], []⟩ } : MkL) := by kernel_rfl
theorem ex_of2 : markM ⟨#[91, 97, 32, 98, 93, 58, 32, 60, 120, 32, 121, 62, 32, 34, 84, 34]⟩ = ({ kind := 11, n := 0, ch := ⟨#[]⟩, off := 0, info := ⟨#[97, 32, 98]⟩, rest := ⟨#[]⟩, dest := ⟨#[120, 32, 121]⟩, title := ⟨#[84]⟩, att := ⟨⟨#[]⟩, [], []⟩ } : MkL) := by kernel_rfl
theorem ex_of3 : markM ⟨#[45, 32, 45, 32, 45]⟩ = ({ kind := 3, n := 0, ch := ⟨#[45]⟩, off := 0, info := ⟨#[]⟩, rest := ⟨#[]⟩, dest := ⟨#[]⟩, title := ⟨#[]⟩, att := ⟨⟨#[]⟩, [], []⟩ } : MkL) := by kernel_rfl
theorem ex_of4 : markM ⟨#[58, 58, 58]⟩ = ({ kind := 0, n := 0, ch := ⟨#[]⟩, off := 0, info := ⟨#[]⟩, rest := ⟨#[58, 58, 58]⟩, dest := ⟨#[]⟩, title := ⟨#[]⟩, att := ⟨⟨#[]⟩, [], []⟩ } : MkL) := by kernel_rfl
theorem ex_of5 : markM ⟨#[49, 46, 32, 97]⟩ = ({ kind := 6, n := 1, ch := ⟨#[46]⟩, off := 3, info := ⟨#[49]⟩, rest := ⟨#[97]⟩, dest := ⟨#[]⟩, title := ⟨#[]⟩, att := ⟨⟨#[]⟩, [], []⟩ } : MkL) := by kernel_rfl
theorem ex_of6 : markM ⟨#[32, 32, 50, 46, 32, 98]⟩ = ({ kind := 6, n := 2, ch := ⟨#[46]⟩, off := 5, info := ⟨#[50]⟩, rest := ⟨#[98]⟩, dest := ⟨#[]⟩, title := ⟨#[]⟩, att := ⟨⟨#[]⟩, [], []⟩ } : MkL) := by kernel_rfl
theorem ex_of7 : markM ⟨#[45, 32, 97]⟩ = ({ kind := 5, n := 0, ch := ⟨#[45]⟩, off := 2, info := ⟨#[]⟩, rest := ⟨#[97]⟩, dest := ⟨#[]⟩, title := ⟨#[]⟩, att := ⟨⟨#[]⟩, [], []⟩ } : MkL) := by kernel_rfl
theorem ex_of8 : markM ⟨#[32, 32, 45, 32, 98]⟩ = ({ kind := 5, n := 0, ch := ⟨#[45]⟩, off := 4, info := ⟨#[]⟩, rest := ⟨#[98]⟩, dest := ⟨#[]⟩, title := ⟨#[]⟩, att := ⟨⟨#[]⟩, [], []⟩ } : MkL) := by kernel_rfl
theorem ex_cl1 : closesM ⟨#[36, 36, 32, 123, 35, 101, 125]⟩ 8 0 ⟨#[]⟩ = (⟨⟨#[101]⟩, [], []⟩, true) := by kernel_rfl
theorem ex_cl2 : closesM ⟨#[58, 58, 58, 58]⟩ 9 3 ⟨#[]⟩ = (emptyA, false) := by kernel_rfl
theorem aw_of0 (W : World) : Calls Tryz.prog 13 #[.string ⟨#[49, 50, 41, 32, 97]⟩] W fun e w' => ∃ A1 c1 A2 c2, e = .returned (.agg #[.int .i64 6, .int .i64 12, .string ⟨#[41]⟩, .int .i64 4, .string ⟨#[49, 50]⟩, .string ⟨#[97]⟩, .string ⟨#[]⟩, .string ⟨#[]⟩, .string ⟨#[]⟩, .slice A1 0 c1, .slice A2 0 c2]) ∧ Below W.heap.size W w' := of_ex ex_of0 W (by decide)
theorem aw_of1 (W : World) : Calls Tryz.prog 13 #[.string ⟨#[35, 32, 65, 32, 123, 35, 120, 125]⟩] W fun e w' => ∃ A1 c1 A2 c2, e = .returned (.agg #[.int .i64 2, .int .i64 1, .string ⟨#[]⟩, .int .i64 0, .string ⟨#[]⟩, .string ⟨#[65]⟩, .string ⟨#[]⟩, .string ⟨#[]⟩, .string ⟨#[120]⟩, .slice A1 0 c1, .slice A2 0 c2]) ∧ Below W.heap.size W w' := of_ex ex_of1 W (by decide)
theorem aw_of2 (W : World) : Calls Tryz.prog 13 #[.string ⟨#[91, 97, 32, 98, 93, 58, 32, 60, 120, 32, 121, 62, 32, 34, 84, 34]⟩] W fun e w' => ∃ A1 c1 A2 c2, e = .returned (.agg #[.int .i64 11, .int .i64 0, .string ⟨#[]⟩, .int .i64 0, .string ⟨#[97, 32, 98]⟩, .string ⟨#[]⟩, .string ⟨#[120, 32, 121]⟩, .string ⟨#[84]⟩, .string ⟨#[]⟩, .slice A1 0 c1, .slice A2 0 c2]) ∧ Below W.heap.size W w' := of_ex ex_of2 W (by decide)
theorem aw_of3 (W : World) : Calls Tryz.prog 13 #[.string ⟨#[45, 32, 45, 32, 45]⟩] W fun e w' => ∃ A1 c1 A2 c2, e = .returned (.agg #[.int .i64 3, .int .i64 0, .string ⟨#[45]⟩, .int .i64 0, .string ⟨#[]⟩, .string ⟨#[]⟩, .string ⟨#[]⟩, .string ⟨#[]⟩, .string ⟨#[]⟩, .slice A1 0 c1, .slice A2 0 c2]) ∧ Below W.heap.size W w' := of_ex ex_of3 W (by decide)
theorem aw_of4 (W : World) : Calls Tryz.prog 13 #[.string ⟨#[58, 58, 58]⟩] W fun e w' => ∃ A1 c1 A2 c2, e = .returned (.agg #[.int .i64 0, .int .i64 0, .string ⟨#[]⟩, .int .i64 0, .string ⟨#[]⟩, .string ⟨#[58, 58, 58]⟩, .string ⟨#[]⟩, .string ⟨#[]⟩, .string ⟨#[]⟩, .slice A1 0 c1, .slice A2 0 c2]) ∧ Below W.heap.size W w' := of_ex ex_of4 W (by decide)
theorem aw_of5 (W : World) : Calls Tryz.prog 13 #[.string ⟨#[49, 46, 32, 97]⟩] W fun e w' => ∃ A1 c1 A2 c2, e = .returned (.agg #[.int .i64 6, .int .i64 1, .string ⟨#[46]⟩, .int .i64 3, .string ⟨#[49]⟩, .string ⟨#[97]⟩, .string ⟨#[]⟩, .string ⟨#[]⟩, .string ⟨#[]⟩, .slice A1 0 c1, .slice A2 0 c2]) ∧ Below W.heap.size W w' := of_ex ex_of5 W (by decide)
theorem aw_of6 (W : World) : Calls Tryz.prog 13 #[.string ⟨#[32, 32, 50, 46, 32, 98]⟩] W fun e w' => ∃ A1 c1 A2 c2, e = .returned (.agg #[.int .i64 6, .int .i64 2, .string ⟨#[46]⟩, .int .i64 5, .string ⟨#[50]⟩, .string ⟨#[98]⟩, .string ⟨#[]⟩, .string ⟨#[]⟩, .string ⟨#[]⟩, .slice A1 0 c1, .slice A2 0 c2]) ∧ Below W.heap.size W w' := of_ex ex_of6 W (by decide)
theorem aw_of7 (W : World) : Calls Tryz.prog 13 #[.string ⟨#[45, 32, 97]⟩] W fun e w' => ∃ A1 c1 A2 c2, e = .returned (.agg #[.int .i64 5, .int .i64 0, .string ⟨#[45]⟩, .int .i64 2, .string ⟨#[]⟩, .string ⟨#[97]⟩, .string ⟨#[]⟩, .string ⟨#[]⟩, .string ⟨#[]⟩, .slice A1 0 c1, .slice A2 0 c2]) ∧ Below W.heap.size W w' := of_ex ex_of7 W (by decide)
theorem aw_of8 (W : World) : Calls Tryz.prog 13 #[.string ⟨#[32, 32, 45, 32, 98]⟩] W fun e w' => ∃ A1 c1 A2 c2, e = .returned (.agg #[.int .i64 5, .int .i64 0, .string ⟨#[45]⟩, .int .i64 4, .string ⟨#[]⟩, .string ⟨#[98]⟩, .string ⟨#[]⟩, .string ⟨#[]⟩, .string ⟨#[]⟩, .slice A1 0 c1, .slice A2 0 c2]) ∧ Below W.heap.size W w' := of_ex ex_of8 W (by decide)
theorem aw_cl1 (W : World) : Calls Tryz.prog 9 #[.string ⟨#[36, 36, 32, 123, 35, 101, 125]⟩, .agg #[.int .i64 8, .int .i64 0, .string ⟨#[]⟩, .int .i64 0, .string ⟨#[]⟩, .string ⟨#[]⟩, .string ⟨#[]⟩, .string ⟨#[]⟩, .string ⟨#[]⟩, .slice none 0 0, .slice none 0 0]] W fun e w' => ∃ A1 c1 A2 c2, e = .returned (.tuple #[.agg #[.string ⟨#[101]⟩, .slice A1 0 c1, .slice A2 0 c2], .bool true]) ∧ Below W.heap.size W w' := closes_ex ex_cl1 0 ⟨#[]⟩ ⟨#[]⟩ ⟨#[]⟩ ⟨#[]⟩ ⟨#[]⟩ none 0 0 none 0 0 W (by decide)
theorem aw_cl2 (W : World) : Calls Tryz.prog 9 #[.string ⟨#[58, 58, 58, 58]⟩, .agg #[.int .i64 9, .int .i64 3, .string ⟨#[]⟩, .int .i64 0, .string ⟨#[]⟩, .string ⟨#[]⟩, .string ⟨#[]⟩, .string ⟨#[]⟩, .string ⟨#[]⟩, .slice none 0 0, .slice none 0 0]] W fun e w' => ∃ A1 c1 A2 c2, e = .returned (.tuple #[.agg #[.string ⟨#[]⟩, .slice A1 0 c1, .slice A2 0 c2], .bool false]) ∧ Below W.heap.size W w' := closes_ex ex_cl2 0 ⟨#[]⟩ ⟨#[]⟩ ⟨#[]⟩ ⟨#[]⟩ ⟨#[]⟩ none 0 0 none 0 0 W (by decide)
theorem aw_s1 (A1 A2 A3 A4 : Option Addr) (c1 c2 c3 c4 : Nat) (W : World) : Calls Tryz.prog 12 #[.agg #[.int .i64 6, .int .i64 1, .string ⟨#[46]⟩, .int .i64 3, .string ⟨#[49]⟩, .string ⟨#[97]⟩, .string ⟨#[]⟩, .string ⟨#[]⟩, .string ⟨#[]⟩, .slice A1 0 c1, .slice A2 0 c2], .agg #[.int .i64 6, .int .i64 2, .string ⟨#[46]⟩, .int .i64 5, .string ⟨#[50]⟩, .string ⟨#[98]⟩, .string ⟨#[]⟩, .string ⟨#[]⟩, .string ⟨#[]⟩, .slice A3 0 c3, .slice A4 0 c4]] W fun e w' => e = .returned (.bool true) ∧ Below W.heap.size W w' := by
  have h := m_same ({ kind := 6, n := 1, ch := ⟨#[46]⟩, off := 3, info := ⟨#[49]⟩, rest := ⟨#[97]⟩, dest := ⟨#[]⟩, title := ⟨#[]⟩, att := ⟨⟨#[]⟩, [], []⟩ } : MkL) ({ kind := 6, n := 2, ch := ⟨#[46]⟩, off := 5, info := ⟨#[50]⟩, rest := ⟨#[98]⟩, dest := ⟨#[]⟩, title := ⟨#[]⟩, att := ⟨⟨#[]⟩, [], []⟩ } : MkL) A1 A2 A3 A4 0 c1 0 c2 0 c3 0 c4 W (by decide) (by decide) (by decide)
  rw [show sameR ({ kind := 6, n := 1, ch := ⟨#[46]⟩, off := 3, info := ⟨#[49]⟩, rest := ⟨#[97]⟩, dest := ⟨#[]⟩, title := ⟨#[]⟩, att := ⟨⟨#[]⟩, [], []⟩ } : MkL) ({ kind := 6, n := 2, ch := ⟨#[46]⟩, off := 5, info := ⟨#[50]⟩, rest := ⟨#[98]⟩, dest := ⟨#[]⟩, title := ⟨#[]⟩, att := ⟨⟨#[]⟩, [], []⟩ } : MkL) = true from by kernel_rfl] at h
  exact h
theorem aw_s2 (A1 A2 A3 A4 : Option Addr) (c1 c2 c3 c4 : Nat) (W : World) : Calls Tryz.prog 12 #[.agg #[.int .i64 5, .int .i64 0, .string ⟨#[45]⟩, .int .i64 2, .string ⟨#[]⟩, .string ⟨#[97]⟩, .string ⟨#[]⟩, .string ⟨#[]⟩, .string ⟨#[]⟩, .slice A1 0 c1, .slice A2 0 c2], .agg #[.int .i64 5, .int .i64 0, .string ⟨#[45]⟩, .int .i64 4, .string ⟨#[]⟩, .string ⟨#[98]⟩, .string ⟨#[]⟩, .string ⟨#[]⟩, .string ⟨#[]⟩, .slice A3 0 c3, .slice A4 0 c4]] W fun e w' => e = .returned (.bool false) ∧ Below W.heap.size W w' := by
  have h := m_same ({ kind := 5, n := 0, ch := ⟨#[45]⟩, off := 2, info := ⟨#[]⟩, rest := ⟨#[97]⟩, dest := ⟨#[]⟩, title := ⟨#[]⟩, att := ⟨⟨#[]⟩, [], []⟩ } : MkL) ({ kind := 5, n := 0, ch := ⟨#[45]⟩, off := 4, info := ⟨#[]⟩, rest := ⟨#[98]⟩, dest := ⟨#[]⟩, title := ⟨#[]⟩, att := ⟨⟨#[]⟩, [], []⟩ } : MkL) A1 A2 A3 A4 0 c1 0 c2 0 c3 0 c4 W (by decide) (by decide) (by decide)
  rw [show sameR ({ kind := 5, n := 0, ch := ⟨#[45]⟩, off := 2, info := ⟨#[]⟩, rest := ⟨#[97]⟩, dest := ⟨#[]⟩, title := ⟨#[]⟩, att := ⟨⟨#[]⟩, [], []⟩ } : MkL) ({ kind := 5, n := 0, ch := ⟨#[45]⟩, off := 4, info := ⟨#[]⟩, rest := ⟨#[98]⟩, dest := ⟨#[]⟩, title := ⟨#[]⟩, att := ⟨⟨#[]⟩, [], []⟩ } : MkL) = false from by kernel_rfl] at h
  exact h

set_option maxRecDepth 100000 in
set_option maxHeartbeats 8000000 in
theorem mk_awake (w : World) : Calls Tryz.prog 8 #[] w fun e w' => e = .returned (.bool true) ∧ Below w.heap.size w w' := by
  have H0 := Lib.hid aw_of0
  have H1 := Lib.hid aw_of1
  have H2 := Lib.hid aw_of2
  have H3 := Lib.hid aw_of3
  have H4 := Lib.hid aw_of4
  have H5 := Lib.hid aw_of5
  have H6 := Lib.hid aw_of6
  have H7 := Lib.hid aw_of7
  have H8 := Lib.hid aw_of8
  have HC1 := Lib.hid aw_cl1
  have HC2 := Lib.hid aw_cl2
  have HS1 := Lib.hid aw_s1
  have HS2 := Lib.hid aw_s2
  have q0 : ((⟨#[49, 50]⟩ : ByteArray).toList == (⟨#[49, 50]⟩ : ByteArray).toList) = true := beq_self_eq_true _
  have r0 : ((⟨#[49, 50]⟩ : ByteArray).toList != (⟨#[49, 50]⟩ : ByteArray).toList) = false := by simp
  have q1 : ((⟨#[41]⟩ : ByteArray).toList == (⟨#[41]⟩ : ByteArray).toList) = true := beq_self_eq_true _
  have r1 : ((⟨#[41]⟩ : ByteArray).toList != (⟨#[41]⟩ : ByteArray).toList) = false := by simp
  have q2 : ((⟨#[97]⟩ : ByteArray).toList == (⟨#[97]⟩ : ByteArray).toList) = true := beq_self_eq_true _
  have r2 : ((⟨#[97]⟩ : ByteArray).toList != (⟨#[97]⟩ : ByteArray).toList) = false := by simp
  have q3 : ((⟨#[65]⟩ : ByteArray).toList == (⟨#[65]⟩ : ByteArray).toList) = true := beq_self_eq_true _
  have r3 : ((⟨#[65]⟩ : ByteArray).toList != (⟨#[65]⟩ : ByteArray).toList) = false := by simp
  have q4 : ((⟨#[120]⟩ : ByteArray).toList == (⟨#[120]⟩ : ByteArray).toList) = true := beq_self_eq_true _
  have r4 : ((⟨#[120]⟩ : ByteArray).toList != (⟨#[120]⟩ : ByteArray).toList) = false := by simp
  have q5 : ((⟨#[97, 32, 98]⟩ : ByteArray).toList == (⟨#[97, 32, 98]⟩ : ByteArray).toList) = true := beq_self_eq_true _
  have r5 : ((⟨#[97, 32, 98]⟩ : ByteArray).toList != (⟨#[97, 32, 98]⟩ : ByteArray).toList) = false := by simp
  have q6 : ((⟨#[120, 32, 121]⟩ : ByteArray).toList == (⟨#[120, 32, 121]⟩ : ByteArray).toList) = true := beq_self_eq_true _
  have r6 : ((⟨#[120, 32, 121]⟩ : ByteArray).toList != (⟨#[120, 32, 121]⟩ : ByteArray).toList) = false := by simp
  have q7 : ((⟨#[84]⟩ : ByteArray).toList == (⟨#[84]⟩ : ByteArray).toList) = true := beq_self_eq_true _
  have r7 : ((⟨#[84]⟩ : ByteArray).toList != (⟨#[84]⟩ : ByteArray).toList) = false := by simp
  have q8 : ((⟨#[101]⟩ : ByteArray).toList == (⟨#[101]⟩ : ByteArray).toList) = true := beq_self_eq_true _
  have r8 : ((⟨#[101]⟩ : ByteArray).toList != (⟨#[101]⟩ : ByteArray).toList) = false := by simp
  have hfd : ∀ (k n : Int) (s2 : ByteArray) (i3 : Int) (s4 s5 s6 s7 s8 : ByteArray) (A : Option Addr) (m c : Nat) (A' : Option Addr) (m' c' : Nat) (W : World), (Instr.field 27 (.agg #[.int .i64 k, .int .i64 n, .string s2, .int .i64 i3, .string s4, .string s5, .string s6, .string s7, .string s8, .slice A m c, .slice A' m' c']) 0).run Tryz.prog W = .ok (.int .i64 k) W := fun _ _ _ _ _ _ _ _ _ _ _ _ _ _ _ _ => by kernel_rfl
  go_enter Tryz.func8, Tryz.ntmps8
  go_wp2_with fail
  ((with_reducible refine (H0.out _).mono ?_))
  rintro e w1 ⟨A1, c1, A2, c2, rfl, b1⟩
  have C1 := Lib.hid b1
  clear b1
  go_wp2_with fail
  ((with_reducible refine (H1.out _).mono ?_))
  rintro e w2 ⟨A3, c3, A4, c4, rfl, b2⟩
  have N2 := st_next C1.out b2
  have M1 := Lib.hid N2.1
  have C2 := Lib.hid N2.2
  clear b2 N2
  go_wp2_with fail
  ((with_reducible refine (H2.out _).mono ?_))
  rintro e w3 ⟨A5, c5, A6, c6, rfl, b3⟩
  have N3 := st_next C2.out b3
  have M1' := Lib.hid (blk_next M1.out b3)
  have M2 := Lib.hid N3.1
  have C3 := Lib.hid N3.2
  clear b3 N3 M1
  go_wp2_with fail
  ((with_reducible refine (HC1.out _).mono ?_))
  rintro e w4 ⟨A7, c7, A8, c8, rfl, b4⟩
  have N4 := st_next C3.out b4
  have M1 := Lib.hid (blk_next M1'.out b4)
  have M2' := Lib.hid (blk_next M2.out b4)
  have M3 := Lib.hid N4.1
  have C4 := Lib.hid N4.2
  clear b4 N4 M1' M2
  go_wp2_with fail
  ((with_reducible refine (HC2.out _).mono ?_))
  rintro e w5 ⟨A9, c9, A10, c10, rfl, b5⟩
  have N5 := st_next C4.out b5
  have M1' := blk_next M1.out b5
  have M2 := blk_next M2'.out b5
  have M3' := blk_next M3.out b5
  have M4 := N5.1
  have C5 := Lib.hid N5.2
  clear b5 N5 M1 M2' M3
  have K1 := Blk.alloc M1' (.cells #[.string ⟨#[]⟩, .slice A9 0 c9, .slice A10 0 c10] 25)
  have K2 := Blk.alloc M2 (.cells #[.string ⟨#[]⟩, .slice A9 0 c9, .slice A10 0 c10] 25)
  have K3 := Blk.alloc M3' (.cells #[.string ⟨#[]⟩, .slice A9 0 c9, .slice A10 0 c10] 25)
  have K4 := Blk.alloc M4 (.cells #[.string ⟨#[]⟩, .slice A9 0 c9, .slice A10 0 c10] 25)
  clear M1' M2 M3' M4
  have k1_0 := K1.cell 0
  simp at k1_0
  have k1_1 := K1.cell 1
  simp at k1_1
  have k1_4 := K1.cell 4
  simp at k1_4
  have k1_2 := K1.cell 2
  simp at k1_2
  have k1_3 := K1.cell 3
  simp at k1_3
  have k1_5 := K1.cell 5
  simp at k1_5
  have k2_0 := K2.cell 0
  simp at k2_0
  have k2_5 := K2.cell 5
  simp at k2_5
  have k2_8 := K2.cell 8
  simp at k2_8
  have k3_0 := K3.cell 0
  simp at k3_0
  have k3_4 := K3.cell 4
  simp at k3_4
  have k3_6 := K3.cell 6
  simp at k3_6
  have k3_7 := K3.cell 7
  simp at k3_7
  have k4_0 := K4.cell 0
  simp at k4_0
  clear K1 K2 K3 K4
  go_wp2_with fail
  ((with_reducible refine (H3.out _).mono ?_))
  rintro e w6 ⟨A11, c11, A12, c12, rfl, b6⟩
  have D6 := C5.out.alloc C5.out.size (.cells #[.string ⟨#[]⟩, .slice A9 0 c9, .slice A10 0 c10] 25)
  have C6 := Lib.hid (D6.trans (b6.mono D6.size))
  clear D6 b6
  clear k1_0 k1_1 k1_4 k1_2 k1_3 k1_5 k2_0 k2_5 k2_8 k3_0 k3_4 k3_6 k3_7 k4_0
  go_wp2_with fail
  ((with_reducible refine (H4.out _).mono ?_))
  rintro e w7 ⟨A13, c13, A14, c14, rfl, b7⟩
  have C7 := Lib.hid (C6.out.trans (b7.mono C6.out.size))
  clear b7
  go_wp2_with fail
  ((with_reducible refine (H5.out _).mono ?_))
  rintro e w8 ⟨A15, c15, A16, c16, rfl, b8⟩
  have C8 := Lib.hid (C7.out.trans (b8.mono C7.out.size))
  clear b8
  go_wp2_with fail
  ((with_reducible refine (H6.out _).mono ?_))
  rintro e w9 ⟨A17, c17, A18, c18, rfl, b9⟩
  have C9 := Lib.hid (C8.out.trans (b9.mono C8.out.size))
  clear b9
  go_wp2_with fail
  ((with_reducible refine (HS1.out _ _ _ _ _ _ _ _ _).mono ?_))
  rintro e w10 ⟨rfl, b10⟩
  have C10 := Lib.hid (C9.out.trans (b10.mono C9.out.size))
  clear b10
  go_wp2_with fail
  ((with_reducible refine (H7.out _).mono ?_))
  rintro e w11 ⟨A19, c19, A20, c20, rfl, b11⟩
  have C11 := Lib.hid (C10.out.trans (b11.mono C10.out.size))
  clear b11
  go_wp2_with fail
  ((with_reducible refine (H8.out _).mono ?_))
  rintro e w12 ⟨A21, c21, A22, c22, rfl, b12⟩
  have C12 := Lib.hid (C11.out.trans (b12.mono C11.out.size))
  clear b12
  go_wp2_with fail
  ((with_reducible refine (HS2.out _ _ _ _ _ _ _ _ _).mono ?_))
  rintro e w13 ⟨rfl, b13⟩
  have C13 := Lib.hid (C12.out.trans (b13.mono C12.out.size))
  clear b13
  go_wp2_with fail
  go_ret
  exact ⟨rfl, C13.out⟩
end Go.Proofs.YthfienjmigidbaaGreatDoor
namespace Go.Proofs.YthfienjmigidbaaGreatDoor
open Go.RowKit Go.Pub

theorem cl_ready {r : AttrL × Bool} {w : World} {e : Ending} {w' : World} {n : Nat} (hs : SmallA n r.1) (hn : n ≤ 1000000) (h : ClPost r w e w') :
    ∃ A c D d, e = .returned (.tuple #[.agg #[.string r.1.id, .slice A r.1.cl.length c, .slice D r.1.pr.length d], .bool r.2]) ∧ ReadA w' w'.heap.size r.1 A c D d ∧ Below w.heap.size w w' := by
  obtain ⟨⟨vC, vP, rfl, ho⟩, hb⟩ := h
  obtain ⟨A, c, D, d, he, h1, h2, h3⟩ := ho.val.read hs hn
  injection he with he
  injection he with he
  simp only [List.cons.injEq, and_true, true_and] at he
  obtain ⟨rfl, rfl⟩ := he
  exact ⟨A, c, D, d, rfl, h1, hb⟩

set_option maxRecDepth 100000 in
set_option maxHeartbeats 2000000 in
theorem lawCloses_any (s : ByteArray) (K N o : Int) (ch s4 s5 s6 s7 s8 : ByteArray) (A9 : Option Addr) (n9 c9 : Nat) (A10 : Option Addr) (n10 c10 : Nat) (w : World) (hs : s.size ≤ 9223372036854775807) :
    Calls Tryz.prog 3 #[.string s, .agg #[.int .i64 K, .int .i64 N, .string ch, .int .i64 o, .string s4, .string s5, .string s6, .string s7, .string s8, .slice A9 n9 c9, .slice A10 n10 c10]] w fun e w' => e = .returned (.bool true) ∧ Below w.heap.size w w' := by
  have HA := Lib.hid mk_awake
  by_cases h : 800 < s.size
  · have d1 : decide (800 < s.size) = true := decide_eq_true h
    go_enter Tryz.func3, Tryz.ntmps3
    go_wp2_with fail
    ((with_reducible refine (HA.out _).mono ?_))
    rintro e w1 ⟨rfl, b1⟩
    go_wp2_with fail
    go_ret
    exact ⟨rfl, ((Below.refl _ w).alloc (Nat.le_refl _) _).trans (b1.mono (by simp))⟩
  have d1 : decide (800 < s.size) = false := decide_eq_false h
  have hsm := closesM_small s K N ch
  have H1 := Lib.hid fun W => (m_closes s K N o ch s4 s5 s6 s7 s8 A9 n9 c9 A10 n10 c10 W (by omega)).mono fun e w' => cl_ready hsm (by omega)
  have H2 := Lib.hid fun W => (r5_closes s K N o ch s4 s5 s6 s7 s8 A9 n9 c9 A10 n10 c10 W (by omega)).mono fun e w' => cl_ready hsm (by omega)
  clear hsm
  generalize closesM s K N ch = R at *
  obtain ⟨a, b⟩ := R
  have HS := Lib.hid fun W => rsame_true W a
  have hbb : (b == b) = true := beq_self_eq_true b
  go_enter Tryz.func3, Tryz.ntmps3
  go_wp2_with fail
  ((with_reducible refine (H1.out _).mono ?_))
  rintro e w1 ⟨A, c, D, d, rfl, r1, b1⟩
  have bMk := (Blk.new w 27 #[.int .i64 K, .int .i64 N, .string ch, .int .i64 o, .string s4, .string s5, .string s6, .string s7, .string s8, .slice A9 n9 c9, .slice A10 n10 c10])
  have bMk1 := bMk.below b1 bMk.lt
  have hB0 := (Below.refl w.heap.size w).alloc (Nat.le_refl _) (.cells #[.int .i64 K, .int .i64 N, .string ch, .int .i64 o, .string s4, .string s5, .string s6, .string s7, .string s8, .slice A9 n9 c9, .slice A10 n10 c10] 27)
  have C1 := Lib.hid (hB0.trans (b1.mono hB0.size))
  have K1 := Lib.hid r1
  obtain ⟨k0, k1, k2, k3, k4, k5, k6, k7, k8, k9, k10, -⟩ := mk_facts bMk1
  have hlt := bMk1.lt
  clear b1 r1 bMk bMk1 hB0
  go_wp2_with fail
  ((with_reducible refine (H2.out _).mono ?_))
  rintro e w2 ⟨A', c', D', d', rfl, r2, b2⟩
  have bA := Blk.new w1 25 #[.string a.id, .slice A a.cl.length c, .slice D a.pr.length d]
  have bA2 := bA.below b2 bA.lt
  have C2 := Lib.hid ((C1.out.alloc C1.out.size (.cells #[.string a.id, .slice A a.cl.length c, .slice D a.pr.length d] 25)).trans (b2.mono (C1.out.alloc C1.out.size _).size))
  have KA1 := Lib.hid ((K1.out.below ((Below.refl _ _).alloc (Nat.le_refl _) (.cells #[.string a.id, .slice A a.cl.length c, .slice D a.pr.length d] 25))).below b2)
  have K2 := Lib.hid r2
  have g0 := bA2.cell 0
  have g1 := bA2.cell 1
  have g2 := bA2.cell 2
  have hlt2 := bA2.lt
  simp at g0 g1 g2
  clear b2 r2 bA bA2 k0 k1 k2 k3 k4 k5 k6 k7 k8 k9 k10 hlt
  go_wp2_with fail
  refine (HS.out _ A c D d _ A' c' D' d' _ (KA1.out.below ((Below.refl _ _).alloc (Nat.le_refl _) _)) (K2.out.below ((Below.refl _ _).alloc (Nat.le_refl _) _))).mono ?_
  rintro e w3 ⟨rfl, b3⟩
  have C3 := Lib.hid ((C2.out.alloc C2.out.size _).trans (b3.mono (C2.out.alloc C2.out.size _).size))
  clear b3
  go_wp2_with fail
  ((with_reducible refine (HA.out _).mono ?_))
  rintro e w4 ⟨rfl, b4⟩
  go_wp2_with fail
  go_ret
  exact ⟨rfl, C3.out.trans (b4.mono C3.out.size)⟩
end Go.Proofs.YthfienjmigidbaaGreatDoor
namespace Go.Pub
open Go.RowKit Go.WideShapes Go.ChangeShapes
section
variable {H : Type} {enc : TypeId × Value → H} {P : Program}
theorem post_of_below {f : Func} {s : ChangeSpec} {apart fresh handsOn again : Bool} {W W' : World} {args : Array Value} {v : Value} {ds gs : List (DataW H)} {before pa pv : List MemPlace}
    (hW : DataW.Whole enc P f.params.toList s.vars apart W args.toList ds gs before)
    (hres : ∀ (b : Nat) (sp : Nat → Bool) (hd : Bool), DataW.TrodAll enc P W' b sp hd f.resultTypes.toList (v.resultList f.resultTypes.size) (s.fn H (ds ++ gs)).results [])
    (hargs : ∀ sp : Nat → Bool, (∀ p ∈ before, sp p.block = true) → DataW.TrodAll enc P W' 0 sp true f.params.toList args.toList (s.fn H (ds ++ gs)).args pa)
    (hvars : ∀ sp : Nat → Bool, (∀ p ∈ before, sp p.block = true) → DataW.TrodVars enc P W' sp s.vars (s.fn H (ds ++ gs)).vars pv)
    (hps : before = pa ++ pv) (hb : Below W.heap.size W W')
    (hok : ∀ (j : Nat) (t : TypeId) (r : Value), f.resultTypes[j]? = some t → (v.resultList f.resultTypes.size)[j]? = some r → Value.okWide P W' .any 0 t r) :
    s.post enc P f apart fresh handsOn again W args v W' := by
  have hlt : ∀ p ∈ before, p.block < W.heap.size := fun p hp => hW.lt p hp
  have hold : ∀ p ∈ before, (fun b => decide (b < W.heap.size)) p.block = true := fun p hp => by simpa using hlt p hp
  refine ⟨ds, gs, before, [], pa, pv, hW, hres _ _ _, hargs _ hold, hvars _ hold, World.keptBut_mono (fun p hp => ⟨hp, ?_⟩) (hb.frame (· ∈ before)), fun _ => ?_⟩
  · rw [hps, List.mem_append] at hp
    exact Or.inr hp
  · obtain ⟨_, _, _, _, _, hz, hn⟩ := hW
    refine ⟨hok, _, _, ([] ++ pa) ++ pv, ⟨[] ++ pa, pv, trodAll_append (hargs _ (fun _ _ => rfl)) (hres _ _ _), hvars _ (fun _ _ => rfl), rfl, ?_, ?_⟩, ?_⟩
    · intro b off hp
      have hin : MemPlace.cell b off ∈ before := by rw [hps]; simpa using hp
      rw [hb.frozen (hlt _ hin)]
      exact hz b off hin
    · intro ha
      have := hn ha
      rw [hps] at this
      simpa using this
    · intro p hp _
      rw [hps]
      simpa using hp
end
end Go.Pub
namespace Go.Pub
theorem array11 {α : Type} {cs : Array α} (h : cs.size = 11) : ∃ c0 c1 c2 c3 c4 c5 c6 c7 c8 c9 c10, cs = #[c0, c1, c2, c3, c4, c5, c6, c7, c8, c9, c10] := by
  obtain ⟨l⟩ := cs
  match l, h with
  | [c0, c1, c2, c3, c4, c5, c6, c7, c8, c9, c10], _ => exact ⟨c0, c1, c2, c3, c4, c5, c6, c7, c8, c9, c10, rfl⟩
end Go.Pub
namespace Go.Proofs.YthfienjmigidbaaGreatDoor
open Go.RowKit Go.Pub Go.ChangeShapes Go.WideShapes

set_option maxRecDepth 100000 in
set_option maxHeartbeats 1000000 in
theorem open_mark {H : Type} {enc : TypeId × Value → H} {W : World} {r : Reach} {b0 : Nat} {v : Value} {d : DataW H} {p : List MemPlace} (hv : Value.okWide Tryz.prog W r b0 27 v) (h : DataW.Trod enc Tryz.prog W 0 (fun _ => true) true 27 v d p) :
    ∃ (K N o : Int) (ch s4 s5 s6 s7 s8 : ByteArray) (A9 : Option Addr) (n9 c9 : Nat) (A10 : Option Addr) (n10 c10 : Nat), v = .agg #[.int .i64 K, .int .i64 N, .string ch, .int .i64 o, .string s4, .string s5, .string s6, .string s7, .string s8, .slice A9 n9 c9, .slice A10 n10 c10] ∧ ch.size ≤ maxLen := by
  have k3 : Tryz.prog.cellsOf 3 = 1 := by kernel_rfl
  have k9 : Tryz.prog.cellsOf 9 = 1 := by kernel_rfl
  have kA : Tryz.prog.cellsOf 25 = 3 := by kernel_rfl
  have kM : Tryz.prog.cellsOf 27 = 11 := by kernel_rfl
  have kS : Tryz.prog.cellsOf 22 = 1 := by kernel_rfl
  have kP : Tryz.prog.cellsOf 23 = 1 := by kernel_rfl
  obtain ⟨cs, rfl, hsz⟩ := okWide_struct Tryz.underlying27 hv
  obtain ⟨c0, c1, c2, c3, c4, c5, c6, c7, c8, c9, c10, rfl⟩ := array11 (hsz.trans kM)
  obtain ⟨fuel, hf⟩ := h
  obtain ⟨xs, n, -, -, -, hxl, hF⟩ := DataW.trod_struct Tryz.underlying27 hf
  have h0 := hF 0 _ rfl
  have h1 := hF 1 _ rfl
  have h2 := hF 2 _ rfl
  have h3 := hF 3 _ rfl
  have h4 := hF 4 _ rfl
  have h5 := hF 5 _ rfl
  have h6 := hF 6 _ rfl
  have h7 := hF 7 _ rfl
  have h8 := hF 8 _ rfl
  have hxl' : xs.length = 9 := hxl
  rw [List.getElem?_eq_getElem (by omega)] at h0 h1 h2 h3 h4 h5 h6 h7 h8
  simp only [k3, k9, kA, Value.cells, List.drop_zero, List.drop_succ_cons, List.take_succ_cons, List.take_zero] at h0 h1 h2 h3 h4 h5 h6 h7 h8
  obtain ⟨K, e0, -⟩ := DataW.trod_int Tryz.underlying3 h0
  obtain ⟨N, e1, -⟩ := DataW.trod_int Tryz.underlying3 h1
  obtain ⟨ch, e2, -, hch⟩ := DataW.trod_string Tryz.underlying9 h2
  obtain ⟨o, e3, -⟩ := DataW.trod_int Tryz.underlying3 h3
  obtain ⟨s4, e4, -, -⟩ := DataW.trod_string Tryz.underlying9 h4
  obtain ⟨s5, e5, -, -⟩ := DataW.trod_string Tryz.underlying9 h5
  obtain ⟨s6, e6, -, -⟩ := DataW.trod_string Tryz.underlying9 h6
  obtain ⟨s7, e7, -, -⟩ := DataW.trod_string Tryz.underlying9 h7
  obtain ⟨ys, n', -, -, -, hyl, hG⟩ := DataW.trod_struct Tryz.underlying25 h8
  have g0 := hG 0 _ rfl
  have g1 := hG 1 _ rfl
  have g2 := hG 2 _ rfl
  have hyl' : ys.length = 3 := hyl
  rw [List.getElem?_eq_getElem (by omega)] at g0 g1 g2
  simp only [List.getElem_toArray, List.getElem_cons_zero, List.getElem_cons_succ, k9, kS, kP, List.drop_zero, List.drop_succ_cons, List.take_succ_cons, List.take_zero] at g0 g1 g2
  obtain ⟨s8, e8, -, -⟩ := DataW.trod_string Tryz.underlying9 g0
  have sl : ∀ {t e : TypeId} {c : Value} {x : DataW H × List MemPlace} {m : Nat}, Tryz.prog.underlying t = some (.slice e) → DataW.trod enc Tryz.prog W 0 (fun _ => true) true m t [c] = some x → ∃ A len cap, c = .slice A len cap := by
    intro t e c x m ht hx
    rcases DataW.trod_slice ht hx with ⟨hh, -⟩ | ⟨a, len, cap, _, _, _, -, hh, -⟩
    · injection hh with hh _; exact ⟨_, _, _, hh⟩
    · injection hh with hh _; exact ⟨_, _, _, hh⟩
  obtain ⟨A9, n9, q9, e9⟩ := sl Tryz.underlying22 g1
  obtain ⟨A10, n10, q10, e10⟩ := sl Tryz.underlying23 g2
  injection e0 with e0 _
  injection e1 with e1 _
  injection e2 with e2 _
  injection e3 with e3 _
  injection e4 with e4 _
  injection e5 with e5 _
  injection e6 with e6 _
  injection e7 with e7 _
  injection e8 with e8 _
  subst e0 e1 e2 e3 e4 e5 e6 e7 e8 e9 e10
  exact ⟨K, N, o, ch, s4, s5, s6, s7, s8, A9, n9, q9, A10, n10, q10, rfl, hch⟩
end Go.Proofs.YthfienjmigidbaaGreatDoor
