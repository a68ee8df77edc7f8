/-
  Texts of the proof, put together: MkU, MkP, MkW.
-/
import Derived.Test.YthfienjmigidbaaDoorB26
import Derived.Test.YthfienjmigidbaaDoorB19
import Derived.Test.YthfienjmigidbaaDoorB12
import Derived.Test.YthfienjmigidbaaDoorB24
set_option linter.unusedVariables false
set_option linter.unusedSimpArgs false
namespace Go.Proofs.YthfienjmigidbaaDoor
open Go.RowKit Go.Pub

theorem closes_ret {W : World} {g : Nat} {x y z u : Value} {P : Ending → World → Prop} {act : Act} (hr : Blk W g 26 #[x, y, z]) (h4 : act.tmps.getD 4 undef = .pointer (some ⟨g, 0, none⟩))
    (h5 : act.tmps.getD 5 undef = u) (hd : act.defers = []) (hP : P (.returned (.tuple #[.agg #[x, y, z], u])) W) : bodyPost Tryd.prog Tryd.f9 P Exit.ret act W := by
  have c0 : W.cell? ⟨g, 0, none⟩ = some x := hr.cell 0
  have c1 : W.cell? ⟨g, 1, none⟩ = some y := hr.cell 1
  have c2 : W.cell? ⟨g, 2, none⟩ = some z := hr.cell 2
  refine bodyPost_ret (v := .tuple #[.agg #[x, y, z], u]) ?_ hd hP
  rw [Array.getD_eq_getD_getElem?] at h4 h5
  simp [results, Tryd.results9, go_sem, h4, h5, c0, c1, c2]
theorem cl_none {r : AttrL × Bool} {b : Bool} {w w' : World} (hr : r = (emptyA, b)) (hb : Below w.heap.size w w') : ClPost r w (.returned (.tuple #[.agg #[.string ⟨#[]⟩, .slice none 0 0, .slice none 0 0], .bool b])) w' := by
  subst hr; exact ⟨⟨_, _, rfl, ownA_empty _ _ hb.size⟩, hb⟩
theorem cl_some {r : AttrL × Bool} {a : AttrL} {b : Bool} {vC vP : Value} {w w' : World} (hr : r = (a, b)) (ho : OwnA w' w.heap.size a vC vP) (hb : Below w.heap.size w w') : ClPost r w (.returned (.tuple #[.agg #[.string a.id, vC, vP], .bool b])) w' := by
  subst hr; exact ⟨⟨_, _, rfl, ho⟩, hb⟩
/-- The parameter's block, and the result's, still empty. -/
structure CW (w : World) (MK : Array Value) (W : World) : Prop where
  mrk : Blk W w.heap.size 28 MK
  at_ : Blk W (w.heap.size + 1) 26 #[.string ⟨#[]⟩, .slice none 0 0, .slice none 0 0]
  bel : Below w.heap.size w W
def cw0 (w : World) (MK : Array Value) : World := (w.alloc (.cells MK 28)).alloc (.cells #[.string ⟨#[]⟩, .slice none 0 0, .slice none 0 0] 26)
theorem cw_start (w : World) (MK : Array Value) : CW w MK (cw0 w MK) := by
  refine ⟨(Blk.new w _ _).alloc _, ?_, ((Below.refl _ w).alloc (Nat.le_refl _) _).alloc (by simp) _⟩
  have := Blk.new (w.alloc (.cells MK 28)) 26 #[.string ⟨#[]⟩, .slice none 0 0, .slice none 0 0]
  unfold cw0
  simpa using this
theorem CW.next {w W W' : World} {MK : Array Value} (h : CW w MK W) (hb : Below W.heap.size W W') : CW w MK W' :=
  ⟨h.mrk.below hb h.mrk.lt, h.at_.below hb h.at_.lt, h.bel.trans (hb.mono h.bel.size)⟩
theorem CW.facts {w W : World} {MK : Array Value} (h : CW w MK W) : W.cell? ⟨w.heap.size, 1, none⟩ = MK[1]? ∧ W.cell? ⟨w.heap.size, 2, none⟩ = MK[2]? ∧
    W.cell? ⟨w.heap.size + 1, 0, none⟩ = some (.string ⟨#[]⟩) ∧ W.cell? ⟨w.heap.size + 1, 1, none⟩ = some (.slice none 0 0) ∧ W.cell? ⟨w.heap.size + 1, 2, none⟩ = some (.slice none 0 0) ∧
    W.frozen? ⟨w.heap.size + 1, 0, none⟩ = false ∧ W.frozen? ⟨w.heap.size + 1, 1, none⟩ = false ∧ W.frozen? ⟨w.heap.size + 1, 2, none⟩ = false ∧ w.heap.size + 1 < W.heap.size :=
  ⟨h.mrk.cell 1, h.mrk.cell 2, h.at_.cell 0, h.at_.cell 1, h.at_.cell 2, h.at_.frozen 0, h.at_.frozen 1, h.at_.frozen 2, h.at_.lt⟩
theorem CW.done {w W : World} {MK : Array Value} (h : CW w MK W) (x y z : Value) : Blk (((W.setCell ⟨w.heap.size + 1, 0, none⟩ x).setCell ⟨w.heap.size + 1, 1, none⟩ y).setCell ⟨w.heap.size + 1, 2, none⟩ z) (w.heap.size + 1) 26 #[x, y, z] ∧
    Below w.heap.size w (((W.setCell ⟨w.heap.size + 1, 0, none⟩ x).setCell ⟨w.heap.size + 1, 1, none⟩ y).setCell ⟨w.heap.size + 1, 2, none⟩ z) :=
  ⟨blk3 h.at_ rfl x y z, below3 h.bel (Nat.le_succ _) x y z⟩
theorem ite_and_false {b : Bool} {x : AttrL} (h : b = false) (q : Bool) : (x, b && q) = (x, false) := by rw [h]; rfl

set_option maxRecDepth 100000 in
set_option maxHeartbeats 2000000 in
theorem m_closes (s : ByteArray) (K N o : Int) (ch s4 s5 s6 s7 s8 : ByteArray) (A9 : Option Addr) (n9 c9 : Nat) (A10 : Option Addr) (n10 c10 : Nat) (w : World) (hs : s.size ≤ 1000000) :
    Calls Tryd.prog 9 #[.string s, .agg #[.int .i64 K, .int .i64 N, .string ch, .int .i64 o, .string s4, .string s5, .string s6, .string s7, .string s8, .slice A9 n9 c9, .slice A10 n10 c10]] w (ClPost (closesM s K N ch) w) := by
  have HI := Lib.hid fun W => t_indent s W hs
  have hil : indA s 0 ≤ s.size := indA_le s
  have hcz : (s.extract (indA s 0) s.size).size = s.size - indA s 0 := by rw [ByteArray.size_extract]; omega
  have HR : Hid (closesM s K N ch = if 3 < indA s 0 then (emptyA, false) else closeD (s.extract (indA s 0) s.size) K N ch) := Lib.hid rfl
  have HS := Lib.hid (cw_start w #[.int .i64 K, .int .i64 N, .string ch, .int .i64 o, .string s4, .string s5, .string s6, .string s7, .string s8, .slice A9 n9 c9, .slice A10 n10 c10])
  generalize closesM s K N ch = R at *
  generalize indA s 0 = ind at *
  have hili : (ind : Int) ≤ (s.size : Int) := by omega
  by_cases hi : 3 < ind
  · have HF : Hid (R = (emptyA, false)) := Lib.hid (by rw [HR.out, if_pos hi])
    have d1 : decide (3 < (ind : Int)) = true := decide_eq_true (by omega)
    have d2 : decide (3 < ind) = true := decide_eq_true hi
    clear HR
    go_enter Tryd.func9, Tryd.ntmps9
    go_wp2_with fail
    ((with_reducible refine (HI.out _).mono ?_))
    rintro e w' ⟨rfl, rfl⟩
    go_wp2_with fail
    exact closes_ret HS.out.at_ rfl rfl rfl (cl_none HF.out HS.out.bel)
  have d1 : decide (3 < (ind : Int)) = false := decide_eq_false (by omega)
  have d2 : decide (3 < ind) = false := decide_eq_false hi
  have HR2 : Hid (R = closeD (s.extract ind s.size) K N ch) := Lib.hid (by rw [HR.out, if_neg hi])
  clear HR
  generalize hcc : s.extract ind s.size = c at *
  have hcs : c.size ≤ 1000000 := by omega
  clear hcz
  by_cases h7 : K = 7
  · subst h7
    by_cases hg1 : ch.size = 1
    case neg =>
      have HF : Hid (R = (emptyA, false)) := Lib.hid (by rw [HR2.out]; unfold closeD; rw [if_pos rfl, decide_eq_false (fun h => hg1 h.1)]; rfl)
      have e1 : ((ch.size : Int) != 1) = true := by rw [bne_iff_ne]; omega
      have e2 : (ch.size != 1) = true := by rw [bne_iff_ne]; omega
      clear HR2
      go_enter Tryd.func9, Tryd.ntmps9
      go_wp2_with fail
      ((with_reducible refine (HI.out _).mono ?_))
      rintro e w' ⟨rfl, rfl⟩
      go_wp2_with fail
      exact closes_ret HS.out.at_ rfl rfl rfl (cl_none HF.out HS.out.bel)
    have e1 : ((ch.size : Int) != 1) = false := by rw [bne_eq_false_iff_eq]; omega
    have e2 : (ch.size != 1) = false := by rw [bne_eq_false_iff_eq]; omega
    by_cases hg2 : N < 1
    · have HF : Hid (R = (emptyA, false)) := Lib.hid (by rw [HR2.out]; unfold closeD; rw [if_pos rfl, decide_eq_false (fun h => by omega)]; rfl)
      have e3 : decide (N < 1) = true := decide_eq_true hg2
      clear HR2
      go_enter Tryd.func9, Tryd.ntmps9
      go_wp2_with fail
      ((with_reducible refine (HI.out _).mono ?_))
      rintro e w' ⟨rfl, rfl⟩
      go_wp2_with fail
      exact closes_ret HS.out.at_ rfl rfl rfl (cl_none HF.out HS.out.bel)
    have e3 : decide (N < 1) = false := decide_eq_false hg2
    have h01 : 0 < ch.size := by omega
    have hgb := get_bt ch 0 h01
    have hb256 := bt_lt ch 0
    have HF0 : Hid (R = (emptyA, decide (N ≤ (firstN c (· != bt ch 0) : Int)) && blankB (c.extract (firstN c (· != bt ch 0)) c.size))) := Lib.hid (by rw [HR2.out]; unfold closeD; rw [if_pos rfl, decide_eq_true ⟨hg1, by omega⟩]; rfl)
    clear HR2
    have HRn := Lib.hid fun W => m_run c (bt ch 0) hb256 W hcs
    have hnl := firstN_le c (· != bt ch 0)
    generalize firstN c (· != bt ch 0) = n at *
    generalize bt ch 0 = q at *
    have hxz : (c.extract n c.size).size ≤ 1000000 := by rw [ByteArray.size_extract]; omega
    have HBl := Lib.hid fun W => t_blank (c.extract n c.size) W hxz
    generalize blankB (c.extract n c.size) = bb at *
    by_cases hn : N ≤ (n : Int)
    · have e4 : decide (N ≤ (n : Int)) = true := decide_eq_true hn
      have HF : Hid (R = (emptyA, bb)) := Lib.hid (by rw [HF0.out, e4]; rfl)
      clear HF0
      go_enter Tryd.func9, Tryd.ntmps9
      go_wp2_with fail
      ((with_reducible refine (HI.out _).mono ?_))
      rintro e w' ⟨rfl, rfl⟩
      go_wp2_with fail
      ((with_reducible refine (HRn.out _).mono ?_))
      rintro e w1 ⟨rfl, b1⟩
      have hC := HS.out.next b1
      obtain ⟨k1, k2, a0, a1, a2, f0, f1, f2, hlt⟩ := hC.facts
      have HC := Lib.hid hC
      simp at k1 k2
      clear b1 hC
      go_wp2_with fail
      ((with_reducible refine (HBl.out _).mono ?_))
      rintro e w2 ⟨rfl, rfl⟩
      go_wp2_with fail
      have hD := HC.out.done (.string ⟨#[]⟩) (.slice none 0 0) (.slice none 0 0)
      exact closes_ret hD.1 rfl rfl rfl (cl_none HF.out hD.2)
    · have e4 : decide (N ≤ (n : Int)) = false := decide_eq_false hn
      have HF : Hid (R = (emptyA, false)) := Lib.hid (by rw [HF0.out, e4]; rfl)
      clear HF0
      go_enter Tryd.func9, Tryd.ntmps9
      go_wp2_with fail
      ((with_reducible refine (HI.out _).mono ?_))
      rintro e w' ⟨rfl, rfl⟩
      go_wp2_with fail
      ((with_reducible refine (HRn.out _).mono ?_))
      rintro e w1 ⟨rfl, b1⟩
      have hC := HS.out.next b1
      obtain ⟨k1, k2, a0, a1, a2, f0, f1, f2, hlt⟩ := hC.facts
      have HC := Lib.hid hC
      simp at k1 k2
      clear b1 hC
      go_wp2_with fail
      have hD := HC.out.done (.string ⟨#[]⟩) (.slice none 0 0) (.slice none 0 0)
      exact closes_ret hD.1 rfl rfl rfl (cl_none HF.out hD.2)
  have z7 : (K == 7) = false := by rw [beq_eq_false_iff_ne]; exact h7
  by_cases h8 : K = 8
  · subst h8
    have HP : Hid (∀ W, Calls Tryd.prog 25 #[.string c, .string ⟨#[36, 36]⟩] W fun e w' => e = .returned (.bool (Lib.hasPrefix (bytesL c) [36, 36])) ∧ W = w') := Lib.hid fun W => (Tryd.strings_HasPrefix c ⟨#[36, 36]⟩ W).mono fun e w' ⟨h, h'⟩ => ⟨h, h'.symm⟩
    have HR3 : Hid (R = if Lib.hasPrefix (bytesL c) [36, 36] = true then optA (onlyR (c.extract 2 c.size)) else (emptyA, false)) := Lib.hid (by rw [HR2.out]; unfold closeD; rw [if_neg (by decide), if_pos rfl])
    have hpl : Lib.hasPrefix (bytesL c) [36, 36] = true → 2 ≤ c.size := fun h => pre_len h
    clear HR2
    generalize Lib.hasPrefix (bytesL c) [36, 36] = p at *
    cases p with
    | false =>
      have HF : Hid (R = (emptyA, false)) := Lib.hid (by rw [HR3.out]; rfl)
      clear HR3
      go_enter Tryd.func9, Tryd.ntmps9
      go_wp2_with fail
      ((with_reducible refine (HI.out _).mono ?_))
      rintro e w' ⟨rfl, rfl⟩
      go_wp2_with fail
      ((with_reducible refine (HP.out _).mono ?_))
      rintro e w' ⟨rfl, rfl⟩
      go_wp2_with fail
      exact closes_ret HS.out.at_ rfl rfl rfl (cl_none HF.out HS.out.bel)
    | true =>
      have h2 := hpl rfl
      have hxz : (c.extract 2 c.size).size ≤ 1000000 := by rw [ByteArray.size_extract]; omega
      have HO := Lib.hid fun W => m_only (c.extract 2 c.size) W hxz
      have HF0 : Hid (R = optA (onlyR (c.extract 2 c.size))) := Lib.hid (by rw [HR3.out]; rfl)
      clear HR3 hpl
      generalize onlyR (c.extract 2 c.size) = O at *
      go_enter Tryd.func9, Tryd.ntmps9
      go_wp2_with fail
      ((with_reducible refine (HI.out _).mono ?_))
      rintro e w' ⟨rfl, rfl⟩
      go_wp2_with fail
      ((with_reducible refine (HP.out _).mono ?_))
      rintro e w' ⟨rfl, rfl⟩
      go_wp2_with fail
      ((with_reducible refine (HO.out _).mono ?_))
      rintro e w1 ⟨⟨a, vC, vP, b, rfl, ho, hO, hb0⟩, b1⟩
      have HF : Hid (R = (a, b)) := Lib.hid (by
        rw [HF0.out, hO]
        cases b with
        | true => rfl
        | false => rw [hb0 rfl]; rfl)
      obtain ⟨AC, cC, rfl⟩ := own_slice ho.cls
      obtain ⟨AP, cP, rfl⟩ := own_slice ho.prs
      have hC := HS.out.next b1
      have ho' : OwnA w1 (w.heap.size + 2) a (.slice AC a.cl.length cC) (.slice AP a.pr.length cP) := by
        have e : (cw0 w #[.int .i64 8, .int .i64 N, .string ch, .int .i64 o, .string s4, .string s5, .string s6, .string s7, .string s8, .slice A9 n9 c9, .slice A10 n10 c10]).heap.size = w.heap.size + 2 := by unfold cw0; simp
        rw [← e]; exact ho
      have HO' := Lib.hid ho'
      obtain ⟨k1, k2, a0, a1, a2, f0, f1, f2, hlt⟩ := hC.facts
      have HC := Lib.hid hC
      clear b1 hC ho ho' hO hb0 HF0
      go_wp2_with fail
      have hD := HC.out.done (.string a.id) (.slice AC a.cl.length cC) (.slice AP a.pr.length cP)
      exact closes_ret hD.1 rfl rfl rfl (cl_some HF.out (ownA_low (ownA_far HO'.out (grown3 _ _ _ _ _) (by omega)) (by omega)) hD.2)
  have z8 : (K == 8) = false := by rw [beq_eq_false_iff_ne]; exact h8
  by_cases h9 : K = 9
  · subst h9
    have HF0 : Hid (R = (emptyA, decide (1 ≤ N) && (decide ((firstN c (· != 58) : Int) = N) && blankB (c.extract (firstN c (· != 58)) c.size)))) := Lib.hid (by rw [HR2.out]; unfold closeD; rw [if_neg (by decide), if_neg (by decide), if_pos rfl])
    clear HR2
    have HRn : Hid (∀ W, Calls Tryd.prog 24 #[.string c, .int .u8 58] W fun e w' => e = .returned (.int .i64 (firstN c (· != 58))) ∧ Below W.heap.size W w') := Lib.hid fun W => m_run c 58 (by omega) W hcs
    have hnl := firstN_le c (· != 58)
    generalize firstN c (· != 58) = n at *
    have hxz : (c.extract n c.size).size ≤ 1000000 := by rw [ByteArray.size_extract]; omega
    have HBl := Lib.hid fun W => t_blank (c.extract n c.size) W hxz
    generalize blankB (c.extract n c.size) = bb at *
    have htest : (decide (1 ≤ N) = false ∧ Hid (R = (emptyA, false))) ∨ (decide (1 ≤ N) = true ∧ ((n : Int) == N) = false ∧ Hid (R = (emptyA, false))) ∨ (decide (1 ≤ N) = true ∧ ((n : Int) == N) = true ∧ Hid (R = (emptyA, bb))) := by
      by_cases g1 : 1 ≤ N
      · by_cases g2 : (n : Int) = N
        · right; right; exact ⟨decide_eq_true g1, by rw [beq_iff_eq]; exact g2, Lib.hid (by rw [HF0.out, decide_eq_true g1, decide_eq_true g2]; rfl)⟩
        · right; left; exact ⟨decide_eq_true g1, by rw [beq_eq_false_iff_ne]; exact g2, Lib.hid (by rw [HF0.out, decide_eq_true g1, decide_eq_false g2]; rfl)⟩
      · left; exact ⟨decide_eq_false g1, Lib.hid (by rw [HF0.out, decide_eq_false g1]; rfl)⟩
    clear HF0
    rcases htest with ⟨g1, HF⟩ | ⟨g1, g2, HF⟩ | ⟨g1, g2, HF⟩
    · go_enter Tryd.func9, Tryd.ntmps9
      go_wp2_with fail
      ((with_reducible refine (HI.out _).mono ?_))
      rintro e w' ⟨rfl, rfl⟩
      go_wp2_with fail
      ((with_reducible refine (HRn.out _).mono ?_))
      rintro e w1 ⟨rfl, b1⟩
      have hC := HS.out.next b1
      obtain ⟨k1, k2, a0, a1, a2, f0, f1, f2, hlt⟩ := hC.facts
      have HC := Lib.hid hC
      simp at k1 k2
      clear b1 hC
      go_wp2_with fail
      have hD := HC.out.done (.string ⟨#[]⟩) (.slice none 0 0) (.slice none 0 0)
      exact closes_ret hD.1 rfl rfl rfl (cl_none HF.out hD.2)
    · go_enter Tryd.func9, Tryd.ntmps9
      go_wp2_with fail
      ((with_reducible refine (HI.out _).mono ?_))
      rintro e w' ⟨rfl, rfl⟩
      go_wp2_with fail
      ((with_reducible refine (HRn.out _).mono ?_))
      rintro e w1 ⟨rfl, b1⟩
      have hC := HS.out.next b1
      obtain ⟨k1, k2, a0, a1, a2, f0, f1, f2, hlt⟩ := hC.facts
      have HC := Lib.hid hC
      simp at k1 k2
      clear b1 hC
      go_wp2_with fail
      have hD := HC.out.done (.string ⟨#[]⟩) (.slice none 0 0) (.slice none 0 0)
      exact closes_ret hD.1 rfl rfl rfl (cl_none HF.out hD.2)
    · go_enter Tryd.func9, Tryd.ntmps9
      go_wp2_with fail
      ((with_reducible refine (HI.out _).mono ?_))
      rintro e w' ⟨rfl, rfl⟩
      go_wp2_with fail
      ((with_reducible refine (HRn.out _).mono ?_))
      rintro e w1 ⟨rfl, b1⟩
      have hC := HS.out.next b1
      obtain ⟨k1, k2, a0, a1, a2, f0, f1, f2, hlt⟩ := hC.facts
      have HC := Lib.hid hC
      simp at k1 k2
      clear b1 hC
      go_wp2_with fail
      ((with_reducible refine (HBl.out _).mono ?_))
      rintro e w2 ⟨rfl, rfl⟩
      go_wp2_with fail
      have hD := HC.out.done (.string ⟨#[]⟩) (.slice none 0 0) (.slice none 0 0)
      exact closes_ret hD.1 rfl rfl rfl (cl_none HF.out hD.2)
  have z9 : (K == 9) = false := by rw [beq_eq_false_iff_ne]; exact h9
  have HF : Hid (R = (emptyA, false)) := Lib.hid (by rw [HR2.out]; unfold closeD; rw [if_neg h7, if_neg h8, if_neg h9])
  clear HR2
  go_enter Tryd.func9, Tryd.ntmps9
  go_wp2_with fail
  ((with_reducible refine (HI.out _).mono ?_))
  rintro e w' ⟨rfl, rfl⟩
  go_wp2_with fail
  exact closes_ret HS.out.at_ rfl rfl rfl (cl_none HF.out HS.out.bel)
end Go.Proofs.YthfienjmigidbaaDoor
namespace Go.Proofs.YthfienjmigidbaaDoor
open Go.RowKit Go.Pub

/-- Whether the mark b continues the list of the mark a. -/
def sameR (a b : MkL) : Bool := decide (a.kind = b.kind ∧ a.ch = b.ch ∧ (b.kind = 6 ∧ (b.off : Int) - 2 - (b.info.size : Int) < (a.off : Int) ∨ b.kind = 5 ∧ (b.off : Int) - 2 < (a.off : Int)))

set_option maxRecDepth 100000 in
set_option maxHeartbeats 1000000 in
theorem m_same (a b : MkL) (A1 A2 A3 A4 : Option Addr) (n1 c1 n2 c2 n3 c3 n4 c4 : Nat) (w : World) (ha : a.off ≤ 2000000) (hb : b.off ≤ 2000000) (hi : b.info.size ≤ 1000000) :
    Calls Tryd.prog 10 #[.agg (a.cells (.slice A1 n1 c1) (.slice A2 n2 c2)), .agg (b.cells (.slice A3 n3 c3) (.slice A4 n4 c4))] w fun e w' => e = .returned (.bool (sameR a b)) ∧ Below w.heap.size w w' := by
  have HR : Hid (sameR a b = decide (a.kind = b.kind ∧ a.ch = b.ch ∧ (b.kind = 6 ∧ (b.off : Int) - 2 - (b.info.size : Int) < (a.off : Int) ∨ b.kind = 5 ∧ (b.off : Int) - 2 < (a.off : Int)))) := Lib.hid rfl
  generalize sameR a b = R at *
  obtain ⟨ka, na, ca, oa, ia, ra, da, ta, aa⟩ := a
  obtain ⟨kb, nb, cb, ob, ib, rb, db, tb, ab⟩ := b
  simp only [MkL.cells] at *
  by_cases hk : ka = kb
  case neg =>
    have z1 : (((ka : Nat) : Int) != (kb : Int)) = true := by rw [bne_iff_ne]; omega
    have z2 : (((ka : Nat) : Int) == (kb : Int)) = false := by rw [beq_eq_false_iff_ne]; omega
    have HF : Hid (R = false) := Lib.hid (by rw [HR.out, decide_eq_false (fun h => hk h.1)])
    clear HR
    go_enter Tryd.func10, Tryd.ntmps10
    go_wp2_with fail
    go_ret
    exact ⟨ret_bool (by rw [HF.out]), (((Below.refl _ w).alloc (Nat.le_refl _) _).alloc (by simp) _)⟩
  subst hk
  by_cases hc : ca = cb
  case neg =>
    have z1 : (ca.toList == cb.toList) = false := (Lib.bytes_beq_false_iff _ _).2 hc
    have HF : Hid (R = false) := Lib.hid (by rw [HR.out, decide_eq_false (fun h => hc h.2.1)])
    clear HR
    go_enter Tryd.func10, Tryd.ntmps10
    go_wp2_with fail
    go_ret
    exact ⟨ret_bool (by rw [HF.out]), (((Below.refl _ w).alloc (Nat.le_refl _) _).alloc (by simp) _)⟩
  subst hc
  by_cases h6 : ka = 6
  · subst h6
    have HF : Hid (R = decide ((ob : Int) - 2 - (ib.size : Int) < (oa : Int))) := Lib.hid (by rw [HR.out]; simp)
    clear HR
    go_enter Tryd.func10, Tryd.ntmps10
    go_wp2_with fail
    go_ret
    exact ⟨ret_bool (by rw [HF.out]), (((Below.refl _ w).alloc (Nat.le_refl _) _).alloc (by simp) _)⟩
  by_cases h5 : ka = 5
  · subst h5
    have HF : Hid (R = decide ((ob : Int) - 2 < (oa : Int))) := Lib.hid (by rw [HR.out]; simp)
    clear HR
    go_enter Tryd.func10, Tryd.ntmps10
    go_wp2_with fail
    go_ret
    exact ⟨ret_bool (by rw [HF.out]), (((Below.refl _ w).alloc (Nat.le_refl _) _).alloc (by simp) _)⟩
  · have z5 : (((ka : Nat) : Int) == 5) = false := by rw [beq_eq_false_iff_ne]; omega
    have z6 : (((ka : Nat) : Int) == 6) = false := by rw [beq_eq_false_iff_ne]; omega
    have HF : Hid (R = false) := Lib.hid (by rw [HR.out]; simp [h5, h6])
    clear HR
    go_enter Tryd.func10, Tryd.ntmps10
    go_wp2_with fail
    go_ret
    exact ⟨ret_bool (by rw [HF.out]), (((Below.refl _ w).alloc (Nat.le_refl _) _).alloc (by simp) _)⟩

def indentR (m : MkL) : Int := if m.kind = 6 then (m.off : Int) - 2 - (m.info.size : Int) else (m.off : Int) - 2

end Go.Proofs.YthfienjmigidbaaDoor
namespace Go.Proofs.YthfienjmigidbaaDoor
open Go.RowKit Go.Pub

theorem of_ex {s : ByteArray} {m : MkL} (h : markM s = m) (W : World) (hs : s.size ≤ 1000000) : Calls Tryd.prog 6 #[.string s] W fun e w' => ∃ A1 c1 A2 c2, e = .returned (.agg (m.cells (.slice A1 m.att.cl.length c1) (.slice A2 m.att.pr.length c2))) ∧ Below W.heap.size W w' := by
  subst h
  refine (m_of s W hs).mono ?_
  rintro e w' ⟨⟨v, rfl, vC, vP, rfl, ho⟩, hb⟩
  obtain ⟨A1, c1, rfl⟩ := own_slice ho.cls
  obtain ⟨A2, c2, rfl⟩ := own_slice ho.prs
  exact ⟨A1, c1, A2, c2, rfl, hb⟩
theorem closes_ex {s ch : ByteArray} {K N : Int} {r : AttrL × Bool} (h : closesM s K N ch = r) (o : Int) (s4 s5 s6 s7 s8 : ByteArray) (A9 : Option Addr) (n9 c9 : Nat) (A10 : Option Addr) (n10 c10 : Nat) (W : World) (hs : s.size ≤ 1000000) :
    Calls Tryd.prog 9 #[.string s, .agg #[.int .i64 K, .int .i64 N, .string ch, .int .i64 o, .string s4, .string s5, .string s6, .string s7, .string s8, .slice A9 n9 c9, .slice A10 n10 c10]] W fun e w' => ∃ A1 c1 A2 c2, e = .returned (.tuple #[.agg #[.string r.1.id, .slice A1 r.1.cl.length c1, .slice A2 r.1.pr.length c2], .bool r.2]) ∧ Below W.heap.size W w' := by
  subst h
  refine (m_closes s K N o ch s4 s5 s6 s7 s8 A9 n9 c9 A10 n10 c10 W hs).mono ?_
  rintro e w' ⟨⟨vC, vP, rfl, ho⟩, hb⟩
  obtain ⟨A1, c1, rfl⟩ := own_slice ho.cls
  obtain ⟨A2, c2, rfl⟩ := own_slice ho.prs
  exact ⟨A1, c1, A2, c2, rfl, hb⟩
theorem st_next {w w1 w2 : World} {cs : Array Value} {T : TypeId} (c1 : Below w.heap.size w w1) (b2 : Below (w1.alloc (.cells cs T)).heap.size (w1.alloc (.cells cs T)) w2) : Blk w2 w1.heap.size T cs ∧ Below w.heap.size w w2 :=
  ⟨(Blk.new w1 T cs).below b2 (Blk.new w1 T cs).lt, (c1.alloc c1.size _).trans (b2.mono (c1.alloc c1.size _).size)⟩
theorem blk_next {w1 w2 : World} {g : Nat} {cs : Array Value} {T : TypeId} {o : Obj} (h : Blk w1 g T cs) (b2 : Below (w1.alloc o).heap.size (w1.alloc o) w2) : Blk w2 g T cs := (h.alloc o).below b2 (h.alloc o).lt
theorem ex_of0 : markM ⟨#[49, 50, 41, 32, 97]⟩ = ({ kind := 6, n := 12, ch := ⟨#[41]⟩, off := 4, info := ⟨#[49, 50]⟩, rest := ⟨#[97]⟩, dest := ⟨#[]⟩, title := ⟨#[]⟩, att := ⟨⟨#[]⟩, [], []⟩ } : MkL) := by kernel_rfl
theorem ex_of1 : markM ⟨#[35, 32, 65, 32, 123, 35, 120, 125]⟩ = ({ kind := 2, n := 1, ch := ⟨#[]⟩, off := 0, info := ⟨#[]⟩, rest := ⟨#[65]⟩, dest := ⟨#[]⟩, title := ⟨#[]⟩, att := ⟨⟨#[120]⟩, [], []⟩ } : MkL) := by kernel_rfl
theorem ex_of2 : markM ⟨#[91, 97, 32, 98, 93, 58, 32, 60, 120, 32, 121, 62, 32, 34, 84, 34]⟩ = ({ kind := 11, n := 0, ch := ⟨#[]⟩, off := 0, info := ⟨#[97, 32, 98]⟩, rest := ⟨#[]⟩, dest := ⟨#[120, 32, 121]⟩, title := ⟨#[84]⟩, att := ⟨⟨#[]⟩, [], []⟩ } : MkL) := by kernel_rfl
theorem ex_of3 : markM ⟨#[45, 32, 45, 32, 45]⟩ = ({ kind := 3, n := 0, ch := ⟨#[45]⟩, off := 0, info := ⟨#[]⟩, rest := ⟨#[]⟩, dest := ⟨#[]⟩, title := ⟨#[]⟩, att := ⟨⟨#[]⟩, [], []⟩ } : MkL) := by kernel_rfl
theorem ex_of4 : markM ⟨#[58, 58, 58]⟩ = ({ kind := 0, n := 0, ch := ⟨#[]⟩, off := 0, info := ⟨#[]⟩, rest := ⟨#[58, 58, 58]⟩, dest := ⟨#[]⟩, title := ⟨#[]⟩, att := ⟨⟨#[]⟩, [], []⟩ } : MkL) := by kernel_rfl
theorem ex_of5 : markM ⟨#[49, 46, 32, 97]⟩ = ({ kind := 6, n := 1, ch := ⟨#[46]⟩, off := 3, info := ⟨#[49]⟩, rest := ⟨#[97]⟩, dest := ⟨#[]⟩, title := ⟨#[]⟩, att := ⟨⟨#[]⟩, [], []⟩ } : MkL) := by kernel_rfl
theorem ex_of6 : markM ⟨#[32, 32, 50, 46, 32, 98]⟩ = ({ kind := 6, n := 2, ch := ⟨#[46]⟩, off := 5, info := ⟨#[50]⟩, rest := ⟨#[98]⟩, dest := ⟨#[]⟩, title := ⟨#[]⟩, att := ⟨⟨#[]⟩, [], []⟩ } : MkL) := by kernel_rfl
theorem ex_of7 : markM ⟨#[45, 32, 97]⟩ = ({ kind := 5, n := 0, ch := ⟨#[45]⟩, off := 2, info := ⟨#[]⟩, rest := ⟨#[97]⟩, dest := ⟨#[]⟩, title := ⟨#[]⟩, att := ⟨⟨#[]⟩, [], []⟩ } : MkL) := by kernel_rfl
theorem ex_of8 : markM ⟨#[32, 32, 45, 32, 98]⟩ = ({ kind := 5, n := 0, ch := ⟨#[45]⟩, off := 4, info := ⟨#[]⟩, rest := ⟨#[98]⟩, dest := ⟨#[]⟩, title := ⟨#[]⟩, att := ⟨⟨#[]⟩, [], []⟩ } : MkL) := by kernel_rfl
theorem ex_cl1 : closesM ⟨#[36, 36, 32, 123, 35, 101, 125]⟩ 8 0 ⟨#[]⟩ = (⟨⟨#[101]⟩, [], []⟩, true) := by kernel_rfl
theorem ex_cl2 : closesM ⟨#[58, 58, 58, 58]⟩ 9 3 ⟨#[]⟩ = (emptyA, false) := by kernel_rfl
theorem aw_of0 (W : World) : Calls Tryd.prog 6 #[.string ⟨#[49, 50, 41, 32, 97]⟩] W fun e w' => ∃ A1 c1 A2 c2, e = .returned (.agg #[.int .i64 6, .int .i64 12, .string ⟨#[41]⟩, .int .i64 4, .string ⟨#[49, 50]⟩, .string ⟨#[97]⟩, .string ⟨#[]⟩, .string ⟨#[]⟩, .string ⟨#[]⟩, .slice A1 0 c1, .slice A2 0 c2]) ∧ Below W.heap.size W w' := of_ex ex_of0 W (by decide)
theorem aw_of1 (W : World) : Calls Tryd.prog 6 #[.string ⟨#[35, 32, 65, 32, 123, 35, 120, 125]⟩] W fun e w' => ∃ A1 c1 A2 c2, e = .returned (.agg #[.int .i64 2, .int .i64 1, .string ⟨#[]⟩, .int .i64 0, .string ⟨#[]⟩, .string ⟨#[65]⟩, .string ⟨#[]⟩, .string ⟨#[]⟩, .string ⟨#[120]⟩, .slice A1 0 c1, .slice A2 0 c2]) ∧ Below W.heap.size W w' := of_ex ex_of1 W (by decide)
theorem aw_of2 (W : World) : Calls Tryd.prog 6 #[.string ⟨#[91, 97, 32, 98, 93, 58, 32, 60, 120, 32, 121, 62, 32, 34, 84, 34]⟩] W fun e w' => ∃ A1 c1 A2 c2, e = .returned (.agg #[.int .i64 11, .int .i64 0, .string ⟨#[]⟩, .int .i64 0, .string ⟨#[97, 32, 98]⟩, .string ⟨#[]⟩, .string ⟨#[120, 32, 121]⟩, .string ⟨#[84]⟩, .string ⟨#[]⟩, .slice A1 0 c1, .slice A2 0 c2]) ∧ Below W.heap.size W w' := of_ex ex_of2 W (by decide)
theorem aw_of3 (W : World) : Calls Tryd.prog 6 #[.string ⟨#[45, 32, 45, 32, 45]⟩] W fun e w' => ∃ A1 c1 A2 c2, e = .returned (.agg #[.int .i64 3, .int .i64 0, .string ⟨#[45]⟩, .int .i64 0, .string ⟨#[]⟩, .string ⟨#[]⟩, .string ⟨#[]⟩, .string ⟨#[]⟩, .string ⟨#[]⟩, .slice A1 0 c1, .slice A2 0 c2]) ∧ Below W.heap.size W w' := of_ex ex_of3 W (by decide)
theorem aw_of4 (W : World) : Calls Tryd.prog 6 #[.string ⟨#[58, 58, 58]⟩] W fun e w' => ∃ A1 c1 A2 c2, e = .returned (.agg #[.int .i64 0, .int .i64 0, .string ⟨#[]⟩, .int .i64 0, .string ⟨#[]⟩, .string ⟨#[58, 58, 58]⟩, .string ⟨#[]⟩, .string ⟨#[]⟩, .string ⟨#[]⟩, .slice A1 0 c1, .slice A2 0 c2]) ∧ Below W.heap.size W w' := of_ex ex_of4 W (by decide)
theorem aw_of5 (W : World) : Calls Tryd.prog 6 #[.string ⟨#[49, 46, 32, 97]⟩] W fun e w' => ∃ A1 c1 A2 c2, e = .returned (.agg #[.int .i64 6, .int .i64 1, .string ⟨#[46]⟩, .int .i64 3, .string ⟨#[49]⟩, .string ⟨#[97]⟩, .string ⟨#[]⟩, .string ⟨#[]⟩, .string ⟨#[]⟩, .slice A1 0 c1, .slice A2 0 c2]) ∧ Below W.heap.size W w' := of_ex ex_of5 W (by decide)
theorem aw_of6 (W : World) : Calls Tryd.prog 6 #[.string ⟨#[32, 32, 50, 46, 32, 98]⟩] W fun e w' => ∃ A1 c1 A2 c2, e = .returned (.agg #[.int .i64 6, .int .i64 2, .string ⟨#[46]⟩, .int .i64 5, .string ⟨#[50]⟩, .string ⟨#[98]⟩, .string ⟨#[]⟩, .string ⟨#[]⟩, .string ⟨#[]⟩, .slice A1 0 c1, .slice A2 0 c2]) ∧ Below W.heap.size W w' := of_ex ex_of6 W (by decide)
theorem aw_of7 (W : World) : Calls Tryd.prog 6 #[.string ⟨#[45, 32, 97]⟩] W fun e w' => ∃ A1 c1 A2 c2, e = .returned (.agg #[.int .i64 5, .int .i64 0, .string ⟨#[45]⟩, .int .i64 2, .string ⟨#[]⟩, .string ⟨#[97]⟩, .string ⟨#[]⟩, .string ⟨#[]⟩, .string ⟨#[]⟩, .slice A1 0 c1, .slice A2 0 c2]) ∧ Below W.heap.size W w' := of_ex ex_of7 W (by decide)
theorem aw_of8 (W : World) : Calls Tryd.prog 6 #[.string ⟨#[32, 32, 45, 32, 98]⟩] W fun e w' => ∃ A1 c1 A2 c2, e = .returned (.agg #[.int .i64 5, .int .i64 0, .string ⟨#[45]⟩, .int .i64 4, .string ⟨#[]⟩, .string ⟨#[98]⟩, .string ⟨#[]⟩, .string ⟨#[]⟩, .string ⟨#[]⟩, .slice A1 0 c1, .slice A2 0 c2]) ∧ Below W.heap.size W w' := of_ex ex_of8 W (by decide)
theorem aw_cl1 (W : World) : Calls Tryd.prog 9 #[.string ⟨#[36, 36, 32, 123, 35, 101, 125]⟩, .agg #[.int .i64 8, .int .i64 0, .string ⟨#[]⟩, .int .i64 0, .string ⟨#[]⟩, .string ⟨#[]⟩, .string ⟨#[]⟩, .string ⟨#[]⟩, .string ⟨#[]⟩, .slice none 0 0, .slice none 0 0]] W fun e w' => ∃ A1 c1 A2 c2, e = .returned (.tuple #[.agg #[.string ⟨#[101]⟩, .slice A1 0 c1, .slice A2 0 c2], .bool true]) ∧ Below W.heap.size W w' := closes_ex ex_cl1 0 ⟨#[]⟩ ⟨#[]⟩ ⟨#[]⟩ ⟨#[]⟩ ⟨#[]⟩ none 0 0 none 0 0 W (by decide)
theorem aw_cl2 (W : World) : Calls Tryd.prog 9 #[.string ⟨#[58, 58, 58, 58]⟩, .agg #[.int .i64 9, .int .i64 3, .string ⟨#[]⟩, .int .i64 0, .string ⟨#[]⟩, .string ⟨#[]⟩, .string ⟨#[]⟩, .string ⟨#[]⟩, .string ⟨#[]⟩, .slice none 0 0, .slice none 0 0]] W fun e w' => ∃ A1 c1 A2 c2, e = .returned (.tuple #[.agg #[.string ⟨#[]⟩, .slice A1 0 c1, .slice A2 0 c2], .bool false]) ∧ Below W.heap.size W w' := closes_ex ex_cl2 0 ⟨#[]⟩ ⟨#[]⟩ ⟨#[]⟩ ⟨#[]⟩ ⟨#[]⟩ none 0 0 none 0 0 W (by decide)
theorem aw_s1 (A1 A2 A3 A4 : Option Addr) (c1 c2 c3 c4 : Nat) (W : World) : Calls Tryd.prog 10 #[.agg #[.int .i64 6, .int .i64 1, .string ⟨#[46]⟩, .int .i64 3, .string ⟨#[49]⟩, .string ⟨#[97]⟩, .string ⟨#[]⟩, .string ⟨#[]⟩, .string ⟨#[]⟩, .slice A1 0 c1, .slice A2 0 c2], .agg #[.int .i64 6, .int .i64 2, .string ⟨#[46]⟩, .int .i64 5, .string ⟨#[50]⟩, .string ⟨#[98]⟩, .string ⟨#[]⟩, .string ⟨#[]⟩, .string ⟨#[]⟩, .slice A3 0 c3, .slice A4 0 c4]] W fun e w' => e = .returned (.bool true) ∧ Below W.heap.size W w' := by
  have h := m_same ({ kind := 6, n := 1, ch := ⟨#[46]⟩, off := 3, info := ⟨#[49]⟩, rest := ⟨#[97]⟩, dest := ⟨#[]⟩, title := ⟨#[]⟩, att := ⟨⟨#[]⟩, [], []⟩ } : MkL) ({ kind := 6, n := 2, ch := ⟨#[46]⟩, off := 5, info := ⟨#[50]⟩, rest := ⟨#[98]⟩, dest := ⟨#[]⟩, title := ⟨#[]⟩, att := ⟨⟨#[]⟩, [], []⟩ } : MkL) A1 A2 A3 A4 0 c1 0 c2 0 c3 0 c4 W (by decide) (by decide) (by decide)
  rw [show sameR ({ kind := 6, n := 1, ch := ⟨#[46]⟩, off := 3, info := ⟨#[49]⟩, rest := ⟨#[97]⟩, dest := ⟨#[]⟩, title := ⟨#[]⟩, att := ⟨⟨#[]⟩, [], []⟩ } : MkL) ({ kind := 6, n := 2, ch := ⟨#[46]⟩, off := 5, info := ⟨#[50]⟩, rest := ⟨#[98]⟩, dest := ⟨#[]⟩, title := ⟨#[]⟩, att := ⟨⟨#[]⟩, [], []⟩ } : MkL) = true from by kernel_rfl] at h
  exact h
theorem aw_s2 (A1 A2 A3 A4 : Option Addr) (c1 c2 c3 c4 : Nat) (W : World) : Calls Tryd.prog 10 #[.agg #[.int .i64 5, .int .i64 0, .string ⟨#[45]⟩, .int .i64 2, .string ⟨#[]⟩, .string ⟨#[97]⟩, .string ⟨#[]⟩, .string ⟨#[]⟩, .string ⟨#[]⟩, .slice A1 0 c1, .slice A2 0 c2], .agg #[.int .i64 5, .int .i64 0, .string ⟨#[45]⟩, .int .i64 4, .string ⟨#[]⟩, .string ⟨#[98]⟩, .string ⟨#[]⟩, .string ⟨#[]⟩, .string ⟨#[]⟩, .slice A3 0 c3, .slice A4 0 c4]] W fun e w' => e = .returned (.bool false) ∧ Below W.heap.size W w' := by
  have h := m_same ({ kind := 5, n := 0, ch := ⟨#[45]⟩, off := 2, info := ⟨#[]⟩, rest := ⟨#[97]⟩, dest := ⟨#[]⟩, title := ⟨#[]⟩, att := ⟨⟨#[]⟩, [], []⟩ } : MkL) ({ kind := 5, n := 0, ch := ⟨#[45]⟩, off := 4, info := ⟨#[]⟩, rest := ⟨#[98]⟩, dest := ⟨#[]⟩, title := ⟨#[]⟩, att := ⟨⟨#[]⟩, [], []⟩ } : MkL) A1 A2 A3 A4 0 c1 0 c2 0 c3 0 c4 W (by decide) (by decide) (by decide)
  rw [show sameR ({ kind := 5, n := 0, ch := ⟨#[45]⟩, off := 2, info := ⟨#[]⟩, rest := ⟨#[97]⟩, dest := ⟨#[]⟩, title := ⟨#[]⟩, att := ⟨⟨#[]⟩, [], []⟩ } : MkL) ({ kind := 5, n := 0, ch := ⟨#[45]⟩, off := 4, info := ⟨#[]⟩, rest := ⟨#[98]⟩, dest := ⟨#[]⟩, title := ⟨#[]⟩, att := ⟨⟨#[]⟩, [], []⟩ } : MkL) = false from by kernel_rfl] at h
  exact h

set_option maxRecDepth 100000 in
set_option maxHeartbeats 8000000 in
theorem mk_awake (w : World) : Calls Tryd.prog 5 #[] w fun e w' => e = .returned (.bool true) ∧ Below w.heap.size w w' := by
  have H0 := Lib.hid aw_of0
  have H1 := Lib.hid aw_of1
  have H2 := Lib.hid aw_of2
  have H3 := Lib.hid aw_of3
  have H4 := Lib.hid aw_of4
  have H5 := Lib.hid aw_of5
  have H6 := Lib.hid aw_of6
  have H7 := Lib.hid aw_of7
  have H8 := Lib.hid aw_of8
  have HC1 := Lib.hid aw_cl1
  have HC2 := Lib.hid aw_cl2
  have HS1 := Lib.hid aw_s1
  have HS2 := Lib.hid aw_s2
  have q0 : ((⟨#[49, 50]⟩ : ByteArray).toList == (⟨#[49, 50]⟩ : ByteArray).toList) = true := beq_self_eq_true _
  have r0 : ((⟨#[49, 50]⟩ : ByteArray).toList != (⟨#[49, 50]⟩ : ByteArray).toList) = false := by simp
  have q1 : ((⟨#[41]⟩ : ByteArray).toList == (⟨#[41]⟩ : ByteArray).toList) = true := beq_self_eq_true _
  have r1 : ((⟨#[41]⟩ : ByteArray).toList != (⟨#[41]⟩ : ByteArray).toList) = false := by simp
  have q2 : ((⟨#[97]⟩ : ByteArray).toList == (⟨#[97]⟩ : ByteArray).toList) = true := beq_self_eq_true _
  have r2 : ((⟨#[97]⟩ : ByteArray).toList != (⟨#[97]⟩ : ByteArray).toList) = false := by simp
  have q3 : ((⟨#[65]⟩ : ByteArray).toList == (⟨#[65]⟩ : ByteArray).toList) = true := beq_self_eq_true _
  have r3 : ((⟨#[65]⟩ : ByteArray).toList != (⟨#[65]⟩ : ByteArray).toList) = false := by simp
  have q4 : ((⟨#[120]⟩ : ByteArray).toList == (⟨#[120]⟩ : ByteArray).toList) = true := beq_self_eq_true _
  have r4 : ((⟨#[120]⟩ : ByteArray).toList != (⟨#[120]⟩ : ByteArray).toList) = false := by simp
  have q5 : ((⟨#[97, 32, 98]⟩ : ByteArray).toList == (⟨#[97, 32, 98]⟩ : ByteArray).toList) = true := beq_self_eq_true _
  have r5 : ((⟨#[97, 32, 98]⟩ : ByteArray).toList != (⟨#[97, 32, 98]⟩ : ByteArray).toList) = false := by simp
  have q6 : ((⟨#[120, 32, 121]⟩ : ByteArray).toList == (⟨#[120, 32, 121]⟩ : ByteArray).toList) = true := beq_self_eq_true _
  have r6 : ((⟨#[120, 32, 121]⟩ : ByteArray).toList != (⟨#[120, 32, 121]⟩ : ByteArray).toList) = false := by simp
  have q7 : ((⟨#[84]⟩ : ByteArray).toList == (⟨#[84]⟩ : ByteArray).toList) = true := beq_self_eq_true _
  have r7 : ((⟨#[84]⟩ : ByteArray).toList != (⟨#[84]⟩ : ByteArray).toList) = false := by simp
  have q8 : ((⟨#[101]⟩ : ByteArray).toList == (⟨#[101]⟩ : ByteArray).toList) = true := beq_self_eq_true _
  have r8 : ((⟨#[101]⟩ : ByteArray).toList != (⟨#[101]⟩ : ByteArray).toList) = false := by simp
  have hfd : ∀ (k n : Int) (s2 : ByteArray) (i3 : Int) (s4 s5 s6 s7 s8 : ByteArray) (A : Option Addr) (m c : Nat) (A' : Option Addr) (m' c' : Nat) (W : World), (Instr.field 28 (.agg #[.int .i64 k, .int .i64 n, .string s2, .int .i64 i3, .string s4, .string s5, .string s6, .string s7, .string s8, .slice A m c, .slice A' m' c']) 0).run Tryd.prog W = .ok (.int .i64 k) W := fun _ _ _ _ _ _ _ _ _ _ _ _ _ _ _ _ => by kernel_rfl
  go_enter Tryd.func5, Tryd.ntmps5
  go_wp2_with fail
  ((with_reducible refine (H0.out _).mono ?_))
  rintro e w1 ⟨A1, c1, A2, c2, rfl, b1⟩
  have C1 := Lib.hid b1
  clear b1
  go_wp2_with fail
  ((with_reducible refine (H1.out _).mono ?_))
  rintro e w2 ⟨A3, c3, A4, c4, rfl, b2⟩
  have N2 := st_next C1.out b2
  have M1 := Lib.hid N2.1
  have C2 := Lib.hid N2.2
  clear b2 N2
  go_wp2_with fail
  ((with_reducible refine (H2.out _).mono ?_))
  rintro e w3 ⟨A5, c5, A6, c6, rfl, b3⟩
  have N3 := st_next C2.out b3
  have M1' := Lib.hid (blk_next M1.out b3)
  have M2 := Lib.hid N3.1
  have C3 := Lib.hid N3.2
  clear b3 N3 M1
  go_wp2_with fail
  ((with_reducible refine (HC1.out _).mono ?_))
  rintro e w4 ⟨A7, c7, A8, c8, rfl, b4⟩
  have N4 := st_next C3.out b4
  have M1 := Lib.hid (blk_next M1'.out b4)
  have M2' := Lib.hid (blk_next M2.out b4)
  have M3 := Lib.hid N4.1
  have C4 := Lib.hid N4.2
  clear b4 N4 M1' M2
  go_wp2_with fail
  ((with_reducible refine (HC2.out _).mono ?_))
  rintro e w5 ⟨A9, c9, A10, c10, rfl, b5⟩
  have N5 := st_next C4.out b5
  have M1' := blk_next M1.out b5
  have M2 := blk_next M2'.out b5
  have M3' := blk_next M3.out b5
  have M4 := N5.1
  have C5 := Lib.hid N5.2
  clear b5 N5 M1 M2' M3
  have K1 := Blk.alloc M1' (.cells #[.string ⟨#[]⟩, .slice A9 0 c9, .slice A10 0 c10] 26)
  have K2 := Blk.alloc M2 (.cells #[.string ⟨#[]⟩, .slice A9 0 c9, .slice A10 0 c10] 26)
  have K3 := Blk.alloc M3' (.cells #[.string ⟨#[]⟩, .slice A9 0 c9, .slice A10 0 c10] 26)
  have K4 := Blk.alloc M4 (.cells #[.string ⟨#[]⟩, .slice A9 0 c9, .slice A10 0 c10] 26)
  clear M1' M2 M3' M4
  have k1_0 := K1.cell 0
  simp at k1_0
  have k1_1 := K1.cell 1
  simp at k1_1
  have k1_4 := K1.cell 4
  simp at k1_4
  have k1_2 := K1.cell 2
  simp at k1_2
  have k1_3 := K1.cell 3
  simp at k1_3
  have k1_5 := K1.cell 5
  simp at k1_5
  have k2_0 := K2.cell 0
  simp at k2_0
  have k2_5 := K2.cell 5
  simp at k2_5
  have k2_8 := K2.cell 8
  simp at k2_8
  have k3_0 := K3.cell 0
  simp at k3_0
  have k3_4 := K3.cell 4
  simp at k3_4
  have k3_6 := K3.cell 6
  simp at k3_6
  have k3_7 := K3.cell 7
  simp at k3_7
  have k4_0 := K4.cell 0
  simp at k4_0
  clear K1 K2 K3 K4
  go_wp2_with fail
  ((with_reducible refine (H3.out _).mono ?_))
  rintro e w6 ⟨A11, c11, A12, c12, rfl, b6⟩
  have D6 := C5.out.alloc C5.out.size (.cells #[.string ⟨#[]⟩, .slice A9 0 c9, .slice A10 0 c10] 26)
  have C6 := Lib.hid (D6.trans (b6.mono D6.size))
  clear D6 b6
  clear k1_0 k1_1 k1_4 k1_2 k1_3 k1_5 k2_0 k2_5 k2_8 k3_0 k3_4 k3_6 k3_7 k4_0
  go_wp2_with fail
  ((with_reducible refine (H4.out _).mono ?_))
  rintro e w7 ⟨A13, c13, A14, c14, rfl, b7⟩
  have C7 := Lib.hid (C6.out.trans (b7.mono C6.out.size))
  clear b7
  go_wp2_with fail
  ((with_reducible refine (H5.out _).mono ?_))
  rintro e w8 ⟨A15, c15, A16, c16, rfl, b8⟩
  have C8 := Lib.hid (C7.out.trans (b8.mono C7.out.size))
  clear b8
  go_wp2_with fail
  ((with_reducible refine (H6.out _).mono ?_))
  rintro e w9 ⟨A17, c17, A18, c18, rfl, b9⟩
  have C9 := Lib.hid (C8.out.trans (b9.mono C8.out.size))
  clear b9
  go_wp2_with fail
  ((with_reducible refine (HS1.out _ _ _ _ _ _ _ _ _).mono ?_))
  rintro e w10 ⟨rfl, b10⟩
  have C10 := Lib.hid (C9.out.trans (b10.mono C9.out.size))
  clear b10
  go_wp2_with fail
  ((with_reducible refine (H7.out _).mono ?_))
  rintro e w11 ⟨A19, c19, A20, c20, rfl, b11⟩
  have C11 := Lib.hid (C10.out.trans (b11.mono C10.out.size))
  clear b11
  go_wp2_with fail
  ((with_reducible refine (H8.out _).mono ?_))
  rintro e w12 ⟨A21, c21, A22, c22, rfl, b12⟩
  have C12 := Lib.hid (C11.out.trans (b12.mono C11.out.size))
  clear b12
  go_wp2_with fail
  ((with_reducible refine (HS2.out _ _ _ _ _ _ _ _ _).mono ?_))
  rintro e w13 ⟨rfl, b13⟩
  have C13 := Lib.hid (C12.out.trans (b13.mono C12.out.size))
  clear b13
  go_wp2_with fail
  go_ret
  exact ⟨rfl, C13.out⟩
end Go.Proofs.YthfienjmigidbaaDoor
