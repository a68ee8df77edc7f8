/-
  Texts of the proof, put together: MkU, MkV, MkX.
-/
import Derived.Test.YthfienjmigidbaaGreatDoorB23
import Derived.Outline
set_option linter.unusedVariables false
set_option linter.unusedSimpArgs false
namespace Go.Proofs.YthfienjmigidbaaGreatDoor
open Go.RowKit Go.Pub

theorem closes_ret {W : World} {g : Nat} {x y z u : Value} {P : Ending → World → Prop} {act : Act} (hr : Blk W g 25 #[x, y, z]) (h4 : act.tmps.getD 4 undef = .pointer (some ⟨g, 0, none⟩))
    (h5 : act.tmps.getD 5 undef = u) (hd : act.defers = []) (hP : P (.returned (.tuple #[.agg #[x, y, z], u])) W) : bodyPost Tryz.prog Tryz.f9 P Exit.ret act W := by
  have c0 : W.cell? ⟨g, 0, none⟩ = some x := hr.cell 0
  have c1 : W.cell? ⟨g, 1, none⟩ = some y := hr.cell 1
  have c2 : W.cell? ⟨g, 2, none⟩ = some z := hr.cell 2
  refine bodyPost_ret (v := .tuple #[.agg #[x, y, z], u]) ?_ hd hP
  rw [Array.getD_eq_getD_getElem?] at h4 h5
  simp [results, Tryz.results9, go_sem, h4, h5, c0, c1, c2]
theorem cl_none {r : AttrL × Bool} {b : Bool} {w w' : World} (hr : r = (emptyA, b)) (hb : Below w.heap.size w w') : ClPost r w (.returned (.tuple #[.agg #[.string ⟨#[]⟩, .slice none 0 0, .slice none 0 0], .bool b])) w' := by
  subst hr; exact ⟨⟨_, _, rfl, ownA_empty _ _ hb.size⟩, hb⟩
theorem cl_some {r : AttrL × Bool} {a : AttrL} {b : Bool} {vC vP : Value} {w w' : World} (hr : r = (a, b)) (ho : OwnA w' w.heap.size a vC vP) (hb : Below w.heap.size w w') : ClPost r w (.returned (.tuple #[.agg #[.string a.id, vC, vP], .bool b])) w' := by
  subst hr; exact ⟨⟨_, _, rfl, ho⟩, hb⟩
/-- The parameter's block, and the result's, still empty. -/
structure CW (w : World) (MK : Array Value) (W : World) : Prop where
  mrk : Blk W w.heap.size 27 MK
  at_ : Blk W (w.heap.size + 1) 25 #[.string ⟨#[]⟩, .slice none 0 0, .slice none 0 0]
  bel : Below w.heap.size w W
def cw0 (w : World) (MK : Array Value) : World := (w.alloc (.cells MK 27)).alloc (.cells #[.string ⟨#[]⟩, .slice none 0 0, .slice none 0 0] 25)
theorem cw_start (w : World) (MK : Array Value) : CW w MK (cw0 w MK) := by
  refine ⟨(Blk.new w _ _).alloc _, ?_, ((Below.refl _ w).alloc (Nat.le_refl _) _).alloc (by simp) _⟩
  have := Blk.new (w.alloc (.cells MK 27)) 25 #[.string ⟨#[]⟩, .slice none 0 0, .slice none 0 0]
  unfold cw0
  simpa using this
theorem CW.next {w W W' : World} {MK : Array Value} (h : CW w MK W) (hb : Below W.heap.size W W') : CW w MK W' :=
  ⟨h.mrk.below hb h.mrk.lt, h.at_.below hb h.at_.lt, h.bel.trans (hb.mono h.bel.size)⟩
theorem CW.facts {w W : World} {MK : Array Value} (h : CW w MK W) : W.cell? ⟨w.heap.size, 1, none⟩ = MK[1]? ∧ W.cell? ⟨w.heap.size, 2, none⟩ = MK[2]? ∧
    W.cell? ⟨w.heap.size + 1, 0, none⟩ = some (.string ⟨#[]⟩) ∧ W.cell? ⟨w.heap.size + 1, 1, none⟩ = some (.slice none 0 0) ∧ W.cell? ⟨w.heap.size + 1, 2, none⟩ = some (.slice none 0 0) ∧
    W.frozen? ⟨w.heap.size + 1, 0, none⟩ = false ∧ W.frozen? ⟨w.heap.size + 1, 1, none⟩ = false ∧ W.frozen? ⟨w.heap.size + 1, 2, none⟩ = false ∧ w.heap.size + 1 < W.heap.size :=
  ⟨h.mrk.cell 1, h.mrk.cell 2, h.at_.cell 0, h.at_.cell 1, h.at_.cell 2, h.at_.frozen 0, h.at_.frozen 1, h.at_.frozen 2, h.at_.lt⟩
theorem CW.done {w W : World} {MK : Array Value} (h : CW w MK W) (x y z : Value) : Blk (((W.setCell ⟨w.heap.size + 1, 0, none⟩ x).setCell ⟨w.heap.size + 1, 1, none⟩ y).setCell ⟨w.heap.size + 1, 2, none⟩ z) (w.heap.size + 1) 25 #[x, y, z] ∧
    Below w.heap.size w (((W.setCell ⟨w.heap.size + 1, 0, none⟩ x).setCell ⟨w.heap.size + 1, 1, none⟩ y).setCell ⟨w.heap.size + 1, 2, none⟩ z) :=
  ⟨blk3 h.at_ rfl x y z, below3 h.bel (Nat.le_succ _) x y z⟩
theorem ite_and_false {b : Bool} {x : AttrL} (h : b = false) (q : Bool) : (x, b && q) = (x, false) := by rw [h]; rfl

set_option maxRecDepth 100000 in
set_option maxHeartbeats 2000000 in
theorem m_closes (s : ByteArray) (K N o : Int) (ch s4 s5 s6 s7 s8 : ByteArray) (A9 : Option Addr) (n9 c9 : Nat) (A10 : Option Addr) (n10 c10 : Nat) (w : World) (hs : s.size ≤ 1000000) :
    Calls Tryz.prog 9 #[.string s, .agg #[.int .i64 K, .int .i64 N, .string ch, .int .i64 o, .string s4, .string s5, .string s6, .string s7, .string s8, .slice A9 n9 c9, .slice A10 n10 c10]] w (ClPost (closesM s K N ch) w) := by
  have HI := Lib.hid fun W => t_indent s W hs
  have hil : indA s 0 ≤ s.size := indA_le s
  have hcz : (s.extract (indA s 0) s.size).size = s.size - indA s 0 := by rw [ByteArray.size_extract]; omega
  have HR : Hid (closesM s K N ch = if 3 < indA s 0 then (emptyA, false) else closeD (s.extract (indA s 0) s.size) K N ch) := Lib.hid rfl
  have HS := Lib.hid (cw_start w #[.int .i64 K, .int .i64 N, .string ch, .int .i64 o, .string s4, .string s5, .string s6, .string s7, .string s8, .slice A9 n9 c9, .slice A10 n10 c10])
  generalize closesM s K N ch = R at *
  generalize indA s 0 = ind at *
  have hili : (ind : Int) ≤ (s.size : Int) := by omega
  by_cases hi : 3 < ind
  · have HF : Hid (R = (emptyA, false)) := Lib.hid (by rw [HR.out, if_pos hi])
    have d1 : decide (3 < (ind : Int)) = true := decide_eq_true (by omega)
    have d2 : decide (3 < ind) = true := decide_eq_true hi
    clear HR
    go_enter Tryz.func9, Tryz.ntmps9
    go_wp2_with fail
    ((with_reducible refine (HI.out _).mono ?_))
    rintro e w' ⟨rfl, rfl⟩
    go_wp2_with fail
    exact closes_ret HS.out.at_ rfl rfl rfl (cl_none HF.out HS.out.bel)
  have d1 : decide (3 < (ind : Int)) = false := decide_eq_false (by omega)
  have d2 : decide (3 < ind) = false := decide_eq_false hi
  have HR2 : Hid (R = closeD (s.extract ind s.size) K N ch) := Lib.hid (by rw [HR.out, if_neg hi])
  clear HR
  generalize hcc : s.extract ind s.size = c at *
  have hcs : c.size ≤ 1000000 := by omega
  clear hcz
  by_cases h7 : K = 7
  · subst h7
    by_cases hg1 : ch.size = 1
    case neg =>
      have HF : Hid (R = (emptyA, false)) := Lib.hid (by rw [HR2.out]; unfold closeD; rw [if_pos rfl, decide_eq_false (fun h => hg1 h.1)]; rfl)
      have e1 : ((ch.size : Int) != 1) = true := by rw [bne_iff_ne]; omega
      have e2 : (ch.size != 1) = true := by rw [bne_iff_ne]; omega
      clear HR2
      go_enter Tryz.func9, Tryz.ntmps9
      go_wp2_with fail
      ((with_reducible refine (HI.out _).mono ?_))
      rintro e w' ⟨rfl, rfl⟩
      go_wp2_with fail
      exact closes_ret HS.out.at_ rfl rfl rfl (cl_none HF.out HS.out.bel)
    have e1 : ((ch.size : Int) != 1) = false := by rw [bne_eq_false_iff_eq]; omega
    have e2 : (ch.size != 1) = false := by rw [bne_eq_false_iff_eq]; omega
    by_cases hg2 : N < 1
    · have HF : Hid (R = (emptyA, false)) := Lib.hid (by rw [HR2.out]; unfold closeD; rw [if_pos rfl, decide_eq_false (fun h => by omega)]; rfl)
      have e3 : decide (N < 1) = true := decide_eq_true hg2
      clear HR2
      go_enter Tryz.func9, Tryz.ntmps9
      go_wp2_with fail
      ((with_reducible refine (HI.out _).mono ?_))
      rintro e w' ⟨rfl, rfl⟩
      go_wp2_with fail
      exact closes_ret HS.out.at_ rfl rfl rfl (cl_none HF.out HS.out.bel)
    have e3 : decide (N < 1) = false := decide_eq_false hg2
    have h01 : 0 < ch.size := by omega
    have hgb := get_bt ch 0 h01
    have hb256 := bt_lt ch 0
    have HF0 : Hid (R = (emptyA, decide (N ≤ (firstN c (· != bt ch 0) : Int)) && blankB (c.extract (firstN c (· != bt ch 0)) c.size))) := Lib.hid (by rw [HR2.out]; unfold closeD; rw [if_pos rfl, decide_eq_true ⟨hg1, by omega⟩]; rfl)
    clear HR2
    have HRn := Lib.hid fun W => m_run c (bt ch 0) hb256 W hcs
    have hnl := firstN_le c (· != bt ch 0)
    generalize firstN c (· != bt ch 0) = n at *
    generalize bt ch 0 = q at *
    have hxz : (c.extract n c.size).size ≤ 1000000 := by rw [ByteArray.size_extract]; omega
    have HBl := Lib.hid fun W => t_blank (c.extract n c.size) W hxz
    generalize blankB (c.extract n c.size) = bb at *
    by_cases hn : N ≤ (n : Int)
    · have e4 : decide (N ≤ (n : Int)) = true := decide_eq_true hn
      have HF : Hid (R = (emptyA, bb)) := Lib.hid (by rw [HF0.out, e4]; rfl)
      clear HF0
      go_enter Tryz.func9, Tryz.ntmps9
      go_wp2_with fail
      ((with_reducible refine (HI.out _).mono ?_))
      rintro e w' ⟨rfl, rfl⟩
      go_wp2_with fail
      ((with_reducible refine (HRn.out _).mono ?_))
      rintro e w1 ⟨rfl, b1⟩
      have hC := HS.out.next b1
      obtain ⟨k1, k2, a0, a1, a2, f0, f1, f2, hlt⟩ := hC.facts
      have HC := Lib.hid hC
      simp at k1 k2
      clear b1 hC
      go_wp2_with fail
      ((with_reducible refine (HBl.out _).mono ?_))
      rintro e w2 ⟨rfl, rfl⟩
      go_wp2_with fail
      have hD := HC.out.done (.string ⟨#[]⟩) (.slice none 0 0) (.slice none 0 0)
      exact closes_ret hD.1 rfl rfl rfl (cl_none HF.out hD.2)
    · have e4 : decide (N ≤ (n : Int)) = false := decide_eq_false hn
      have HF : Hid (R = (emptyA, false)) := Lib.hid (by rw [HF0.out, e4]; rfl)
      clear HF0
      go_enter Tryz.func9, Tryz.ntmps9
      go_wp2_with fail
      ((with_reducible refine (HI.out _).mono ?_))
      rintro e w' ⟨rfl, rfl⟩
      go_wp2_with fail
      ((with_reducible refine (HRn.out _).mono ?_))
      rintro e w1 ⟨rfl, b1⟩
      have hC := HS.out.next b1
      obtain ⟨k1, k2, a0, a1, a2, f0, f1, f2, hlt⟩ := hC.facts
      have HC := Lib.hid hC
      simp at k1 k2
      clear b1 hC
      go_wp2_with fail
      have hD := HC.out.done (.string ⟨#[]⟩) (.slice none 0 0) (.slice none 0 0)
      exact closes_ret hD.1 rfl rfl rfl (cl_none HF.out hD.2)
  have z7 : (K == 7) = false := by rw [beq_eq_false_iff_ne]; exact h7
  by_cases h8 : K = 8
  · subst h8
    have HP : Hid (∀ W, Calls Tryz.prog 28 #[.string c, .string ⟨#[36, 36]⟩] W fun e w' => e = .returned (.bool (Lib.hasPrefix (bytesL c) [36, 36])) ∧ W = w') := Lib.hid fun W => (Tryz.strings_HasPrefix c ⟨#[36, 36]⟩ W).mono fun e w' ⟨h, h'⟩ => ⟨h, h'.symm⟩
    have HR3 : Hid (R = if Lib.hasPrefix (bytesL c) [36, 36] = true then optA (onlyR (c.extract 2 c.size)) else (emptyA, false)) := Lib.hid (by rw [HR2.out]; unfold closeD; rw [if_neg (by decide), if_pos rfl])
    have hpl : Lib.hasPrefix (bytesL c) [36, 36] = true → 2 ≤ c.size := fun h => pre_len h
    clear HR2
    generalize Lib.hasPrefix (bytesL c) [36, 36] = p at *
    cases p with
    | false =>
      have HF : Hid (R = (emptyA, false)) := Lib.hid (by rw [HR3.out]; rfl)
      clear HR3
      go_enter Tryz.func9, Tryz.ntmps9
      go_wp2_with fail
      ((with_reducible refine (HI.out _).mono ?_))
      rintro e w' ⟨rfl, rfl⟩
      go_wp2_with fail
      ((with_reducible refine (HP.out _).mono ?_))
      rintro e w' ⟨rfl, rfl⟩
      go_wp2_with fail
      exact closes_ret HS.out.at_ rfl rfl rfl (cl_none HF.out HS.out.bel)
    | true =>
      have h2 := hpl rfl
      have hxz : (c.extract 2 c.size).size ≤ 1000000 := by rw [ByteArray.size_extract]; omega
      have HO := Lib.hid fun W => m_only (c.extract 2 c.size) W hxz
      have HF0 : Hid (R = optA (onlyR (c.extract 2 c.size))) := Lib.hid (by rw [HR3.out]; rfl)
      clear HR3 hpl
      generalize onlyR (c.extract 2 c.size) = O at *
      go_enter Tryz.func9, Tryz.ntmps9
      go_wp2_with fail
      ((with_reducible refine (HI.out _).mono ?_))
      rintro e w' ⟨rfl, rfl⟩
      go_wp2_with fail
      ((with_reducible refine (HP.out _).mono ?_))
      rintro e w' ⟨rfl, rfl⟩
      go_wp2_with fail
      ((with_reducible refine (HO.out _).mono ?_))
      rintro e w1 ⟨⟨a, vC, vP, b, rfl, ho, hO, hb0⟩, b1⟩
      have HF : Hid (R = (a, b)) := Lib.hid (by
        rw [HF0.out, hO]
        cases b with
        | true => rfl
        | false => rw [hb0 rfl]; rfl)
      obtain ⟨AC, cC, rfl⟩ := own_slice ho.cls
      obtain ⟨AP, cP, rfl⟩ := own_slice ho.prs
      have hC := HS.out.next b1
      have ho' : OwnA w1 (w.heap.size + 2) a (.slice AC a.cl.length cC) (.slice AP a.pr.length cP) := by
        have e : (cw0 w #[.int .i64 8, .int .i64 N, .string ch, .int .i64 o, .string s4, .string s5, .string s6, .string s7, .string s8, .slice A9 n9 c9, .slice A10 n10 c10]).heap.size = w.heap.size + 2 := by unfold cw0; simp
        rw [← e]; exact ho
      have HO' := Lib.hid ho'
      obtain ⟨k1, k2, a0, a1, a2, f0, f1, f2, hlt⟩ := hC.facts
      have HC := Lib.hid hC
      clear b1 hC ho ho' hO hb0 HF0
      go_wp2_with fail
      have hD := HC.out.done (.string a.id) (.slice AC a.cl.length cC) (.slice AP a.pr.length cP)
      exact closes_ret hD.1 rfl rfl rfl (cl_some HF.out (ownA_low (ownA_far HO'.out (grown3 _ _ _ _ _) (by omega)) (by omega)) hD.2)
  have z8 : (K == 8) = false := by rw [beq_eq_false_iff_ne]; exact h8
  by_cases h9 : K = 9
  · subst h9
    have HF0 : Hid (R = (emptyA, decide (1 ≤ N) && (decide ((firstN c (· != 58) : Int) = N) && blankB (c.extract (firstN c (· != 58)) c.size)))) := Lib.hid (by rw [HR2.out]; unfold closeD; rw [if_neg (by decide), if_neg (by decide), if_pos rfl])
    clear HR2
    have HRn : Hid (∀ W, Calls Tryz.prog 26 #[.string c, .int .u8 58] W fun e w' => e = .returned (.int .i64 (firstN c (· != 58))) ∧ Below W.heap.size W w') := Lib.hid fun W => m_run c 58 (by omega) W hcs
    have hnl := firstN_le c (· != 58)
    generalize firstN c (· != 58) = n at *
    have hxz : (c.extract n c.size).size ≤ 1000000 := by rw [ByteArray.size_extract]; omega
    have HBl := Lib.hid fun W => t_blank (c.extract n c.size) W hxz
    generalize blankB (c.extract n c.size) = bb at *
    have htest : (decide (1 ≤ N) = false ∧ Hid (R = (emptyA, false))) ∨ (decide (1 ≤ N) = true ∧ ((n : Int) == N) = false ∧ Hid (R = (emptyA, false))) ∨ (decide (1 ≤ N) = true ∧ ((n : Int) == N) = true ∧ Hid (R = (emptyA, bb))) := by
      by_cases g1 : 1 ≤ N
      · by_cases g2 : (n : Int) = N
        · right; right; exact ⟨decide_eq_true g1, by rw [beq_iff_eq]; exact g2, Lib.hid (by rw [HF0.out, decide_eq_true g1, decide_eq_true g2]; rfl)⟩
        · right; left; exact ⟨decide_eq_true g1, by rw [beq_eq_false_iff_ne]; exact g2, Lib.hid (by rw [HF0.out, decide_eq_true g1, decide_eq_false g2]; rfl)⟩
      · left; exact ⟨decide_eq_false g1, Lib.hid (by rw [HF0.out, decide_eq_false g1]; rfl)⟩
    clear HF0
    rcases htest with ⟨g1, HF⟩ | ⟨g1, g2, HF⟩ | ⟨g1, g2, HF⟩
    · go_enter Tryz.func9, Tryz.ntmps9
      go_wp2_with fail
      ((with_reducible refine (HI.out _).mono ?_))
      rintro e w' ⟨rfl, rfl⟩
      go_wp2_with fail
      ((with_reducible refine (HRn.out _).mono ?_))
      rintro e w1 ⟨rfl, b1⟩
      have hC := HS.out.next b1
      obtain ⟨k1, k2, a0, a1, a2, f0, f1, f2, hlt⟩ := hC.facts
      have HC := Lib.hid hC
      simp at k1 k2
      clear b1 hC
      go_wp2_with fail
      have hD := HC.out.done (.string ⟨#[]⟩) (.slice none 0 0) (.slice none 0 0)
      exact closes_ret hD.1 rfl rfl rfl (cl_none HF.out hD.2)
    · go_enter Tryz.func9, Tryz.ntmps9
      go_wp2_with fail
      ((with_reducible refine (HI.out _).mono ?_))
      rintro e w' ⟨rfl, rfl⟩
      go_wp2_with fail
      ((with_reducible refine (HRn.out _).mono ?_))
      rintro e w1 ⟨rfl, b1⟩
      have hC := HS.out.next b1
      obtain ⟨k1, k2, a0, a1, a2, f0, f1, f2, hlt⟩ := hC.facts
      have HC := Lib.hid hC
      simp at k1 k2
      clear b1 hC
      go_wp2_with fail
      have hD := HC.out.done (.string ⟨#[]⟩) (.slice none 0 0) (.slice none 0 0)
      exact closes_ret hD.1 rfl rfl rfl (cl_none HF.out hD.2)
    · go_enter Tryz.func9, Tryz.ntmps9
      go_wp2_with fail
      ((with_reducible refine (HI.out _).mono ?_))
      rintro e w' ⟨rfl, rfl⟩
      go_wp2_with fail
      ((with_reducible refine (HRn.out _).mono ?_))
      rintro e w1 ⟨rfl, b1⟩
      have hC := HS.out.next b1
      obtain ⟨k1, k2, a0, a1, a2, f0, f1, f2, hlt⟩ := hC.facts
      have HC := Lib.hid hC
      simp at k1 k2
      clear b1 hC
      go_wp2_with fail
      ((with_reducible refine (HBl.out _).mono ?_))
      rintro e w2 ⟨rfl, rfl⟩
      go_wp2_with fail
      have hD := HC.out.done (.string ⟨#[]⟩) (.slice none 0 0) (.slice none 0 0)
      exact closes_ret hD.1 rfl rfl rfl (cl_none HF.out hD.2)
  have z9 : (K == 9) = false := by rw [beq_eq_false_iff_ne]; exact h9
  have HF : Hid (R = (emptyA, false)) := Lib.hid (by rw [HR2.out]; unfold closeD; rw [if_neg h7, if_neg h8, if_neg h9])
  clear HR2
  go_enter Tryz.func9, Tryz.ntmps9
  go_wp2_with fail
  ((with_reducible refine (HI.out _).mono ?_))
  rintro e w' ⟨rfl, rfl⟩
  go_wp2_with fail
  exact closes_ret HS.out.at_ rfl rfl rfl (cl_none HF.out HS.out.bel)
end Go.Proofs.YthfienjmigidbaaGreatDoor
namespace Go.Proofs.YthfienjmigidbaaGreatDoor
open Go.RowKit Go.Pub

set_option maxRecDepth 100000 in
set_option maxHeartbeats 1000000 in
theorem r5_spaces (s : ByteArray) (i : Nat) (w : World) (hs : s.size ≤ 1000000) (hi : i ≤ s.size) : Calls Tryz.prog 30 #[.string s, .int .i64 i] w fun e w' => e = .returned (.int .i64 (indA s i)) ∧ w = w' := by
  generalize hR : indA s i = R at *
  have HR := Lib.hid hR
  clear hR
  go_enter Tryz.func30, Tryz.ntmps30
  go_wp2
  go_loop [1] (fun v => ∃ k : Nat, k ≤ s.size ∧ v = .int .i64 k ∧ Hid (indA s k = R)) (fun v => s.size - (intOf v).toNat)
  case atStart => exact ⟨i, by omega, rfl, HR⟩
  case round =>
    obtain ⟨k, hk, rfl, Hk⟩ := hrel
    by_cases hlt : k < s.size
    · have hlt2 : ((s[k].toNat : Nat) : Int) < 256 := by rw [get_bt s k hlt]; have := bt_lt s k; omega
      by_cases hc : bt s k = 32
      · have z : (((s[k].toNat : Nat) : Int) == 32) = true := by rw [get_bt s k hlt, hc]; rfl
        have HF : Hid (indA s (k + 1) = R) := Lib.hid (by rw [← Hk.out, indA_yes s k hlt hc])
        clear hc
        go_wp2_with fail
        go_round
        case rel => exact ⟨k + 1, by omega, by go_num, HF⟩
        case measure => simp [intOf]; omega
      · have z : (((s[k].toNat : Nat) : Int) == 32) = false := by rw [get_bt s k hlt, beq_eq_false_iff_ne]; omega
        have HF : Hid (k = R) := Lib.hid (by rw [← Hk.out, indA_no s k hlt hc])
        clear hc
        go_wp2_with fail
        go_ret
        exact ⟨ret_int (by rw [HF.out]), rfl⟩
    · have HF : Hid (k = R) := Lib.hid (by rw [← Hk.out, indA_end s k (by omega)])
      go_wp2_with fail
      go_ret
      exact ⟨ret_int (by rw [HF.out]), rfl⟩

set_option maxRecDepth 100000 in
set_option maxHeartbeats 1000000 in
theorem r5_run (s : ByteArray) (c : Nat) (w : World) (hs : s.size ≤ 1000000) (hc : c < 256) : Calls Tryz.prog 31 #[.string s, .int .i64 0, .int .u8 c] w fun e w' => e = .returned (.int .i64 (firstN s (· != c))) ∧ w = w' := by
  have HR : Hid (0 + runF s 0 (· == c) = firstN s (· != c)) := Lib.hid (by rw [firstN_run s (· == c) (· != c) (fun b => rfl)]; omega)
  generalize firstN s (· != c) = R at *
  go_enter Tryz.func31, Tryz.ntmps31
  go_wp2
  go_loop [7] (fun v => ∃ k : Nat, k ≤ s.size ∧ v = .int .i64 k ∧ Hid (k + runF s k (· == c) = R)) (fun v => s.size - (intOf v).toNat)
  case atStart => exact ⟨0, by omega, rfl, HR⟩
  case round =>
    obtain ⟨k, hk, rfl, Hk⟩ := hrel
    clear HR
    by_cases hlt : k < s.size
    · have hlt2 : ((s[k].toNat : Nat) : Int) < 256 := by rw [get_bt s k hlt]; have := bt_lt s k; omega
      by_cases hb : bt s k = c
      · have z : (((s[k].toNat : Nat) : Int) == (c : Int)) = true := by rw [get_bt s k hlt, hb]; simp
        have z' : (s[k].toNat == c) = true := by rw [get_bt s k hlt, hb]; simp
        have HF : Hid (k + 1 + runF s (k + 1) (· == c) = R) := Lib.hid (by rw [← Hk.out, runF_yes s k (· == c) hlt (by rw [beq_iff_eq]; exact hb)]; omega)
        clear hb Hk
        go_wp2_with fail
        go_round
        case rel => exact ⟨k + 1, by omega, by go_num, HF⟩
        case measure => simp [intOf]; omega
      · have z : (((s[k].toNat : Nat) : Int) == (c : Int)) = false := by rw [get_bt s k hlt, beq_eq_false_iff_ne]; omega
        have z' : (s[k].toNat == c) = false := by rw [get_bt s k hlt, beq_eq_false_iff_ne]; exact hb
        have HF : Hid (k = R) := Lib.hid (by rw [← Hk.out, runF_no s k (· == c) hlt (by rw [beq_eq_false_iff_ne]; exact hb)]; rfl)
        clear hb Hk
        go_wp2_with fail
        go_ret
        exact ⟨ret_int (by rw [HF.out]), rfl⟩
    · have HF : Hid (k = R) := Lib.hid (by rw [← Hk.out, runF_end s k (· == c) (by omega)]; rfl)
      go_wp2_with fail
      go_ret
      exact ⟨ret_int (by rw [HF.out]), rfl⟩

theorem attrRest_ret {W : World} {g : Nat} {x y z u : Value} {P : Ending → World → Prop} {act : Act} (hr : Blk W g 25 #[x, y, z]) (h4 : act.tmps.getD 4 undef = .pointer (some ⟨g, 0, none⟩))
    (h5 : act.tmps.getD 5 undef = u) (hd : act.defers = []) (hP : P (.returned (.tuple #[.agg #[x, y, z], u])) W) : bodyPost Tryz.prog Tryz.f32 P Exit.ret act W := by
  have c0 : W.cell? ⟨g, 0, none⟩ = some x := hr.cell 0
  have c1 : W.cell? ⟨g, 1, none⟩ = some y := hr.cell 1
  have c2 : W.cell? ⟨g, 2, none⟩ = some z := hr.cell 2
  refine bodyPost_ret (v := .tuple #[.agg #[x, y, z], u]) ?_ hd hP
  rw [Array.getD_eq_getD_getElem?] at h4 h5
  simp [results, Tryz.results32, go_sem, h4, h5, c0, c1, c2]
theorem parse_to (s : ByteArray) (i : Nat) (h : (parseL s i).2.2 = 0) : (parseL s i).2.1 ≤ s.size := (parseL_pos (parse_at h rfl)).2.1

set_option maxRecDepth 100000 in
set_option maxHeartbeats 2000000 in
theorem r5_attrRest (s : ByteArray) (k : Nat) (w : World) (hs : s.size ≤ 1000000) (hk : k ≤ s.size) : Calls Tryz.prog 32 #[.string s, .int .i64 k] w (ClPost (optA (attrRestM s k)) w) := by
  have HSp := Lib.hid fun W => r5_spaces s k W hs hk
  have hbd := indA_bd s k hk
  have HR : Hid (attrRestM s k = if indA s k = s.size then some emptyA else if (parseL s (indA s k)).2.2 = 0 ∧ ¬ (indA s (parseL s (indA s k)).2.1 < s.size) then some (parseL s (indA s k)).1 else none) := Lib.hid rfl
  generalize attrRestM s k = R at *
  generalize indA s k = i at *
  by_cases h0 : i = s.size
  · have HF : Hid (optA R = (emptyA, true)) := Lib.hid (by rw [HR.out, if_pos h0]; rfl)
    have e1 : ((i : Int) == (s.size : Int)) = true := by rw [beq_iff_eq]; omega
    have e2 : (i == s.size) = true := by rw [beq_iff_eq]; omega
    clear HR
    go_enter Tryz.func32, Tryz.ntmps32
    go_wp2_with fail
    ((with_reducible refine (HSp.out _).mono ?_))
    rintro e w' ⟨rfl, rfl⟩
    go_wp2_with fail
    exact attrRest_ret (Blk.new w _ _) rfl rfl rfl (cl_none HF.out ((Below.refl _ w).alloc (Nat.le_refl _) _))
  have e1 : ((i : Int) == (s.size : Int)) = false := by rw [beq_eq_false_iff_ne]; omega
  have e2 : (i == s.size) = false := by rw [beq_eq_false_iff_ne]; omega
  rw [if_neg h0] at HR
  have HPa := Lib.hid fun W => rparse_any W s i hs
  have hto := parse_to s i
  generalize parseL s i = pr at *
  obtain ⟨a, t, n⟩ := pr
  simp only at HR hto
  have hW : ∀ W1, Below (w.alloc (.cells #[.string ⟨#[]⟩, .slice none 0 0, .slice none 0 0] 25)).heap.size (w.alloc (.cells #[.string ⟨#[]⟩, .slice none 0 0, .slice none 0 0] 25)) W1 → Blk W1 w.heap.size 25 #[.string ⟨#[]⟩, .slice none 0 0, .slice none 0 0] ∧ Below w.heap.size w W1 ∧ w.heap.size < W1.heap.size := fun W1 hb => by
    have h1 := (Blk.new w 25 #[.string ⟨#[]⟩, .slice none 0 0, .slice none 0 0])
    have h2 := ((Below.refl _ w).alloc (Nat.le_refl _) (.cells #[.string ⟨#[]⟩, .slice none 0 0, .slice none 0 0] 25))
    exact ⟨Blk.below h1 hb h1.lt, h2.trans (hb.mono h2.size), Nat.lt_of_lt_of_le h1.lt hb.size⟩
  have HW := Lib.hid hW
  clear hW h0
  by_cases hn : n = 0
  case neg =>
    have HF : Hid (optA R = (emptyA, false)) := Lib.hid (by rw [HR.out, if_neg (fun h => hn h.1)]; rfl)
    have d1 : ((n : Int) != 0) = true := by rw [bne_iff_ne]; omega
    clear HR hto
    go_enter Tryz.func32, Tryz.ntmps32
    go_wp2_with fail
    ((with_reducible refine (HSp.out _).mono ?_))
    rintro e w' ⟨rfl, rfl⟩
    go_wp2_with fail
    ((with_reducible refine (HPa.out _).mono ?_))
    rintro e W1 ⟨v, rfl, ⟨⟨vC, vP, rfl, hC1, hP1⟩, hc32, hp32⟩, b1⟩
    obtain ⟨qA, qc, rfl⟩ := own_slice hC1
    obtain ⟨qD, qd, rfl⟩ := own_slice hP1
    obtain ⟨hb0, hb1, hb2⟩ := HW.out W1 b1
    have hz := Blk.alloc hb0 (.cells #[.string a.id, .slice qA a.cl.length qc, .slice qD a.pr.length qd] 25)
    have hbel := hb1.alloc hb1.size (.cells #[.string a.id, .slice qA a.cl.length qc, .slice qD a.pr.length qd] 25)
    have a0 := hz.cell 0
    have a1 := hz.cell 1
    have a2 := hz.cell 2
    have f0 := hz.frozen 0
    have f1 := hz.frozen 1
    have f2 := hz.frozen 2
    have HB2 := Lib.hid hb2
    clear b1 hb0 hC1 hP1 hb2
    go_wp2_with fail
    refine attrRest_ret (blk3 hz rfl (.string ⟨#[]⟩) (.slice none 0 0) (.slice none 0 0)) rfl rfl rfl ?_
    exact cl_none HF.out (below3 hbel (Nat.le_refl _) _ _ _)
  have ht := hto hn
  subst hn
  have HS2 := Lib.hid fun W => r5_spaces s t W hs ht
  have htest : (decide ((indA s t : Int) < (s.size : Int)) = true ∧ decide (indA s t < s.size) = true ∧ Hid (optA R = (emptyA, false))) ∨ (decide ((indA s t : Int) < (s.size : Int)) = false ∧ decide (indA s t < s.size) = false ∧ Hid (optA R = (a, true))) := by
    by_cases h : indA s t < s.size
    · left; exact ⟨decide_eq_true (by omega), decide_eq_true h, Lib.hid (by rw [HR.out, if_neg (fun hh => hh.2 h)]; rfl)⟩
    · right; exact ⟨decide_eq_false (by omega), decide_eq_false h, Lib.hid (by rw [HR.out, if_pos ⟨rfl, h⟩]; rfl)⟩
  generalize indA s t = j at *
  clear HR hto
  rcases htest with ⟨d1, d2, HF⟩ | ⟨d1, d2, HF⟩
  all_goals
    go_enter Tryz.func32, Tryz.ntmps32
    go_wp2_with fail
    ((with_reducible refine (HSp.out _).mono ?_))
    rintro e w' ⟨rfl, rfl⟩
    go_wp2_with fail
    ((with_reducible refine (HPa.out _).mono ?_))
    rintro e W1 ⟨v, rfl, ⟨⟨vC, vP, rfl, hC1, hP1⟩, hc32, hp32⟩, b1⟩
    obtain ⟨qA, qc, rfl⟩ := own_slice hC1
    obtain ⟨qD, qd, rfl⟩ := own_slice hP1
    obtain ⟨hb0, hb1, hb2⟩ := HW.out W1 b1
    have hO : Hid (OwnA (W1.alloc (.cells #[.string a.id, .slice qA a.cl.length qc, .slice qD a.pr.length qd] 25)) (w.heap.size + 1) a (.slice qA a.cl.length qc) (.slice qD a.pr.length qd)) := Lib.hid (by
      have : OwnA W1 (w.heap.size + 1) a (.slice qA a.cl.length qc) (.slice qD a.pr.length qd) := ⟨by simpa using hC1, by simpa using hP1, hb2, hc32, hp32⟩
      exact this.below ((Below.refl _ _).alloc (Nat.le_refl _) _))
    have hz := Blk.alloc hb0 (.cells #[.string a.id, .slice qA a.cl.length qc, .slice qD a.pr.length qd] 25)
    have hbel := hb1.alloc hb1.size (.cells #[.string a.id, .slice qA a.cl.length qc, .slice qD a.pr.length qd] 25)
    have hn := Blk.new W1 25 #[.string a.id, .slice qA a.cl.length qc, .slice qD a.pr.length qd]
    have e0 := hn.cell 0
    have e1 := hn.cell 1
    have e2 := hn.cell 2
    have a0 := hz.cell 0
    have a1 := hz.cell 1
    have a2 := hz.cell 2
    have f0 := hz.frozen 0
    have f1 := hz.frozen 1
    have f2 := hz.frozen 2
    have HB2 := Lib.hid hb2
    clear b1 hb0 hC1 hP1 hb2
    go_wp2_with fail
    ((with_reducible refine (HS2.out _).mono ?_))
    rintro e w' ⟨rfl, rfl⟩
    go_wp2_with fail
    first
    | (refine attrRest_ret (blk3 hz rfl (.string a.id) (.slice qA a.cl.length qc) (.slice qD a.pr.length qd)) rfl rfl rfl ?_
       exact cl_some HF.out (ownA_low (ownA_far hO.out (grown3 _ _ _ _ _) (Nat.lt_succ_self _)) (Nat.le_succ _)) (below3 hbel (Nat.le_refl _) _ _ _))
    | (refine attrRest_ret (blk3 hz rfl (.string ⟨#[]⟩) (.slice none 0 0) (.slice none 0 0)) rfl rfl rfl ?_
       exact cl_none HF.out (below3 hbel (Nat.le_refl _) _ _ _))
end Go.Proofs.YthfienjmigidbaaGreatDoor
namespace Go.Proofs.YthfienjmigidbaaGreatDoor
open Go.RowKit Go.Pub

theorem rcloses_ret {W : World} {g : Nat} {x y z u : Value} {P : Ending → World → Prop} {act : Act} (hr : Blk W g 25 #[x, y, z]) (h4 : act.tmps.getD 4 undef = .pointer (some ⟨g, 0, none⟩))
    (h5 : act.tmps.getD 5 undef = u) (hd : act.defers = []) (hP : P (.returned (.tuple #[.agg #[x, y, z], u])) W) : bodyPost Tryz.prog Tryz.f10 P Exit.ret act W := by
  have c0 : W.cell? ⟨g, 0, none⟩ = some x := hr.cell 0
  have c1 : W.cell? ⟨g, 1, none⟩ = some y := hr.cell 1
  have c2 : W.cell? ⟨g, 2, none⟩ = some z := hr.cell 2
  refine bodyPost_ret (v := .tuple #[.agg #[x, y, z], u]) ?_ hd hP
  rw [Array.getD_eq_getD_getElem?] at h4 h5
  simp [results, Tryz.results10, go_sem, h4, h5, c0, c1, c2]
theorem blank_at (c : ByteArray) (n : Nat) (hn : n ≤ c.size) : blankB (c.extract n c.size) = decide (indA c n = c.size) := by
  have h1 : indA (c.extract n c.size) 0 = indN (sfx c n) := by
    rw [extract_drop]; unfold indA sfx; rw [bytesL_mk', List.drop_zero, Nat.zero_add]
  have h2 : (c.extract n c.size).size = c.size - n := by rw [ByteArray.size_extract]; omega
  unfold blankB
  rw [h1, h2]
  unfold indA
  by_cases h : n + indN (sfx c n) = c.size
  · rw [decide_eq_true h, decide_eq_true (by omega)]
  · rw [decide_eq_false h, decide_eq_false (by omega)]
theorem pre_two (c : ByteArray) (a b : UInt8) (h : 2 ≤ c.size) : Lib.hasPrefix (bytesL c) [a, b] = ((c.extract 0 2).toList == (⟨#[a, b]⟩ : ByteArray).toList) := by
  have e : Lib.hasPrefix (bytesL c) [a, b] = true ↔ c.extract 0 2 = ⟨#[a, b]⟩ := by
    rw [extract_take]
    have e0 : Lib.hasPrefix (bytesL c) [a, b] = true ↔ [a, b] <+: bytesL c := by simp [Lib.hasPrefix]
    rw [e0, List.prefix_iff_eq_take]
    constructor
    · intro h; show mk ((bytesL c).take [a, b].length) = _; rw [← h]; rfl
    · intro h
      have := congrArg bytesL h
      rw [bytesL_mk'] at this
      exact this.symm
  cases hp : Lib.hasPrefix (bytesL c) [a, b]
  · exact ((Lib.bytes_beq_false_iff _ _).2 fun h => by rw [e.2 h] at hp; cases hp).symm
  · exact ((Lib.bytes_beq_iff _ _).2 (e.1 hp)).symm

set_option maxRecDepth 100000 in
set_option maxHeartbeats 2000000 in
theorem r5_closes (s : ByteArray) (K N o : Int) (ch s4 s5 s6 s7 s8 : ByteArray) (A9 : Option Addr) (n9 c9 : Nat) (A10 : Option Addr) (n10 c10 : Nat) (w : World) (hs : s.size ≤ 1000000) :
    Calls Tryz.prog 10 #[.string s, .agg #[.int .i64 K, .int .i64 N, .string ch, .int .i64 o, .string s4, .string s5, .string s6, .string s7, .string s8, .slice A9 n9 c9, .slice A10 n10 c10]] w (ClPost (closesM s K N ch) w) := by
  have HI : Hid (∀ W, Calls Tryz.prog 30 #[.string s, .int .i64 0] W fun e w' => e = .returned (.int .i64 (indA s 0)) ∧ W = w') := Lib.hid fun W => r5_spaces s 0 W hs (Nat.zero_le _)
  have hil : indA s 0 ≤ s.size := indA_le s
  have hcz : (s.extract (indA s 0) s.size).size = s.size - indA s 0 := by rw [ByteArray.size_extract]; omega
  have HR : Hid (closesM s K N ch = if 3 < indA s 0 then (emptyA, false) else closeD (s.extract (indA s 0) s.size) K N ch) := Lib.hid rfl
  have HS := Lib.hid (cw_start w #[.int .i64 K, .int .i64 N, .string ch, .int .i64 o, .string s4, .string s5, .string s6, .string s7, .string s8, .slice A9 n9 c9, .slice A10 n10 c10])
  generalize closesM s K N ch = R at *
  generalize indA s 0 = ind at *
  have hili : (ind : Int) ≤ (s.size : Int) := by omega
  by_cases hi : 3 < ind
  · have HF : Hid (R = (emptyA, false)) := Lib.hid (by rw [HR.out, if_pos hi])
    have d1 : decide (3 < (ind : Int)) = true := decide_eq_true (by omega)
    have d2 : decide (3 < ind) = true := decide_eq_true hi
    clear HR
    go_enter Tryz.func10, Tryz.ntmps10
    go_wp2_with fail
    ((with_reducible refine (HI.out _).mono ?_))
    rintro e w' ⟨rfl, rfl⟩
    go_wp2_with fail
    exact rcloses_ret HS.out.at_ rfl rfl rfl (cl_none HF.out HS.out.bel)
  have d1 : decide (3 < (ind : Int)) = false := decide_eq_false (by omega)
  have d2 : decide (3 < ind) = false := decide_eq_false hi
  have HR2 : Hid (R = closeD (s.extract ind s.size) K N ch) := Lib.hid (by rw [HR.out, if_neg hi])
  clear HR
  generalize hcc : s.extract ind s.size = c at *
  have hcs : c.size ≤ 1000000 := by omega
  clear hcz
  by_cases h7 : K = 7
  · subst h7
    by_cases hg1 : ch.size = 1
    case neg =>
      have HF : Hid (R = (emptyA, false)) := Lib.hid (by rw [HR2.out]; unfold closeD; rw [if_pos rfl, decide_eq_false (fun h => hg1 h.1)]; rfl)
      have e1 : ((ch.size : Int) != 1) = true := by rw [bne_iff_ne]; omega
      have e2 : (ch.size != 1) = true := by rw [bne_iff_ne]; omega
      clear HR2
      go_enter Tryz.func10, Tryz.ntmps10
      go_wp2_with fail
      ((with_reducible refine (HI.out _).mono ?_))
      rintro e w' ⟨rfl, rfl⟩
      go_wp2_with fail
      exact rcloses_ret HS.out.at_ rfl rfl rfl (cl_none HF.out HS.out.bel)
    have e1 : ((ch.size : Int) != 1) = false := by rw [bne_eq_false_iff_eq]; omega
    have e2 : (ch.size != 1) = false := by rw [bne_eq_false_iff_eq]; omega
    by_cases hg2 : N < 1
    · have HF : Hid (R = (emptyA, false)) := Lib.hid (by rw [HR2.out]; unfold closeD; rw [if_pos rfl, decide_eq_false (fun h => by omega)]; rfl)
      have e3 : decide (N < 1) = true := decide_eq_true hg2
      clear HR2
      go_enter Tryz.func10, Tryz.ntmps10
      go_wp2_with fail
      ((with_reducible refine (HI.out _).mono ?_))
      rintro e w' ⟨rfl, rfl⟩
      go_wp2_with fail
      exact rcloses_ret HS.out.at_ rfl rfl rfl (cl_none HF.out HS.out.bel)
    have e3 : decide (N < 1) = false := decide_eq_false hg2
    have h01 : 0 < ch.size := by omega
    have hgb := get_bt ch 0 h01
    have hb256 := bt_lt ch 0
    have hnl := firstN_le c (· != bt ch 0)
    have HF0 : Hid (R = (emptyA, decide (N ≤ (firstN c (· != bt ch 0) : Int)) && decide (indA c (firstN c (· != bt ch 0)) = c.size))) := Lib.hid (by rw [HR2.out]; unfold closeD; rw [if_pos rfl, decide_eq_true ⟨hg1, by omega⟩, blank_at c _ hnl]; rfl)
    clear HR2
    have HRn := Lib.hid fun W => r5_run c (bt ch 0) W hcs hb256
    generalize firstN c (· != bt ch 0) = n at *
    generalize bt ch 0 = q at *
    have HSp := Lib.hid fun W => r5_spaces c n W hcs hnl
    have hbb : ∃ bb : Bool, ((indA c n : Int) == (c.size : Int)) = bb ∧ (indA c n == c.size) = bb ∧ Hid (decide (indA c n = c.size) = bb) := by
      by_cases h : indA c n = c.size
      · exact ⟨true, by rw [beq_iff_eq]; omega, by rw [beq_iff_eq]; exact h, Lib.hid (decide_eq_true h)⟩
      · exact ⟨false, by rw [beq_eq_false_iff_ne]; omega, by rw [beq_eq_false_iff_ne]; exact h, Lib.hid (decide_eq_false h)⟩
    obtain ⟨bb, b1, b2, b3⟩ := hbb
    rw [b3.out] at HF0
    clear b3
    generalize indA c n = j at *
    by_cases hn : N ≤ (n : Int)
    · have e4 : decide (N ≤ (n : Int)) = true := decide_eq_true hn
      have HF : Hid (R = (emptyA, bb)) := Lib.hid (by rw [HF0.out, e4]; rfl)
      clear HF0
      go_enter Tryz.func10, Tryz.ntmps10
      go_wp2_with fail
      ((with_reducible refine (HI.out _).mono ?_))
      rintro e w' ⟨rfl, rfl⟩
      go_wp2_with fail
      ((with_reducible refine (HRn.out _).mono ?_))
      rintro e w1 ⟨rfl, rfl⟩
      go_wp2_with fail
      ((with_reducible refine (HSp.out _).mono ?_))
      rintro e w2 ⟨rfl, rfl⟩
      go_wp2_with fail
      exact rcloses_ret HS.out.at_ rfl rfl rfl (cl_none HF.out HS.out.bel)
    · have e4 : decide (N ≤ (n : Int)) = false := decide_eq_false hn
      have HF : Hid (R = (emptyA, false)) := Lib.hid (by rw [HF0.out, e4]; rfl)
      clear HF0
      go_enter Tryz.func10, Tryz.ntmps10
      go_wp2_with fail
      ((with_reducible refine (HI.out _).mono ?_))
      rintro e w' ⟨rfl, rfl⟩
      go_wp2_with fail
      ((with_reducible refine (HRn.out _).mono ?_))
      rintro e w1 ⟨rfl, rfl⟩
      go_wp2_with fail
      exact rcloses_ret HS.out.at_ rfl rfl rfl (cl_none HF.out HS.out.bel)
  have z7 : (K == 7) = false := by rw [beq_eq_false_iff_ne]; exact h7
  by_cases h8 : K = 8
  · subst h8
    have HR3 : Hid (R = if Lib.hasPrefix (bytesL c) [36, 36] = true then optA (onlyR (c.extract 2 c.size)) else (emptyA, false)) := Lib.hid (by rw [HR2.out]; unfold closeD; rw [if_neg (by decide), if_pos rfl])
    clear HR2
    by_cases h2 : c.size < 2
    · have HF : Hid (R = (emptyA, false)) := Lib.hid (by
        rw [HR3.out, if_neg]
        intro h
        have := pre_len h
        simp at this
        omega)
      have d3 : decide ((c.size : Int) < 2) = true := decide_eq_true (by omega)
      have d4 : decide (c.size < 2) = true := decide_eq_true h2
      clear HR3
      go_enter Tryz.func10, Tryz.ntmps10
      go_wp2_with fail
      ((with_reducible refine (HI.out _).mono ?_))
      rintro e w' ⟨rfl, rfl⟩
      go_wp2_with fail
      exact rcloses_ret HS.out.at_ rfl rfl rfl (cl_none HF.out HS.out.bel)
    have h2' : 2 ≤ c.size := by omega
    have d3 : decide ((c.size : Int) < 2) = false := decide_eq_false (by omega)
    have d4 : decide (c.size < 2) = false := decide_eq_false h2
    rw [pre_two c 36 36 h2'] at HR3
    generalize hX : c.extract 0 2 = X at *
    cases hp : (X.toList == (⟨#[36, 36]⟩ : ByteArray).toList)
    · have HF : Hid (R = (emptyA, false)) := Lib.hid (by rw [HR3.out, hp]; rfl)
      have hl : (⟨#[36, 36]⟩ : ByteArray).toList = [36, 36] := by decide +kernel
      have hp' : (X.toList == [36, 36]) = false := by rw [← hl]; exact hp
      clear HR3
      go_enter Tryz.func10, Tryz.ntmps10
      go_wp2_with fail
      ((with_reducible refine (HI.out _).mono ?_))
      rintro e w' ⟨rfl, rfl⟩
      go_wp2_with fail
      exact rcloses_ret HS.out.at_ rfl rfl rfl (cl_none HF.out HS.out.bel)
    · have HA : Hid (∀ W, Calls Tryz.prog 32 #[.string c, .int .i64 2] W (ClPost (optA (attrRestM c 2)) W)) := Lib.hid fun W => r5_attrRest c 2 W hcs h2'
      have HF0 : Hid (R = optA (attrRestM c 2)) := Lib.hid (by rw [HR3.out, hp, only_rest c 2 h2']; rfl)
      obtain rfl : X = ⟨#[36, 36]⟩ := (Lib.bytes_beq_iff _ _).1 hp
      have hp' : ((⟨#[36, 36]⟩ : ByteArray).toList != (⟨#[36, 36]⟩ : ByteArray).toList) = false := by simp
      clear HR3 hp
      generalize optA (attrRestM c 2) = O at *
      go_enter Tryz.func10, Tryz.ntmps10
      go_wp2_with fail
      ((with_reducible refine (HI.out _).mono ?_))
      rintro e w' ⟨rfl, rfl⟩
      go_wp2_with fail
      ((with_reducible refine (HA.out _).mono ?_))
      rintro e w1 ⟨⟨vC, vP, rfl, ho⟩, b1⟩
      obtain ⟨a, b⟩ := O
      simp only at ho
      obtain ⟨AC, cC, rfl⟩ := own_slice ho.cls
      obtain ⟨AP, cP, rfl⟩ := own_slice ho.prs
      have hC := HS.out.next b1
      have ho' : OwnA w1 (w.heap.size + 2) a (.slice AC a.cl.length cC) (.slice AP a.pr.length cP) := by
        have e : (cw0 w #[.int .i64 8, .int .i64 N, .string ch, .int .i64 o, .string s4, .string s5, .string s6, .string s7, .string s8, .slice A9 n9 c9, .slice A10 n10 c10]).heap.size = w.heap.size + 2 := by unfold cw0; simp
        rw [← e]; exact ho
      have HO' := Lib.hid ho'
      obtain ⟨k1, k2, a0, a1, a2, f0, f1, f2, hlt⟩ := hC.facts
      have HC := Lib.hid hC
      clear b1 hC ho ho'
      go_wp2_with fail
      have hD := HC.out.done (.string a.id) (.slice AC a.cl.length cC) (.slice AP a.pr.length cP)
      exact rcloses_ret hD.1 rfl rfl rfl (cl_some HF0.out (ownA_low (ownA_far HO'.out (grown3 _ _ _ _ _) (by omega)) (by omega)) hD.2)
  have z8 : (K == 8) = false := by rw [beq_eq_false_iff_ne]; exact h8
  by_cases h9 : K = 9
  · subst h9
    have hnl := firstN_le c (· != 58)
    have HF0 : Hid (R = (emptyA, decide (1 ≤ N) && (decide ((firstN c (· != 58) : Int) = N) && decide (indA c (firstN c (· != 58)) = c.size)))) := Lib.hid (by rw [HR2.out]; unfold closeD; rw [if_neg (by decide), if_neg (by decide), if_pos rfl, blank_at c _ hnl])
    clear HR2
    have HRn : Hid (∀ W, Calls Tryz.prog 31 #[.string c, .int .i64 0, .int .u8 58] W fun e w' => e = .returned (.int .i64 (firstN c (· != 58))) ∧ W = w') := Lib.hid fun W => r5_run c 58 W hcs (by omega)
    generalize firstN c (· != 58) = n at *
    have HSp := Lib.hid fun W => r5_spaces c n W hcs hnl
    have hbb : ∃ bb : Bool, ((indA c n : Int) == (c.size : Int)) = bb ∧ (indA c n == c.size) = bb ∧ Hid (decide (indA c n = c.size) = bb) := by
      by_cases h : indA c n = c.size
      · exact ⟨true, by rw [beq_iff_eq]; omega, by rw [beq_iff_eq]; exact h, Lib.hid (decide_eq_true h)⟩
      · exact ⟨false, by rw [beq_eq_false_iff_ne]; omega, by rw [beq_eq_false_iff_ne]; exact h, Lib.hid (decide_eq_false h)⟩
    obtain ⟨bb, b1, b2, b3⟩ := hbb
    rw [b3.out] at HF0
    clear b3
    generalize indA c n = j at *
    have htest : (decide (1 ≤ N) = false ∧ Hid (R = (emptyA, false))) ∨ (decide (1 ≤ N) = true ∧ ((n : Int) == N) = false ∧ Hid (R = (emptyA, false))) ∨ (decide (1 ≤ N) = true ∧ ((n : Int) == N) = true ∧ Hid (R = (emptyA, bb))) := by
      by_cases g1 : 1 ≤ N
      · by_cases g2 : (n : Int) = N
        · right; right; exact ⟨decide_eq_true g1, by rw [beq_iff_eq]; exact g2, Lib.hid (by rw [HF0.out, decide_eq_true g1, decide_eq_true g2]; rfl)⟩
        · right; left; exact ⟨decide_eq_true g1, by rw [beq_eq_false_iff_ne]; exact g2, Lib.hid (by rw [HF0.out, decide_eq_true g1, decide_eq_false g2]; rfl)⟩
      · left; exact ⟨decide_eq_false g1, Lib.hid (by rw [HF0.out, decide_eq_false g1]; rfl)⟩
    clear HF0
    rcases htest with ⟨g1, HF⟩ | ⟨g1, g2, HF⟩ | ⟨g1, g2, HF⟩
    · go_enter Tryz.func10, Tryz.ntmps10
      go_wp2_with fail
      ((with_reducible refine (HI.out _).mono ?_))
      rintro e w' ⟨rfl, rfl⟩
      go_wp2_with fail
      ((with_reducible refine (HRn.out _).mono ?_))
      rintro e w1 ⟨rfl, rfl⟩
      go_wp2_with fail
      exact rcloses_ret HS.out.at_ rfl rfl rfl (cl_none HF.out HS.out.bel)
    · go_enter Tryz.func10, Tryz.ntmps10
      go_wp2_with fail
      ((with_reducible refine (HI.out _).mono ?_))
      rintro e w' ⟨rfl, rfl⟩
      go_wp2_with fail
      ((with_reducible refine (HRn.out _).mono ?_))
      rintro e w1 ⟨rfl, rfl⟩
      go_wp2_with fail
      exact rcloses_ret HS.out.at_ rfl rfl rfl (cl_none HF.out HS.out.bel)
    · go_enter Tryz.func10, Tryz.ntmps10
      go_wp2_with fail
      ((with_reducible refine (HI.out _).mono ?_))
      rintro e w' ⟨rfl, rfl⟩
      go_wp2_with fail
      ((with_reducible refine (HRn.out _).mono ?_))
      rintro e w1 ⟨rfl, rfl⟩
      go_wp2_with fail
      ((with_reducible refine (HSp.out _).mono ?_))
      rintro e w2 ⟨rfl, rfl⟩
      go_wp2_with fail
      exact rcloses_ret HS.out.at_ rfl rfl rfl (cl_none HF.out HS.out.bel)
  have z9 : (K == 9) = false := by rw [beq_eq_false_iff_ne]; exact h9
  have HF : Hid (R = (emptyA, false)) := Lib.hid (by rw [HR2.out]; unfold closeD; rw [if_neg h7, if_neg h8, if_neg h9])
  clear HR2
  go_enter Tryz.func10, Tryz.ntmps10
  go_wp2_with fail
  ((with_reducible refine (HI.out _).mono ?_))
  rintro e w' ⟨rfl, rfl⟩
  go_wp2_with fail
  exact rcloses_ret HS.out.at_ rfl rfl rfl (cl_none HF.out HS.out.bel)
end Go.Proofs.YthfienjmigidbaaGreatDoor
