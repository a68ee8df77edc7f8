/-
  Texts of the proof, put together (what this law reaches): NsB, ScC, ScK, ScN, ScO.
-/
import Derived.Test.YtfnloonmeilhlaaGreatDoorT26
import Derived.Test.YtfnloonmeilhlaaGreatDoorT04
import Derived.Test.YtfnloonmeilhlaaGreatDoorT08
import Derived.Test.YtfnloonmeilhlaaGreatDoorT22
import Derived.Outline
import Derived.Deep.AppendLies
import Derived.Test.YtfnloonmeilhlaaGreatDoorT24
import Derived.Test.YtfnloonmeilhlaaGreatDoorT03
import Derived.Test.YtfnloonmeilhlaaGreatDoorT21
import Derived.Test.YtfnloonmeilhlaaGreatDoorT02
import Derived.Test.YtfnloonmeilhlaaGreatDoorRows
import Derived.Test.YtfnloonmeilhlaaGreatDoorT01
import Derived.WalkKit
import Derived.WalkSpells
import Derived.WalkLawsBesides
import Derived.Deep.QuietTactic
import Derived.BigQuiet
import Derived.Lib.Hide
import Derived.Laws.BytesArg
import Derived.Lib.UnsafeStr
import Derived.Lib.Bytealg
set_option linter.unusedVariables false
set_option linter.unusedSimpArgs false
namespace Go.Pub
open Go.RowKit
end Go.Pub
namespace Go.Proofs.YtfnloonmeilhlaaGreatDoor
open Go.RowKit Go.Pub
/-- What is new since there were B blocks. -/
def Rg (B : Nat) (w' : World) (g : Nat) : Prop := B ≤ g ∧ g < w'.heap.size
section
variable {w w' : World} {base : Nat} {E E' : Nat → Prop} {v : Value} {bs : List BkT}
end
end Go.Proofs.YtfnloonmeilhlaaGreatDoor
namespace Go.Proofs.YtfnloonmeilhlaaGreatDoor
open Go.RowKit Go.Pub
def citC (c : CitL) : List Value := [.string c.key, .string c.pre, .string c.suf, .bool c.bare]
def citCs (l : List CitL) : List Value := l.flatMap citC
/-- The cells of an inline. -/
def inC (x : InL) (A1 : Option Addr) (c1 : Nat) (A2 : Option Addr) (c2 : Nat) : Array Value :=
  #[.int .i64 x.kind, .string x.text, .string x.dest, .string x.title, .string ⟨#[]⟩, .slice none 0 0, .slice none 0 0, .slice A1 x.args.length c1, .slice A2 x.cites.length c2, .slice none 0 0]
/-- What lies behind an inline's cells. -/
structure InR (w : World) (S : Nat → Prop) (x : InL) (A1 A2 : Option Addr) : Prop where
  args : ReadsS w S 1 A1 x.args.length (strs x.args)
  cites : ReadsS w S 4 A2 x.cites.length (citCs x.cites)
theorem InR.keep {w w' : World} {S S' : Nat → Prop} {x : InL} {A1 A2 : Option Addr} (h : InR w S x A1 A2) (hk : ∀ g, S g → w'.heap[g]? = w.heap[g]?) (hS : ∀ g, S g → S' g) : InR w' S' x A1 A2 := ⟨h.args.keep hk hS, h.cites.keep hk hS⟩
theorem InR.plain (w : World) (S : Nat → Prop) (x : InL) (A1 A2 : Option Addr) (h1 : x.args = []) (h2 : x.cites = []) : InR w S x A1 A2 := by
  constructor
  · rw [h1]; exact ReadsS.none_
  · rw [h2]; exact ReadsS.none_
def zIn : Array Value := #[.int .i64 0, .string ⟨#[]⟩, .string ⟨#[]⟩, .string ⟨#[]⟩, .string ⟨#[]⟩, .slice none 0 0, .slice none 0 0, .slice none 0 0, .slice none 0 0, .slice none 0 0]
/-- A reader's answer: an inline and its end, or that there is none. -/
def InPost (r : Option (InL × Nat)) (w : World) (e : Ending) (w' : World) : Prop :=
  Below w.heap.size w w' ∧ match r with
  | none => e = .returned (.tuple #[.agg zIn, .int .i64 0])
  | some p => ∃ A1 c1 A2 c2, e = .returned (.tuple #[.agg (inC p.1 A1 c1 A2 c2), .int .i64 p.2]) ∧ InR w' (Rg w.heap.size w') p.1 A1 A2
theorem in_none {r : Option (InL × Nat)} {w w' : World} (hr : r = none) (hb : Below w.heap.size w w') : InPost r w (.returned (.tuple #[.agg zIn, .int .i64 0])) w' := by
  subst hr; exact ⟨hb, rfl⟩
theorem in_some {r : Option (InL × Nat)} {w w' : World} {x : InL} {k : Nat} (hr : r = some (x, k)) (h1 : x.args = []) (h2 : x.cites = []) (hb : Below w.heap.size w w') {v : Value} {n : Int} (hv : v = .agg (inC x none 0 none 0)) (hn : n = k) : InPost r w (.returned (.tuple #[v, .int .i64 n])) w' := by
  subst hr; subst hv; subst hn
  exact ⟨hb, none, 0, none, 0, rfl, InR.plain _ _ _ _ _ h1 h2⟩
theorem blk10 {W : World} {g : Nat} {T : TypeId} {x0 x1 x2 x3 x4 x5 x6 x7 x8 x9 : Value} (h : Blk W g T #[x0, x1, x2, x3, x4, x5, x6, x7, x8, x9]) (y0 y1 y2 y3 y4 y5 y6 y7 y8 y9 : Value) : Blk ((((((((((W.setCell ⟨g, 0, none⟩ y0).setCell ⟨g, 1, none⟩ y1).setCell ⟨g, 2, none⟩ y2).setCell ⟨g, 3, none⟩ y3).setCell ⟨g, 4, none⟩ y4).setCell ⟨g, 5, none⟩ y5).setCell ⟨g, 6, none⟩ y6).setCell ⟨g, 7, none⟩ y7).setCell ⟨g, 8, none⟩ y8).setCell ⟨g, 9, none⟩ y9) g T #[y0, y1, y2, y3, y4, y5, y6, y7, y8, y9] := by
  have h0 := h.set_ 0 y0
  rw [show (#[x0, x1, x2, x3, x4, x5, x6, x7, x8, x9] : Array Value).setIfInBounds 0 y0 = #[y0, x1, x2, x3, x4, x5, x6, x7, x8, x9] from rfl] at h0
  have h1 := h0.set_ 1 y1
  rw [show (#[y0, x1, x2, x3, x4, x5, x6, x7, x8, x9] : Array Value).setIfInBounds 1 y1 = #[y0, y1, x2, x3, x4, x5, x6, x7, x8, x9] from rfl] at h1
  have h2 := h1.set_ 2 y2
  rw [show (#[y0, y1, x2, x3, x4, x5, x6, x7, x8, x9] : Array Value).setIfInBounds 2 y2 = #[y0, y1, y2, x3, x4, x5, x6, x7, x8, x9] from rfl] at h2
  have h3 := h2.set_ 3 y3
  rw [show (#[y0, y1, y2, x3, x4, x5, x6, x7, x8, x9] : Array Value).setIfInBounds 3 y3 = #[y0, y1, y2, y3, x4, x5, x6, x7, x8, x9] from rfl] at h3
  have h4 := h3.set_ 4 y4
  rw [show (#[y0, y1, y2, y3, x4, x5, x6, x7, x8, x9] : Array Value).setIfInBounds 4 y4 = #[y0, y1, y2, y3, y4, x5, x6, x7, x8, x9] from rfl] at h4
  have h5 := h4.set_ 5 y5
  rw [show (#[y0, y1, y2, y3, y4, x5, x6, x7, x8, x9] : Array Value).setIfInBounds 5 y5 = #[y0, y1, y2, y3, y4, y5, x6, x7, x8, x9] from rfl] at h5
  have h6 := h5.set_ 6 y6
  rw [show (#[y0, y1, y2, y3, y4, y5, x6, x7, x8, x9] : Array Value).setIfInBounds 6 y6 = #[y0, y1, y2, y3, y4, y5, y6, x7, x8, x9] from rfl] at h6
  have h7 := h6.set_ 7 y7
  rw [show (#[y0, y1, y2, y3, y4, y5, y6, x7, x8, x9] : Array Value).setIfInBounds 7 y7 = #[y0, y1, y2, y3, y4, y5, y6, y7, x8, x9] from rfl] at h7
  have h8 := h7.set_ 8 y8
  rw [show (#[y0, y1, y2, y3, y4, y5, y6, y7, x8, x9] : Array Value).setIfInBounds 8 y8 = #[y0, y1, y2, y3, y4, y5, y6, y7, y8, x9] from rfl] at h8
  have h9 := h8.set_ 9 y9
  rw [show (#[y0, y1, y2, y3, y4, y5, y6, y7, y8, x9] : Array Value).setIfInBounds 9 y9 = #[y0, y1, y2, y3, y4, y5, y6, y7, y8, y9] from rfl] at h9
  exact h9
theorem below10 {B : Nat} {w W : World} (h : Below B w W) {g : Nat} (hg : B ≤ g) (y0 y1 y2 y3 y4 y5 y6 y7 y8 y9 : Value) : Below B w ((((((((((W.setCell ⟨g, 0, none⟩ y0).setCell ⟨g, 1, none⟩ y1).setCell ⟨g, 2, none⟩ y2).setCell ⟨g, 3, none⟩ y3).setCell ⟨g, 4, none⟩ y4).setCell ⟨g, 5, none⟩ y5).setCell ⟨g, 6, none⟩ y6).setCell ⟨g, 7, none⟩ y7).setCell ⟨g, 8, none⟩ y8).setCell ⟨g, 9, none⟩ y9) :=
  ((((((((((h.setCell (p := ⟨g, 0, none⟩) hg y0).setCell (p := ⟨g, 1, none⟩) hg y1).setCell (p := ⟨g, 2, none⟩) hg y2).setCell (p := ⟨g, 3, none⟩) hg y3).setCell (p := ⟨g, 4, none⟩) hg y4).setCell (p := ⟨g, 5, none⟩) hg y5).setCell (p := ⟨g, 6, none⟩) hg y6).setCell (p := ⟨g, 7, none⟩) hg y7).setCell (p := ⟨g, 8, none⟩) hg y8).setCell (p := ⟨g, 9, none⟩) hg y9)
theorem in_facts {W : World} {g : Nat} {T : TypeId} {x0 x1 x2 x3 x4 x5 x6 x7 x8 x9 : Value} (h : Blk W g T #[x0, x1, x2, x3, x4, x5, x6, x7, x8, x9]) : W.cell? ⟨g, 0, none⟩ = some x0 ∧ W.cell? ⟨g, 1, none⟩ = some x1 ∧ W.cell? ⟨g, 2, none⟩ = some x2 ∧ W.cell? ⟨g, 3, none⟩ = some x3 ∧ W.cell? ⟨g, 4, none⟩ = some x4 ∧ W.cell? ⟨g, 5, none⟩ = some x5 ∧ W.cell? ⟨g, 6, none⟩ = some x6 ∧ W.cell? ⟨g, 7, none⟩ = some x7 ∧ W.cell? ⟨g, 8, none⟩ = some x8 ∧ W.cell? ⟨g, 9, none⟩ = some x9 ∧ W.frozen? ⟨g, 0, none⟩ = false ∧ W.frozen? ⟨g, 1, none⟩ = false ∧ W.frozen? ⟨g, 2, none⟩ = false ∧ W.frozen? ⟨g, 3, none⟩ = false ∧ W.frozen? ⟨g, 4, none⟩ = false ∧ W.frozen? ⟨g, 5, none⟩ = false ∧ W.frozen? ⟨g, 6, none⟩ = false ∧ W.frozen? ⟨g, 7, none⟩ = false ∧ W.frozen? ⟨g, 8, none⟩ = false ∧ W.frozen? ⟨g, 9, none⟩ = false :=
  ⟨h.cell 0, h.cell 1, h.cell 2, h.cell 3, h.cell 4, h.cell 5, h.cell 6, h.cell 7, h.cell 8, h.cell 9, h.frozen 0, h.frozen 1, h.frozen 2, h.frozen 3, h.frozen 4, h.frozen 5, h.frozen 6, h.frozen 7, h.frozen 8, h.frozen 9⟩
/-- A reader hands back the inline in its block and a number. -/
theorem in_ret {F : Func} {a b : Nat} {W : World} {g : Nat} {x0 x1 x2 x3 x4 x5 x6 x7 x8 x9 : Value} {u : Value} {P : Ending → World → Prop} {act : Act} (hF : F.results = #[ResultVar.cell a 32, ResultVar.tmp b]) (hr : Blk W g 32 #[x0, x1, x2, x3, x4, x5, x6, x7, x8, x9]) (h4 : act.tmps.getD a undef = .pointer (some ⟨g, 0, none⟩)) (h5 : act.tmps.getD b undef = u) (hd : act.defers = []) (hP : P (.returned (.tuple #[.agg #[x0, x1, x2, x3, x4, x5, x6, x7, x8, x9], u])) W) : bodyPost Tryz.prog F P Exit.ret act W := by
  obtain ⟨c0, c1, c2, c3, c4, c5, c6, c7, c8, c9, _⟩ := in_facts hr
  refine bodyPost_ret (v := .tuple #[.agg #[x0, x1, x2, x3, x4, x5, x6, x7, x8, x9], u]) ?_ hd hP
  rw [Array.getD_eq_getD_getElem?] at h4 h5
  simp [results, hF, go_sem, h4, h5, c0, c1, c2, c3, c4, c5, c6, c7, c8, c9]
set_option maxRecDepth 100000 in
set_option maxHeartbeats 1000000 in
theorem s_skip (s : ByteArray) (i : Nat) (w : World) (hs : s.size ≤ 1000000) : Calls Tryz.prog 30 #[.string s, .int .i64 i] w fun e w' => e = .returned (.int .i64 (spAt s i)) ∧ w = w' := by
  have HW : Hid (spEnd s (s.size - i) i = spAt s i) := Lib.hid rfl
  generalize spAt s i = R at *
  go_enter Tryz.func30, Tryz.ntmps30
  go_wp2_with fail
  go_loop [1] (fun v => ∃ k f : Nat, v = .int .i64 k ∧ Hid (spEnd s f k = R) ∧ s.size - k ≤ f) (fun v => s.size - (intOf v).toNat)
  case atStart => exact ⟨i, s.size - i, rfl, HW, Nat.le_refl _⟩
  case round =>
    obtain ⟨k, f, rfl, HR, hf⟩ := hrel
    by_cases hk : k < s.size
    · have hst := Lib.hid (spEnd_step s f k hk)
      have hsp := Lib.hid (spEnd_stop s f k)
      have hg := get_bt s k hk
      by_cases h : bt s k = 32
      · have z : (((bt s k : Nat) : Int) == 32) = true := by rw [h]; rfl
        have HH := Lib.hid h
        clear h
        go_wp2_with fail
        go_round
        case rel => exact ⟨k + 1, f - 1, by go_num, Lib.hid (by rw [← HR.out, hst.out HH.out hf]), by omega⟩
        case measure => simp [intOf]; omega
      · have z : (((bt s k : Nat) : Int) == 32) = false := beq_eq_false_iff_ne.2 (by omega)
        have HH := Lib.hid h
        clear h
        go_wp2_with fail
        go_ret
        exact ⟨ret_int (by rw [← HR.out, hsp.out (fun c => HH.out c.2)]), rfl⟩
    · have hsp := Lib.hid (spEnd_stop s f k (by omega))
      go_wp2_with fail
      go_ret
      exact ⟨ret_int (by rw [← HR.out, hsp.out]), rfl⟩

set_option maxRecDepth 100000 in
set_option maxHeartbeats 2000000 in
theorem s_nameEnd (s : ByteArray) (i : Nat) (w : World) (hs : s.size ≤ 1000000) : Calls Tryz.prog 59 #[.string s, .int .i64 i] w fun e w' => e = .returned (.int .i64 (wordAt s i)) ∧ w = w' := by
  have HW : Hid (wEnd s (s.size - i) i = wordAt s i) := Lib.hid rfl
  generalize wordAt s i = R at *
  go_enter Tryz.func59, Tryz.ntmps59
  go_wp2_with fail
  go_loop [1] (fun v => ∃ k f : Nat, v = .int .i64 k ∧ Hid (wEnd s f k = R) ∧ s.size - k ≤ f) (fun v => s.size - (intOf v).toNat)
  case atStart => exact ⟨i, s.size - i, rfl, HW, Nat.le_refl _⟩
  case round =>
    obtain ⟨k, f, rfl, HR, hf⟩ := hrel
    by_cases hk : k < s.size
    · have hst := Lib.hid (wEnd_step s f k hk)
      have hsp := Lib.hid (wEnd_stop s f k)
      have hg := get_bt s k hk
      have hb := bt_lt s k
      generalize bt s k = b at *
      have HP : Hid (partN b = (letterN b || digitB b || b == 45 || b == 95 || b == 46 || b == 58)) := Lib.hid (by
        unfold partN digitB
        congr 5
        rw [Bool.eq_iff_iff]; simp; omega)
      have HD := Lib.hid fun W => digit_any b W
      have HDB : Hid (digitB b = (decide (48 ≤ b) && decide (b ≤ 57))) := Lib.hid (by unfold digitB; rw [Bool.eq_iff_iff]; simp; omega)
      generalize digitB b = d at *
      generalize hP : partN b = p at *
      by_cases hL : letterN b = true
      · have HT : Hid (p = true) := Lib.hid (by rw [HP.out, hL]; rfl)
        have hR : (97 ≤ b ∧ b ≤ 122) ∨ (¬ 97 ≤ b ∧ 65 ≤ b ∧ b ≤ 90) := by unfold letterN at hL; simp at hL; omega
        clear hL hP HP
        rcases hR with ⟨a1, a2⟩ | ⟨a1, a2, a3⟩
        all_goals
          go_wp2_with fail
          go_round
          case rel => exact ⟨k + 1, f - 1, by go_num, Lib.hid (by rw [← HR.out, hst.out HT.out hf]), by omega⟩
          case measure => simp [intOf]; omega
      · have hR : (97 ≤ b ∧ ¬ b ≤ 122) ∨ (¬ 97 ≤ b ∧ 65 ≤ b ∧ ¬ b ≤ 90) ∨ (¬ 97 ≤ b ∧ ¬ 65 ≤ b) := by unfold letterN at hL; simp at hL; omega
        have hL' : letterN b = false := by simpa using hL
        cases d
        · by_cases hx : b = 45 ∨ b = 95 ∨ b = 46 ∨ b = 58
          · have HT : Hid (p = true) := Lib.hid (by rw [HP.out, hL']; rcases hx with rfl | rfl | rfl | rfl <;> rfl)
            clear hL hL' hP HP hR HDB
            rcases hx with rfl | rfl | rfl | rfl
            all_goals
              go_wp2_with fail
              refine (HD.out _).mono ?_
              rintro e w1 ⟨rfl, rfl⟩
              go_wp2_with fail
              go_round
              case rel => exact ⟨k + 1, f - 1, by go_num, Lib.hid (by rw [← HR.out, hst.out HT.out hf]), by omega⟩
              case measure => simp [intOf]; omega
          · have n1 : ((b : Int) != 45) = true := bne_iff_ne.2 (by omega)
            have n2 : ((b : Int) != 95) = true := bne_iff_ne.2 (by omega)
            have n3 : ((b : Int) != 46) = true := bne_iff_ne.2 (by omega)
            have n4 : ((b : Int) != 58) = true := bne_iff_ne.2 (by omega)
            have HT : Hid (p = false) := Lib.hid (by
              rw [HP.out, hL']
              have e1 : (b == 45) = false := beq_eq_false_iff_ne.2 (by omega)
              have e2 : (b == 95) = false := beq_eq_false_iff_ne.2 (by omega)
              have e3 : (b == 46) = false := beq_eq_false_iff_ne.2 (by omega)
              have e4 : (b == 58) = false := beq_eq_false_iff_ne.2 (by omega)
              rw [e1, e2, e3, e4]; rfl)
            clear hL hL' hP HP hx HDB
            have Y : ∃ q0 q1 q2 q3 : Bool, decide (97 ≤ (b : Int)) = q0 ∧ decide ((b : Int) ≤ 122) = q1 ∧ decide (65 ≤ (b : Int)) = q2 ∧ decide ((b : Int) ≤ 90) = q3 ∧ ((q0 = true ∧ q1 = false ∧ q2 = true ∧ q3 = false) ∨ (q0 = false ∧ q1 = true ∧ q2 = true ∧ q3 = false) ∨ (q0 = false ∧ q1 = true ∧ q2 = false ∧ q3 = true)) := by
              refine ⟨_, _, _, _, rfl, rfl, rfl, rfl, ?_⟩
              simp only [decide_eq_true_eq, decide_eq_false_iff_not]; omega
            obtain ⟨q0, q1, q2, q3, y0, y1, y2, y3, hq⟩ := Y
            clear hR
            rcases hq with ⟨rfl, rfl, rfl, rfl⟩ | ⟨rfl, rfl, rfl, rfl⟩ | ⟨rfl, rfl, rfl, rfl⟩
            all_goals
              go_wp2_with fail
              ((with_reducible refine (HD.out _).mono ?_))
              rintro e w1 ⟨rfl, rfl⟩
              go_wp2_with fail
              go_ret
              exact ⟨ret_int (by rw [← HR.out, hsp.out (fun c => Bool.false_ne_true (HT.out.symm.trans c.2))]), rfl⟩
        · have HT : Hid (p = true) := Lib.hid (by rw [HP.out, hL']; simp)
          have h57 : 48 ≤ b ∧ b ≤ 57 := by have := HDB.out; simpa using this.symm
          clear hL hL' hP HP hR HDB
          go_wp2_with fail
          ((with_reducible refine (HD.out _).mono ?_))
          rintro e w1 ⟨rfl, rfl⟩
          go_wp2_with fail
          go_round
          case rel => exact ⟨k + 1, f - 1, by go_num, Lib.hid (by rw [← HR.out, hst.out HT.out hf]), by omega⟩
          case measure => simp [intOf]; omega
    · have hsp := Lib.hid (wEnd_stop s f k (by omega))
      go_wp2_with fail
      go_ret
      exact ⟨ret_int (by rw [← HR.out, hsp.out]), rfl⟩

set_option maxRecDepth 100000 in
set_option maxHeartbeats 1000000 in
theorem s_runEnd (s : ByteArray) (i : Nat) (w : World) (hs : s.size ≤ 1000000) (hi : i < s.size) : Calls Tryz.prog 27 #[.string s, .int .i64 i] w fun e w' => e = .returned (.int .i64 (runE s i)) ∧ Below w.heap.size w w' := by
  have HE := Lib.hid fun n h h1 h2 => runF_eq s (fun b => b == bt s i) i n h h1 h2
  have HR : Hid (runE s i = i + runF s i fun b => b == bt s i) := Lib.hid rfl
  generalize runE s i = R at *
  have hgi := get_bt s i hi
  generalize bt s i = c at *
  go_enter Tryz.func27, Tryz.ntmps27
  go_wp2_with fail
  go_loopw [5] (fun v wr => ∃ k : Nat, v = .int .i64 k ∧ i ≤ k ∧ k ≤ s.size ∧ Hid (∀ j, i ≤ j → j < k → bt s j = c) ∧ Below w.heap.size w wr) (fun v _ => s.size - (intOf v).toNat)
  case atStart => exact ⟨i, rfl, Nat.le_refl _, by omega, Lib.hid (fun j h1 h2 => by omega), Below.refl _ _⟩
  case round =>
    obtain ⟨k, rfl, hik, hk, Hj, hbw⟩ := hrel
    by_cases hl : k < s.size
    · have hg := get_bt s k hl
      by_cases h : bt s k = c
      · have HJ2 : Hid (∀ j, i ≤ j → j < k + 1 → bt s j = c) := Lib.hid fun j h1 h2 => by
          by_cases e : j = k
          · subst e; exact h
          · exact Hj.out j h1 (by omega)
        rw [h] at hg
        have z : ((c : Int) == (c : Int)) = true := by simp
        clear h
        go_wp2_with fail
        go_quiet (fail)
        have hb2 := Lib.hid (below_drewN hbw nq)
        generalize wr.drewN nq = W2 at *
        go_wp2_with fail
        go_roundw
        case rel => exact ⟨k + 1, by go_num, by omega, by omega, HJ2, hb2.out⟩
        case measure => simp [intOf]; omega
      · have z : (((bt s k : Nat) : Int) == (c : Int)) = false := beq_eq_false_iff_ne.2 (by omega)
        have HH := Lib.hid h
        clear h
        have HF : Hid (R = k) := Lib.hid (by
          rw [HR.out, HE.out (k - i) (by omega) (fun j h1 h2 => by rw [beq_iff_eq]; exact Hj.out j h1 (by omega)) (fun h => by rw [show i + (k - i) = k by omega, beq_eq_false_iff_ne]; exact HH.out)]; omega)
        go_wp2_with fail
        go_quiet (fail)
        go_wp2_with fail
        go_ret
        exact ⟨ret_int (by rw [HF.out]), below_drewN hbw _⟩
    · have HF : Hid (R = k) := Lib.hid (by
        rw [HR.out, HE.out (k - i) (by omega) (fun j h1 h2 => by rw [beq_iff_eq]; exact Hj.out j h1 (by omega)) (fun h => by omega)]; omega)
      go_wp2_with fail
      go_quiet (fail)
      go_wp2_with fail
      go_ret
      exact ⟨ret_int (by rw [HF.out]), below_drewN hbw _⟩

end Go.Proofs.YtfnloonmeilhlaaGreatDoor
namespace Go.Pub
theorem toE_eq (s : ByteArray) (i : Nat) (p : Nat → Bool) (e : Nat) (hie : i ≤ e) (he : e ≤ s.size) (h1 : ∀ j, i ≤ j → j < e → p (bt s j) = false) (h2 : e < s.size → p (bt s e) = true) : toE s i p = e := by
  unfold toE
  rw [runF_eq s (fun b => !p b) i (e - i) (by omega) (fun j a b => by simp [h1 j a (by omega)]) (fun h => by rw [show i + (e - i) = e by omega] at h ⊢; simp [h2 h])]
  omega
theorem toE_ge (s : ByteArray) (i : Nat) (p : Nat → Bool) : i ≤ toE s i p := by unfold toE; omega
theorem toE_le (s : ByteArray) (i : Nat) (p : Nat → Bool) (h : i ≤ s.size) : toE s i p ≤ s.size := by
  have := runF_le s i fun b => !p b
  unfold toE; omega
theorem toE_stop (s : ByteArray) (i : Nat) (p : Nat → Bool) (h : toE s i p < s.size) : p (bt s (toE s i p)) = true := by
  have := (runF_all s (fun b => !p b) s.size i (by omega)).2 (by unfold toE at h; exact h)
  unfold toE; simpa using this
theorem autK_eq (s : ByteArray) (i e : Nat) (hie : i + 1 ≤ e) (he : e ≤ s.size) (h1 : ∀ j, i + 1 ≤ j → j < e → letterN (bt s j) = true) (h2 : e < s.size → letterN (bt s e) = false) : autK s i = e := by
  unfold autK
  rw [runF_eq s letterN (i + 1) (e - (i + 1)) (by omega) (fun j a b => h1 j a (by omega)) (fun h => by rw [show i + 1 + (e - (i + 1)) = e by omega] at h ⊢; exact h2 h)]
  omega
theorem cntW_fn (p q : Nat → Bool) : ∀ l : List UInt8, (∀ b ∈ l, p b.toNat = q b.toNat) → cntW p l = cntW q l
  | [], _ => rfl
  | b :: l, h => by
    unfold cntW
    rw [h b List.mem_cons_self, cntW_fn p q l fun x hx => h x (List.mem_cons_of_mem _ hx)]
end Go.Pub
namespace Go.Pub
theorem sub_snocA (s : ByteArray) (a b : Nat) (hab : a ≤ b) (hb : b < s.size) : sub s a (b + 1) = sub s a b ++ [s.get! b] := by
  unfold sub
  have hg : ((bytesL s).drop a)[b - a]? = some (s.get! b) := by
    rw [List.getElem?_drop, show a + (b - a) = b by omega]
    unfold bytesL
    rw [show s.get! b = s.data[b]'hb from getElem!_pos s.data b hb, Array.getElem?_toList]
    exact Array.getElem?_eq_getElem hb
  rw [show b + 1 - a = (b - a) + 1 by omega, List.take_add_one, hg]; rfl
theorem numV_snoc (l : List UInt8) (b : UInt8) : numV (l ++ [b]) = 10 * numV l + (b.toNat - 48) := by
  unfold numV; rw [List.foldl_append]; rfl
theorem numV_step (s : ByteArray) (a b : Nat) (hab : a ≤ b) (hb : b < s.size) : numV (sub s a (b + 1)) = 10 * numV (sub s a b) + (bt s b - 48) := by
  rw [sub_snocA s a b hab hb, numV_snoc]; rfl
theorem digK_eq (s : ByteArray) (i k : Nat) (h2 : 2 ≤ k) (h9 : k ≤ 9) (hle : i + k ≤ s.size) (hd : ∀ j, i + 2 ≤ j → j < i + k → dgN (bt s j) = true) (he : i + k < s.size → k < 9 → dgN (bt s (i + k)) = false) : digK s i = k - 2 := by
  unfold digK
  have hall := runF_all s dgN s.size (i + 2) (by omega)
  by_cases h : k = 9
  · subst h
    have : 7 ≤ runF s (i + 2) dgN := by
      rcases Nat.lt_or_ge (runF s (i + 2) dgN) 7 with h | h
      · exfalso
        have h1 := hall.2 (by omega)
        have h2 := hd (i + 2 + runF s (i + 2) dgN) (by omega) (by omega)
        rw [h1] at h2; cases h2
      · exact h
    omega
  · rw [runF_eq s dgN (i + 2) (k - 2) (by omega) (fun j a b => hd j a (by omega)) (fun hh => by rw [show i + 2 + (k - 2) = i + k by omega] at hh ⊢; exact he hh (by omega))]
    omega
theorem argsF_stop (s : ByteArray) (f k : Nat) (h : ¬ (k < s.size ∧ bt s k = 124)) : argsF s f k = ([], k) := by
  cases f with
  | zero => rfl
  | succ f => unfold argsF; rw [if_neg h]
theorem args_step (s : ByteArray) (A : List ByteArray × Nat) (xs : List ByteArray) (k e : Nat) (hx : xs.length < 8) (hk : k < s.size) (hb : bt s k = 124) (he : argE s k = e)
    (hA : A = (xs ++ (argsF s (8 - xs.length) k).1, (argsF s (8 - xs.length) k).2)) :
    A = ((xs ++ [s.extract (k + 1) e]) ++ (argsF s (8 - (xs ++ [s.extract (k + 1) e]).length) e).1, (argsF s (8 - (xs ++ [s.extract (k + 1) e]).length) e).2) := by
  rw [hA, show 8 - xs.length = (7 - xs.length) + 1 by omega, show 8 - (xs ++ [s.extract (k + 1) e]).length = 7 - xs.length by rw [List.length_append, List.length_singleton]; omega]
  conv => lhs; unfold argsF
  rw [if_pos ⟨hk, hb⟩, he]
  simp
theorem args_stop (s : ByteArray) (A : List ByteArray × Nat) (xs : List ByteArray) (f k : Nat) (h : ¬ (k < s.size ∧ bt s k = 124)) (hA : A = (xs ++ (argsF s f k).1, (argsF s f k).2)) : A = (xs, k) := by
  rw [hA, argsF_stop s f k h]; simp
theorem args_full (s : ByteArray) (A : List ByteArray × Nat) (xs : List ByteArray) (k : Nat) (h : xs.length = 8) (hA : A = (xs ++ (argsF s (8 - xs.length) k).1, (argsF s (8 - xs.length) k).2)) : A = (xs, k) := by
  rw [hA, h]; simp [argsF]
theorem argE_eq (s : ByteArray) (k e : Nat) (hke : k + 1 ≤ e) (he : e ≤ s.size) (h1 : ∀ j, k + 1 ≤ j → j < e → bt s j ≠ 124 ∧ bt s j ≠ 123 ∧ bt s j ≠ 125 ∧ bt s j ≠ 10) (h2 : e < s.size → bt s e = 124 ∨ bt s e = 123 ∨ bt s e = 125 ∨ bt s e = 10) : argE s k = e := by
  unfold argE
  apply toE_eq s (k + 1) _ e hke he
  · intro j a b
    obtain ⟨x1, x2, x3, x4⟩ := h1 j a b
    simp [x1, x2, x3, x4]
  · intro h
    rcases h2 h with x | x | x | x <;> simp [x]
end Go.Pub
namespace Go.Pub
theorem byte_cnt (c : UInt8) : ∀ l : List UInt8, Lib.indexByte l c = if cntW (fun b => !(b == c.toNat)) l < l.length then (cntW (fun b => !(b == c.toNat)) l : Int) else -1
  | [] => rfl
  | b :: l => by
    have hl := cntW_le (fun b => !(b == c.toNat)) l
    unfold Lib.indexByte cntW
    rw [byte_cnt c l]
    by_cases hc : b = c
    · subst hc; simp
    · have h2 : (b.toNat == c.toNat) = false := beq_eq_false_iff_ne.2 fun e => hc (UInt8.toNat_inj.1 e)
      have h3 : (b == c) = false := beq_eq_false_iff_ne.2 hc
      rw [h2, h3]
      simp only [Bool.not_false, if_true, Bool.false_eq_true, if_false, List.length_cons]
      by_cases h : cntW (fun b => !(b == c.toNat)) l < l.length
      · rw [if_pos h, if_neg (by simp), if_pos (by omega)]; omega
      · rw [if_neg h, if_neg (show ¬ (cntW (fun b => !(b == c.toNat)) l + 1 < l.length + 1) by omega)]; rfl
theorem suffix_bytes (s : ByteArray) (i : Nat) : bytesL (s.extract i s.size) = sfx s i := by
  rw [bytesL_sub]; unfold sub sfx; exact List.take_of_length_le (by rw [List.length_drop, bytesL_length]; omega)
/-- The first byte of a kind, from a suffix. -/
theorem toE_byte (s : ByteArray) (i : Nat) (c : UInt8) (hi : i ≤ s.size) :
    Lib.indexByte (bytesL (s.extract i s.size)) c = if toE s i (fun b => b == c.toNat) < s.size then ((toE s i (fun b => b == c.toNat) - i : Nat) : Int) else -1 := by
  rw [byte_cnt, suffix_bytes, sfx_len]
  have := runF_le s i fun b => !(b == c.toNat)
  have hT : toE s i (fun b => b == c.toNat) = i + cntW (fun b => !(b == c.toNat)) (sfx s i) := rfl
  rw [hT]
  have this' : cntW (fun b => !(b == c.toNat)) (sfx s i) ≤ s.size - i := this
  generalize cntW (fun b => !(b == c.toNat)) (sfx s i) = n at *
  by_cases h : i + n < s.size
  · rw [if_pos h, if_pos (by omega)]; congr 1; omega
  · rw [if_neg h, if_neg (by omega)]
theorem begB_bytes (s : ByteArray) (i : Nat) (t : List UInt8) : begB s i t = t.isPrefixOf (bytesL (s.extract i s.size)) := by rw [suffix_bytes]; rfl
theorem occ_lf (c : UInt8) (l : List UInt8) : Lib.occAt (c :: l) [10] 0 = true ↔ c = 10 := by
  show ((10 : UInt8) == c && true) = true ↔ c = 10
  simp only [Bool.and_true, beq_iff_eq]
  exact ⟨Eq.symm, Eq.symm⟩
theorem unLF_cons (c : UInt8) (l : List UInt8) : unLF (c :: l) = (if c = 10 then 32 else c) :: unLF l := rfl
theorem lf_none : ∀ l : List UInt8, (∀ j, j ≤ l.length → Lib.occAt l [10] j = false) → unLF l = l
  | [], _ => rfl
  | c :: l, h => by
    rw [unLF_cons, if_neg (fun e => by have := h 0 (by simp); rw [(occ_lf c l).2 e] at this; exact absurd this (by simp)), lf_none l (fun j hj => by rw [← occ_succ c]; exact h (j + 1) (by simp; omega))]
theorem lf_first : ∀ (i : Nat) (l : List UInt8), Lib.occAt l [10] i = true → Lib.NoOcc l [10] i → unLF l = l.take i ++ [32] ++ unLF (l.drop (i + 1))
  | 0, l, h, _ => by
    match l with
    | [] => simp [Lib.occAt] at h
    | c :: l =>
      rw [occ_lf] at h
      rw [unLF_cons, if_pos h]; rfl
  | i + 1, l, h, hn => by
    match l with
    | [] => simp [Lib.occAt] at h
    | c :: l =>
      rw [occ_succ] at h
      have h0 := hn 0 (by omega)
      rw [unLF_cons, if_neg (fun e => by rw [(occ_lf c l).2 e] at h0; exact absurd h0 (by simp)), lf_first i l h (fun j hj => by rw [← occ_succ c]; exact hn (j + 1) (by omega))]
      rfl
theorem repl_lf : ∀ (n : Nat) (l : List UInt8), l.length ≤ n → Lib.replaceK [10] [32] (Lib.count l [10]) l = unLF l
  | n, l, hl => by
    rcases Lib.index_spec l [10] with ⟨h1, h2⟩ | ⟨i, h1, h2, h3, h4⟩
    · rw [Lib.count_miss h1, lf_none l h2]; rfl
    · have hr := Lib.index_room l [10] (by rw [h1]; omega)
      rw [h1] at hr
      have hr2 : i + 1 ≤ l.length := by simp at hr; omega
      rw [Lib.count_hit (by decide) h1, Nat.add_comm, Lib.replaceK_hit _ _ _ _ i h1, lf_first i l h3 h4]
      match n with
      | 0 => omega
      | n + 1 => rw [repl_lf n (l.drop (i + ([10] : List UInt8).length)) (by rw [List.length_drop]; simp; omega)]; rfl
theorem countLF_le (l : List UInt8) : Lib.count l [10] ≤ l.length := by
  have h := Lib.countB_mul_le (mk [10]) (by decide) (mk l).size (mk l) (Nat.le_refl _)
  unfold Lib.countB at h
  have e1 : (mk l).data.toList = l := bytesL_mk' l
  have e2 : (mk [10]).data.toList = [10] := bytesL_mk' _
  rw [e1, e2, mk_size, mk_size] at h
  rw [show ([10] : List UInt8).length = 1 from rfl] at h
  omega
theorem replAll_lf (l : List UInt8) : Lib.replaceAll l [10] [32] = unLF l := by
  unfold Lib.replaceAll Lib.replace Lib.replaceNum
  rw [if_neg (by decide), if_pos (by omega)]
  exact repl_lf _ _ (Nat.le_refl _)
theorem pre_sp (l : List UInt8) : Lib.hasPrefix l [32] = true ↔ l.head? = some 32 := by
  cases l with
  | nil => simp [Lib.hasPrefix]
  | cons a l => simp [Lib.hasPrefix, List.isPrefixOf]; exact ⟨Eq.symm, Eq.symm⟩
theorem suf_sp (l : List UInt8) : Lib.hasSuffix l [32] = true ↔ l.getLast? = some 32 := by
  unfold Lib.hasSuffix List.isSuffixOf
  rw [← List.head?_reverse]
  exact pre_sp l.reverse
theorem dropW_nil (l : List UInt8) : l.dropWhile (· == 32) = [] ↔ l.any (· != 32) = false := by
  induction l with
  | nil => simp
  | cons a l ih =>
    by_cases h : a = 32
    · subst h; simpa using ih
    · simp [h]
theorem trim_nil (l : List UInt8) : Lib.trimB l 32 = [] ↔ l.any (· != 32) = false := by
  unfold Lib.trimB Lib.trimLeftB Lib.trimRightB
  rw [dropW_nil]
  constructor
  · intro h
    cases h1 : l.any (· != 32) with
    | false => rfl
    | true =>
      exfalso
      have h2 : l.reverse.any (· != 32) = true := by rw [List.any_reverse]; exact h1
      have h3 : l.reverse.dropWhile (· == 32) ≠ [] := fun e => by rw [(dropW_nil _).1 e] at h2; cases h2
      have h4 : (l.reverse.dropWhile (· == 32)).any (· != 32) = false := by rw [← List.any_reverse]; exact h
      have ha := List.head_dropWhile_not (fun x : UInt8 => x == 32) (l := l.reverse) h3
      have hm := List.any_eq_false.1 h4 _ (List.head_mem h3)
      simp only [beq_eq_false_iff_ne, ne_eq] at ha
      exact hm (bne_iff_ne.2 ha)
  · intro h
    rw [List.any_reverse, (dropW_nil l.reverse).2 (by rw [List.any_reverse]; exact h)]; rfl
/-- The code text, by its bytes. -/
theorem codeT_eq (l : List UInt8) : codeT l = if (unLF l).head? = some 32 ∧ (unLF l).getLast? = some 32 ∧ (unLF l).any (· != 32) = true then ((unLF l).drop 1).dropLast else unLF l := by
  unfold codeT
  by_cases h : (unLF l).any (· != 32) = true ∧ (unLF l).head? = some 32 ∧ (unLF l).getLast? = some 32
  · rw [if_pos h, if_pos ⟨h.2.1, h.2.2, h.1⟩]
  · rw [if_neg h, if_neg fun c => h ⟨c.2.2, c.1, c.2.1⟩]
end Go.Pub
