/-
  Texts of the proof, put together (what this law reaches): TabC, TabJ, NsA, NsB, ScC, ScL.
-/
import Derived.Test.YtcjkgmfidkgamaaGreatDoorE02
import Derived.Test.YtcjkgmfidkgamaaGreatDoorE03
import Derived.Maps.AppendAt
import Derived.Laws.OwnMore
import Derived.Lib.TrimByte
import Derived.Deep.CutRange
import Derived.Deep.DeepCutAuto
import Derived.WalkKit
import Derived.WalkSpells
import Derived.Lib.Builder
import Derived.Lib.OthersKept
import Derived.Lib.FrozenHead2
import Derived.Lib.RuneBytes
import Derived.Laws.CopyOwn
import Derived.Laws.MakeOwn
import Derived.Deep.QuietTactic
import Derived.BigQuiet
import Derived.Test.YtcjkgmfidkgamaaGreatDoorE04
import Derived.Test.YtcjkgmfidkgamaaGreatDoorE01
import Derived.Laws.EntriesVeiled
import Derived.Laws.StructEq
import Derived.Deep.AppendLies
set_option linter.unusedVariables false
set_option linter.unusedSimpArgs false
namespace Go.Pub
open Go.RowKit
end Go.Pub
namespace Go.Proofs.YtcjkgmfidkgamaaGreatDoor
open Go.RowKit Go.Pub Go.Shelf
attribute [local go_sem] Oper.semAt_some
end Go.Proofs.YtcjkgmfidkgamaaGreatDoor
namespace Go.Pub
open Go.RowKit
end Go.Pub
namespace Go.Proofs.YtcjkgmfidkgamaaGreatDoor
open Go.RowKit Go.Pub Go.Shelf
attribute [local go_sem] Oper.semAt_some
end Go.Proofs.YtcjkgmfidkgamaaGreatDoor
namespace Go.Proofs.YtcjkgmfidkgamaaGreatDoor
open Go.RowKit Go.Pub
/-- A block: its line is a source text. -/
inductive BkT where
  | mk (kind level : Nat) (info text dest title : ByteArray) (att : AttrL) (line : ByteArray) (kids : List BkT)
end Go.Proofs.YtcjkgmfidkgamaaGreatDoor
namespace Go.Pub
open Go.RowKit
/-- As Reads, the memory's block being one of S. -/
def ReadsS (w : World) (S : Nat → Prop) (size : Nat) (A : Option Addr) (n : Nat) (xs : List Value) : Prop :=
  (xs.length = n * size ∧ n ≤ maxLen) ∧ (0 < n → ∃ ad, A = some ad ∧ S ad.block ∧ ∀ j u, xs[j]? = some u → w.cell? (ad.add j) = some u)
section
variable {w w' : World} {S S' : Nat → Prop} {size n B : Nat} {A : Option Addr} {xs : List Value}
theorem ReadsS.none_ : ReadsS w S size A 0 [] := ⟨⟨by simp, Nat.zero_le _⟩, fun h => absurd h (by omega)⟩
theorem ReadsS.keep (h : ReadsS w S size A n xs) (hk : ∀ g, S g → w'.heap[g]? = w.heap[g]?) (hS : ∀ g, S g → S' g) : ReadsS w' S' size A n xs :=
  ⟨h.1, fun hn => by
    obtain ⟨ad, e, hb, hc⟩ := h.2 hn
    exact ⟨ad, e, hS _ hb, fun j u hu => (World.cell?_of_block (hk _ (by rw [block_of_add]; exact hb))).trans (hc j u hu)⟩⟩
theorem ReadsS.row (h : ReadsS w S size A n xs) (hn : 0 < n) (hs : 0 < size) : ∃ b off, A = some ⟨b, off, none⟩ ∧ S b ∧ ∀ j u, xs[j]? = some u → w.cell? ⟨b, off + j, none⟩ = some u := by
  obtain ⟨ad, e, hb, hc⟩ := h.2 hn
  obtain ⟨b, off, sp⟩ := ad
  have hl : 0 < xs.length := by rw [h.1.1]; exact Nat.mul_pos hn hs
  have h0 := hc 0 _ (List.getElem?_eq_getElem hl)
  obtain rfl : sp = none := by simpa [Addr.add] using World.cell?_spot h0
  refine ⟨b, off, e, hb, fun j u hu => ?_⟩
  have := hc j u hu
  unfold Addr.add at this
  by_cases hj : j = 0
  · subst hj; simpa using this
  · simpa [hj] using this
theorem ReadsS.block {g : Nat} {t : TypeId} {cs : Array Value} (h : w.heap[g]? = some (.cells cs t (0, 0))) (hS : S g) (hl : cs.size = n * size) (hn : n ≤ maxLen) : ReadsS w S size (some ⟨g, 0, none⟩) n cs.toList := by
  refine ⟨⟨by rw [Array.length_toList]; exact hl, hn⟩, fun _ => ⟨_, rfl, hS, fun j u hj => ?_⟩⟩
  have := cell_of_row w g j _ t (0, 0) h
  unfold Addr.add
  by_cases h0 : j = 0
  · subst h0; rw [if_pos rfl, this]; simpa using hj
  · rw [if_neg h0]
    show w.cell? ⟨g, 0 + j, none⟩ = _
    rw [Nat.zero_add, this]; simpa using hj
theorem ReadsS.of_own {base c : Nat} {e : TypeId} (h : w.ownsRow base e size (.slice A n c) n xs) : ReadsS w (fun g => base ≤ g ∧ g < w.heap.size) size A n xs := by
  refine ⟨⟨h.1, ?_⟩, fun hn => ?_⟩
  · rcases h.2 with ⟨_, h0⟩ | ⟨g, cap, cur, _, _, _, h1, h2, _⟩
    · omega
    · exact Nat.le_trans h1 h2
  obtain ⟨g, cap, hv, hg1, hlt⟩ := h.form hn
  have hA : A = some ⟨g, 0, none⟩ := by injection hv
  subst hA
  exact ⟨_, rfl, ⟨hg1, hlt⟩, h.cells (g := g) rfl⟩
end
end Go.Pub
namespace Go.Proofs.YtcjkgmfidkgamaaGreatDoor
open Go.RowKit Go.Pub
/-- What is new since there were B blocks. -/
def Rg (B : Nat) (w' : World) (g : Nat) : Prop := B ≤ g ∧ g < w'.heap.size
section
variable {w w' : World} {base : Nat} {E E' : Nat → Prop} {v : Value} {bs : List BkT}
end
end Go.Proofs.YtcjkgmfidkgamaaGreatDoor
namespace Go.Proofs.YtcjkgmfidkgamaaGreatDoor
open Go.RowKit Go.Pub
def citC (c : CitL) : List Value := [.string c.key, .string c.pre, .string c.suf, .bool c.bare]
def citCs (l : List CitL) : List Value := l.flatMap citC
/-- The cells of an inline. -/
def inC (x : InL) (A1 : Option Addr) (c1 : Nat) (A2 : Option Addr) (c2 : Nat) : Array Value :=
  #[.int .i64 x.kind, .string x.text, .string x.dest, .string x.title, .string ⟨#[]⟩, .slice none 0 0, .slice none 0 0, .slice A1 x.args.length c1, .slice A2 x.cites.length c2, .slice none 0 0]
/-- What lies behind an inline's cells. -/
structure InR (w : World) (S : Nat → Prop) (x : InL) (A1 A2 : Option Addr) : Prop where
  args : ReadsS w S 1 A1 x.args.length (strs x.args)
  cites : ReadsS w S 4 A2 x.cites.length (citCs x.cites)
theorem InR.keep {w w' : World} {S S' : Nat → Prop} {x : InL} {A1 A2 : Option Addr} (h : InR w S x A1 A2) (hk : ∀ g, S g → w'.heap[g]? = w.heap[g]?) (hS : ∀ g, S g → S' g) : InR w' S' x A1 A2 := ⟨h.args.keep hk hS, h.cites.keep hk hS⟩
theorem InR.plain (w : World) (S : Nat → Prop) (x : InL) (A1 A2 : Option Addr) (h1 : x.args = []) (h2 : x.cites = []) : InR w S x A1 A2 := by
  constructor
  · rw [h1]; exact ReadsS.none_
  · rw [h2]; exact ReadsS.none_
def zIn : Array Value := #[.int .i64 0, .string ⟨#[]⟩, .string ⟨#[]⟩, .string ⟨#[]⟩, .string ⟨#[]⟩, .slice none 0 0, .slice none 0 0, .slice none 0 0, .slice none 0 0, .slice none 0 0]
/-- A reader's answer: an inline and its end, or that there is none. -/
def InPost (r : Option (InL × Nat)) (w : World) (e : Ending) (w' : World) : Prop :=
  Below w.heap.size w w' ∧ match r with
  | none => e = .returned (.tuple #[.agg zIn, .int .i64 0])
  | some p => ∃ A1 c1 A2 c2, e = .returned (.tuple #[.agg (inC p.1 A1 c1 A2 c2), .int .i64 p.2]) ∧ InR w' (Rg w.heap.size w') p.1 A1 A2
theorem in_none {r : Option (InL × Nat)} {w w' : World} (hr : r = none) (hb : Below w.heap.size w w') : InPost r w (.returned (.tuple #[.agg zIn, .int .i64 0])) w' := by
  subst hr; exact ⟨hb, rfl⟩
theorem in_some {r : Option (InL × Nat)} {w w' : World} {x : InL} {k : Nat} (hr : r = some (x, k)) (h1 : x.args = []) (h2 : x.cites = []) (hb : Below w.heap.size w w') {v : Value} {n : Int} (hv : v = .agg (inC x none 0 none 0)) (hn : n = k) : InPost r w (.returned (.tuple #[v, .int .i64 n])) w' := by
  subst hr; subst hv; subst hn
  exact ⟨hb, none, 0, none, 0, rfl, InR.plain _ _ _ _ _ h1 h2⟩
theorem blk10 {W : World} {g : Nat} {T : TypeId} {x0 x1 x2 x3 x4 x5 x6 x7 x8 x9 : Value} (h : Blk W g T #[x0, x1, x2, x3, x4, x5, x6, x7, x8, x9]) (y0 y1 y2 y3 y4 y5 y6 y7 y8 y9 : Value) : Blk ((((((((((W.setCell ⟨g, 0, none⟩ y0).setCell ⟨g, 1, none⟩ y1).setCell ⟨g, 2, none⟩ y2).setCell ⟨g, 3, none⟩ y3).setCell ⟨g, 4, none⟩ y4).setCell ⟨g, 5, none⟩ y5).setCell ⟨g, 6, none⟩ y6).setCell ⟨g, 7, none⟩ y7).setCell ⟨g, 8, none⟩ y8).setCell ⟨g, 9, none⟩ y9) g T #[y0, y1, y2, y3, y4, y5, y6, y7, y8, y9] := by
  have h0 := h.set_ 0 y0
  rw [show (#[x0, x1, x2, x3, x4, x5, x6, x7, x8, x9] : Array Value).setIfInBounds 0 y0 = #[y0, x1, x2, x3, x4, x5, x6, x7, x8, x9] from rfl] at h0
  have h1 := h0.set_ 1 y1
  rw [show (#[y0, x1, x2, x3, x4, x5, x6, x7, x8, x9] : Array Value).setIfInBounds 1 y1 = #[y0, y1, x2, x3, x4, x5, x6, x7, x8, x9] from rfl] at h1
  have h2 := h1.set_ 2 y2
  rw [show (#[y0, y1, x2, x3, x4, x5, x6, x7, x8, x9] : Array Value).setIfInBounds 2 y2 = #[y0, y1, y2, x3, x4, x5, x6, x7, x8, x9] from rfl] at h2
  have h3 := h2.set_ 3 y3
  rw [show (#[y0, y1, y2, x3, x4, x5, x6, x7, x8, x9] : Array Value).setIfInBounds 3 y3 = #[y0, y1, y2, y3, x4, x5, x6, x7, x8, x9] from rfl] at h3
  have h4 := h3.set_ 4 y4
  rw [show (#[y0, y1, y2, y3, x4, x5, x6, x7, x8, x9] : Array Value).setIfInBounds 4 y4 = #[y0, y1, y2, y3, y4, x5, x6, x7, x8, x9] from rfl] at h4
  have h5 := h4.set_ 5 y5
  rw [show (#[y0, y1, y2, y3, y4, x5, x6, x7, x8, x9] : Array Value).setIfInBounds 5 y5 = #[y0, y1, y2, y3, y4, y5, x6, x7, x8, x9] from rfl] at h5
  have h6 := h5.set_ 6 y6
  rw [show (#[y0, y1, y2, y3, y4, y5, x6, x7, x8, x9] : Array Value).setIfInBounds 6 y6 = #[y0, y1, y2, y3, y4, y5, y6, x7, x8, x9] from rfl] at h6
  have h7 := h6.set_ 7 y7
  rw [show (#[y0, y1, y2, y3, y4, y5, y6, x7, x8, x9] : Array Value).setIfInBounds 7 y7 = #[y0, y1, y2, y3, y4, y5, y6, y7, x8, x9] from rfl] at h7
  have h8 := h7.set_ 8 y8
  rw [show (#[y0, y1, y2, y3, y4, y5, y6, y7, x8, x9] : Array Value).setIfInBounds 8 y8 = #[y0, y1, y2, y3, y4, y5, y6, y7, y8, x9] from rfl] at h8
  have h9 := h8.set_ 9 y9
  rw [show (#[y0, y1, y2, y3, y4, y5, y6, y7, y8, x9] : Array Value).setIfInBounds 9 y9 = #[y0, y1, y2, y3, y4, y5, y6, y7, y8, y9] from rfl] at h9
  exact h9
theorem below10 {B : Nat} {w W : World} (h : Below B w W) {g : Nat} (hg : B ≤ g) (y0 y1 y2 y3 y4 y5 y6 y7 y8 y9 : Value) : Below B w ((((((((((W.setCell ⟨g, 0, none⟩ y0).setCell ⟨g, 1, none⟩ y1).setCell ⟨g, 2, none⟩ y2).setCell ⟨g, 3, none⟩ y3).setCell ⟨g, 4, none⟩ y4).setCell ⟨g, 5, none⟩ y5).setCell ⟨g, 6, none⟩ y6).setCell ⟨g, 7, none⟩ y7).setCell ⟨g, 8, none⟩ y8).setCell ⟨g, 9, none⟩ y9) :=
  ((((((((((h.setCell (p := ⟨g, 0, none⟩) hg y0).setCell (p := ⟨g, 1, none⟩) hg y1).setCell (p := ⟨g, 2, none⟩) hg y2).setCell (p := ⟨g, 3, none⟩) hg y3).setCell (p := ⟨g, 4, none⟩) hg y4).setCell (p := ⟨g, 5, none⟩) hg y5).setCell (p := ⟨g, 6, none⟩) hg y6).setCell (p := ⟨g, 7, none⟩) hg y7).setCell (p := ⟨g, 8, none⟩) hg y8).setCell (p := ⟨g, 9, none⟩) hg y9)
theorem in_facts {W : World} {g : Nat} {T : TypeId} {x0 x1 x2 x3 x4 x5 x6 x7 x8 x9 : Value} (h : Blk W g T #[x0, x1, x2, x3, x4, x5, x6, x7, x8, x9]) : W.cell? ⟨g, 0, none⟩ = some x0 ∧ W.cell? ⟨g, 1, none⟩ = some x1 ∧ W.cell? ⟨g, 2, none⟩ = some x2 ∧ W.cell? ⟨g, 3, none⟩ = some x3 ∧ W.cell? ⟨g, 4, none⟩ = some x4 ∧ W.cell? ⟨g, 5, none⟩ = some x5 ∧ W.cell? ⟨g, 6, none⟩ = some x6 ∧ W.cell? ⟨g, 7, none⟩ = some x7 ∧ W.cell? ⟨g, 8, none⟩ = some x8 ∧ W.cell? ⟨g, 9, none⟩ = some x9 ∧ W.frozen? ⟨g, 0, none⟩ = false ∧ W.frozen? ⟨g, 1, none⟩ = false ∧ W.frozen? ⟨g, 2, none⟩ = false ∧ W.frozen? ⟨g, 3, none⟩ = false ∧ W.frozen? ⟨g, 4, none⟩ = false ∧ W.frozen? ⟨g, 5, none⟩ = false ∧ W.frozen? ⟨g, 6, none⟩ = false ∧ W.frozen? ⟨g, 7, none⟩ = false ∧ W.frozen? ⟨g, 8, none⟩ = false ∧ W.frozen? ⟨g, 9, none⟩ = false :=
  ⟨h.cell 0, h.cell 1, h.cell 2, h.cell 3, h.cell 4, h.cell 5, h.cell 6, h.cell 7, h.cell 8, h.cell 9, h.frozen 0, h.frozen 1, h.frozen 2, h.frozen 3, h.frozen 4, h.frozen 5, h.frozen 6, h.frozen 7, h.frozen 8, h.frozen 9⟩
/-- A reader hands back the inline in its block and a number. -/
theorem in_ret {F : Func} {a b : Nat} {W : World} {g : Nat} {x0 x1 x2 x3 x4 x5 x6 x7 x8 x9 : Value} {u : Value} {P : Ending → World → Prop} {act : Act} (hF : F.results = #[ResultVar.cell a 34, ResultVar.tmp b]) (hr : Blk W g 34 #[x0, x1, x2, x3, x4, x5, x6, x7, x8, x9]) (h4 : act.tmps.getD a undef = .pointer (some ⟨g, 0, none⟩)) (h5 : act.tmps.getD b undef = u) (hd : act.defers = []) (hP : P (.returned (.tuple #[.agg #[x0, x1, x2, x3, x4, x5, x6, x7, x8, x9], u])) W) : bodyPost Tryz.prog F P Exit.ret act W := by
  obtain ⟨c0, c1, c2, c3, c4, c5, c6, c7, c8, c9, _⟩ := in_facts hr
  refine bodyPost_ret (v := .tuple #[.agg #[x0, x1, x2, x3, x4, x5, x6, x7, x8, x9], u]) ?_ hd hP
  rw [Array.getD_eq_getD_getElem?] at h4 h5
  simp [results, hF, go_sem, h4, h5, c0, c1, c2, c3, c4, c5, c6, c7, c8, c9]
set_option maxRecDepth 100000 in
set_option maxHeartbeats 1000000 in
theorem s_skip (s : ByteArray) (i : Nat) (w : World) (hs : s.size ≤ 1000000) : Calls Tryz.prog 74 #[.string s, .int .i64 i] w fun e w' => e = .returned (.int .i64 (spAt s i)) ∧ w = w' := by
  have HW : Hid (spEnd s (s.size - i) i = spAt s i) := Lib.hid rfl
  generalize spAt s i = R at *
  go_enter Tryz.func74, Tryz.ntmps74
  go_wp2_with fail
  go_loop [1] (fun v => ∃ k f : Nat, v = .int .i64 k ∧ Hid (spEnd s f k = R) ∧ s.size - k ≤ f) (fun v => s.size - (intOf v).toNat)
  case atStart => exact ⟨i, s.size - i, rfl, HW, Nat.le_refl _⟩
  case round =>
    obtain ⟨k, f, rfl, HR, hf⟩ := hrel
    by_cases hk : k < s.size
    · have hst := Lib.hid (spEnd_step s f k hk)
      have hsp := Lib.hid (spEnd_stop s f k)
      have hg := get_bt s k hk
      by_cases h : bt s k = 32
      · have z : (((bt s k : Nat) : Int) == 32) = true := by rw [h]; rfl
        have HH := Lib.hid h
        clear h
        go_wp2_with fail
        go_round
        case rel => exact ⟨k + 1, f - 1, by go_num, Lib.hid (by rw [← HR.out, hst.out HH.out hf]), by omega⟩
        case measure => simp [intOf]; omega
      · have z : (((bt s k : Nat) : Int) == 32) = false := beq_eq_false_iff_ne.2 (by omega)
        have HH := Lib.hid h
        clear h
        go_wp2_with fail
        go_ret
        exact ⟨ret_int (by rw [← HR.out, hsp.out (fun c => HH.out c.2)]), rfl⟩
    · have hsp := Lib.hid (spEnd_stop s f k (by omega))
      go_wp2_with fail
      go_ret
      exact ⟨ret_int (by rw [← HR.out, hsp.out]), rfl⟩

set_option maxRecDepth 100000 in
set_option maxHeartbeats 2000000 in
theorem s_nameEnd (s : ByteArray) (i : Nat) (w : World) (hs : s.size ≤ 1000000) : Calls Tryz.prog 64 #[.string s, .int .i64 i] w fun e w' => e = .returned (.int .i64 (wordAt s i)) ∧ w = w' := by
  have HW : Hid (wEnd s (s.size - i) i = wordAt s i) := Lib.hid rfl
  generalize wordAt s i = R at *
  go_enter Tryz.func64, Tryz.ntmps64
  go_wp2_with fail
  go_loop [1] (fun v => ∃ k f : Nat, v = .int .i64 k ∧ Hid (wEnd s f k = R) ∧ s.size - k ≤ f) (fun v => s.size - (intOf v).toNat)
  case atStart => exact ⟨i, s.size - i, rfl, HW, Nat.le_refl _⟩
  case round =>
    obtain ⟨k, f, rfl, HR, hf⟩ := hrel
    by_cases hk : k < s.size
    · have hst := Lib.hid (wEnd_step s f k hk)
      have hsp := Lib.hid (wEnd_stop s f k)
      have hg := get_bt s k hk
      have hb := bt_lt s k
      generalize bt s k = b at *
      have HP : Hid (partN b = (letterN b || digitB b || b == 45 || b == 95 || b == 46 || b == 58)) := Lib.hid (by
        unfold partN digitB
        congr 5
        rw [Bool.eq_iff_iff]; simp; omega)
      have HD := Lib.hid fun W => digit_any b W
      have HDB : Hid (digitB b = (decide (48 ≤ b) && decide (b ≤ 57))) := Lib.hid (by unfold digitB; rw [Bool.eq_iff_iff]; simp; omega)
      generalize digitB b = d at *
      generalize hP : partN b = p at *
      by_cases hL : letterN b = true
      · have HT : Hid (p = true) := Lib.hid (by rw [HP.out, hL]; rfl)
        have hR : (97 ≤ b ∧ b ≤ 122) ∨ (¬ 97 ≤ b ∧ 65 ≤ b ∧ b ≤ 90) := by unfold letterN at hL; simp at hL; omega
        clear hL hP HP
        rcases hR with ⟨a1, a2⟩ | ⟨a1, a2, a3⟩
        all_goals
          go_wp2_with fail
          go_round
          case rel => exact ⟨k + 1, f - 1, by go_num, Lib.hid (by rw [← HR.out, hst.out HT.out hf]), by omega⟩
          case measure => simp [intOf]; omega
      · have hR : (97 ≤ b ∧ ¬ b ≤ 122) ∨ (¬ 97 ≤ b ∧ 65 ≤ b ∧ ¬ b ≤ 90) ∨ (¬ 97 ≤ b ∧ ¬ 65 ≤ b) := by unfold letterN at hL; simp at hL; omega
        have hL' : letterN b = false := by simpa using hL
        cases d
        · by_cases hx : b = 45 ∨ b = 95 ∨ b = 46 ∨ b = 58
          · have HT : Hid (p = true) := Lib.hid (by rw [HP.out, hL']; rcases hx with rfl | rfl | rfl | rfl <;> rfl)
            clear hL hL' hP HP hR HDB
            rcases hx with rfl | rfl | rfl | rfl
            all_goals
              go_wp2_with fail
              refine (HD.out _).mono ?_
              rintro e w1 ⟨rfl, rfl⟩
              go_wp2_with fail
              go_round
              case rel => exact ⟨k + 1, f - 1, by go_num, Lib.hid (by rw [← HR.out, hst.out HT.out hf]), by omega⟩
              case measure => simp [intOf]; omega
          · have n1 : ((b : Int) != 45) = true := bne_iff_ne.2 (by omega)
            have n2 : ((b : Int) != 95) = true := bne_iff_ne.2 (by omega)
            have n3 : ((b : Int) != 46) = true := bne_iff_ne.2 (by omega)
            have n4 : ((b : Int) != 58) = true := bne_iff_ne.2 (by omega)
            have HT : Hid (p = false) := Lib.hid (by
              rw [HP.out, hL']
              have e1 : (b == 45) = false := beq_eq_false_iff_ne.2 (by omega)
              have e2 : (b == 95) = false := beq_eq_false_iff_ne.2 (by omega)
              have e3 : (b == 46) = false := beq_eq_false_iff_ne.2 (by omega)
              have e4 : (b == 58) = false := beq_eq_false_iff_ne.2 (by omega)
              rw [e1, e2, e3, e4]; rfl)
            clear hL hL' hP HP hx HDB
            have Y : ∃ q0 q1 q2 q3 : Bool, decide (97 ≤ (b : Int)) = q0 ∧ decide ((b : Int) ≤ 122) = q1 ∧ decide (65 ≤ (b : Int)) = q2 ∧ decide ((b : Int) ≤ 90) = q3 ∧ ((q0 = true ∧ q1 = false ∧ q2 = true ∧ q3 = false) ∨ (q0 = false ∧ q1 = true ∧ q2 = true ∧ q3 = false) ∨ (q0 = false ∧ q1 = true ∧ q2 = false ∧ q3 = true)) := by
              refine ⟨_, _, _, _, rfl, rfl, rfl, rfl, ?_⟩
              simp only [decide_eq_true_eq, decide_eq_false_iff_not]; omega
            obtain ⟨q0, q1, q2, q3, y0, y1, y2, y3, hq⟩ := Y
            clear hR
            rcases hq with ⟨rfl, rfl, rfl, rfl⟩ | ⟨rfl, rfl, rfl, rfl⟩ | ⟨rfl, rfl, rfl, rfl⟩
            all_goals
              go_wp2_with fail
              ((with_reducible refine (HD.out _).mono ?_))
              rintro e w1 ⟨rfl, rfl⟩
              go_wp2_with fail
              go_ret
              exact ⟨ret_int (by rw [← HR.out, hsp.out (fun c => Bool.false_ne_true (HT.out.symm.trans c.2))]), rfl⟩
        · have HT : Hid (p = true) := Lib.hid (by rw [HP.out, hL']; simp)
          have h57 : 48 ≤ b ∧ b ≤ 57 := by have := HDB.out; simpa using this.symm
          clear hL hL' hP HP hR HDB
          go_wp2_with fail
          ((with_reducible refine (HD.out _).mono ?_))
          rintro e w1 ⟨rfl, rfl⟩
          go_wp2_with fail
          go_round
          case rel => exact ⟨k + 1, f - 1, by go_num, Lib.hid (by rw [← HR.out, hst.out HT.out hf]), by omega⟩
          case measure => simp [intOf]; omega
    · have hsp := Lib.hid (wEnd_stop s f k (by omega))
      go_wp2_with fail
      go_ret
      exact ⟨ret_int (by rw [← HR.out, hsp.out]), rfl⟩

set_option maxRecDepth 100000 in
set_option maxHeartbeats 1000000 in
theorem s_runEnd (s : ByteArray) (i : Nat) (w : World) (hs : s.size ≤ 1000000) (hi : i < s.size) : Calls Tryz.prog 71 #[.string s, .int .i64 i] w fun e w' => e = .returned (.int .i64 (runE s i)) ∧ Below w.heap.size w w' := by
  have HE := Lib.hid fun n h h1 h2 => runF_eq s (fun b => b == bt s i) i n h h1 h2
  have HR : Hid (runE s i = i + runF s i fun b => b == bt s i) := Lib.hid rfl
  generalize runE s i = R at *
  have hgi := get_bt s i hi
  generalize bt s i = c at *
  go_enter Tryz.func71, Tryz.ntmps71
  go_wp2_with fail
  go_loopw [5] (fun v wr => ∃ k : Nat, v = .int .i64 k ∧ i ≤ k ∧ k ≤ s.size ∧ Hid (∀ j, i ≤ j → j < k → bt s j = c) ∧ Below w.heap.size w wr) (fun v _ => s.size - (intOf v).toNat)
  case atStart => exact ⟨i, rfl, Nat.le_refl _, by omega, Lib.hid (fun j h1 h2 => by omega), Below.refl _ _⟩
  case round =>
    obtain ⟨k, rfl, hik, hk, Hj, hbw⟩ := hrel
    by_cases hl : k < s.size
    · have hg := get_bt s k hl
      by_cases h : bt s k = c
      · have HJ2 : Hid (∀ j, i ≤ j → j < k + 1 → bt s j = c) := Lib.hid fun j h1 h2 => by
          by_cases e : j = k
          · subst e; exact h
          · exact Hj.out j h1 (by omega)
        rw [h] at hg
        have z : ((c : Int) == (c : Int)) = true := by simp
        clear h
        go_wp2_with fail
        go_quiet (fail)
        have hb2 := Lib.hid (below_drewN hbw nq)
        generalize wr.drewN nq = W2 at *
        go_wp2_with fail
        go_roundw
        case rel => exact ⟨k + 1, by go_num, by omega, by omega, HJ2, hb2.out⟩
        case measure => simp [intOf]; omega
      · have z : (((bt s k : Nat) : Int) == (c : Int)) = false := beq_eq_false_iff_ne.2 (by omega)
        have HH := Lib.hid h
        clear h
        have HF : Hid (R = k) := Lib.hid (by
          rw [HR.out, HE.out (k - i) (by omega) (fun j h1 h2 => by rw [beq_iff_eq]; exact Hj.out j h1 (by omega)) (fun h => by rw [show i + (k - i) = k by omega, beq_eq_false_iff_ne]; exact HH.out)]; omega)
        go_wp2_with fail
        go_quiet (fail)
        go_wp2_with fail
        go_ret
        exact ⟨ret_int (by rw [HF.out]), below_drewN hbw _⟩
    · have HF : Hid (R = k) := Lib.hid (by
        rw [HR.out, HE.out (k - i) (by omega) (fun j h1 h2 => by rw [beq_iff_eq]; exact Hj.out j h1 (by omega)) (fun h => by omega)]; omega)
      go_wp2_with fail
      go_quiet (fail)
      go_wp2_with fail
      go_ret
      exact ⟨ret_int (by rw [HF.out]), below_drewN hbw _⟩

end Go.Proofs.YtcjkgmfidkgamaaGreatDoor
namespace Go.Proofs.YtcjkgmfidkgamaaGreatDoor
open Go.RowKit Go.Pub
set_option maxRecDepth 100000 in
set_option maxHeartbeats 2000000 in
theorem s_back (s : ByteArray) (i : Nat) (w : World) (hs : s.size ≤ 1000000) (hi : i < s.size) : Calls Tryz.prog 73 #[.string s, .int .i64 i] w (InPost (escI s i) w) := by
  have HS := Lib.hid fun W => s_skip s (i + 2) W hs
  have HP := Lib.hid fun W => punct_any (bt s (i + 1)) W
  obtain ⟨R, hR⟩ : ∃ R, R = escI s i := ⟨_, rfl⟩
  rw [← hR]
  unfold escI at hR
  have HR := Lib.hid hR
  clear hR
  by_cases h1 : i + 1 < s.size
  · have hg := get_bt s (i + 1) h1
    generalize spAt s (i + 2) = E at *
    have hx : ∃ X, X = s.extract (i + 1) (i + 2) := ⟨_, rfl⟩
    rw [if_pos h1] at HR
    generalize inB (bt s (i + 1) : Int) punctL = q at *
    generalize bt s (i + 1) = b at *
    by_cases h10 : b = 10
    · have z : ((b : Int) == 10) = true := by rw [h10]; rfl
      have HQ : Hid (R = some ({ kind := 3 }, E)) := Lib.hid (by rw [HR.out, if_pos h10])
      clear HR h10
      go_enter Tryz.func73, Tryz.ntmps73
      go_wp2_with fail
      (refine (HS.out _).mono ?_)
      rintro e w1 ⟨rfl, rfl⟩
      go_wp2_with fail
      exact in_ret Tryz.results73 (Blk.new w _ _) rfl rfl rfl (in_some HQ.out rfl rfl ((Below.refl _ w).alloc (Nat.le_refl _) _) rfl rfl)
    · have z : ((b : Int) == 10) = false := beq_eq_false_iff_ne.2 (by omega)
      rw [if_neg h10] at HR
      clear h10
      by_cases h128 : b < 128
      · have d : decide ((b : Int) < 128) = true := decide_eq_true (by omega)
        cases q
        · have HQ : Hid (R = none) := Lib.hid (by rw [HR.out, if_neg (by simp)])
          clear HR
          go_enter Tryz.func73, Tryz.ntmps73
          go_wp2_with fail
          (refine (HP.out _).mono ?_)
          rintro e w1 ⟨rfl, rfl⟩
          go_wp2_with fail
          exact in_ret Tryz.results73 (Blk.new w _ _) rfl rfl rfl (in_none HQ.out ((Below.refl _ w).alloc (Nat.le_refl _) _))
        · have HQ : Hid (R = some (spn 1 (s.extract (i + 1) (i + 2)), i + 2)) := Lib.hid (by rw [HR.out, if_pos (by simp [h128])])
          clear HR
          go_enter Tryz.func73, Tryz.ntmps73
          go_wp2_with fail
          (refine (HP.out _).mono ?_)
          rintro e w1 ⟨rfl, rfl⟩
          go_wp2_with fail
          exact in_ret Tryz.results73 (Blk.new w _ _) rfl rfl rfl (in_some HQ.out rfl rfl ((Below.refl _ w).alloc (Nat.le_refl _) _) rfl (by omega))
      · have d : decide ((b : Int) < 128) = false := decide_eq_false (by omega)
        have HQ : Hid (R = none) := Lib.hid (by rw [HR.out, if_neg (by simp [h128])])
        clear HR
        go_enter Tryz.func73, Tryz.ntmps73
        go_wp2_with fail
        exact in_ret Tryz.results73 (Blk.new w _ _) rfl rfl rfl (in_none HQ.out ((Below.refl _ w).alloc (Nat.le_refl _) _))
  · have HQ : Hid (R = none) := Lib.hid (by rw [HR.out, if_neg h1])
    clear HR
    go_enter Tryz.func73, Tryz.ntmps73
    go_wp2_with fail
    exact in_ret Tryz.results73 (Blk.new w _ _) rfl rfl rfl (in_none HQ.out ((Below.refl _ w).alloc (Nat.le_refl _) _))

end Go.Proofs.YtcjkgmfidkgamaaGreatDoor
