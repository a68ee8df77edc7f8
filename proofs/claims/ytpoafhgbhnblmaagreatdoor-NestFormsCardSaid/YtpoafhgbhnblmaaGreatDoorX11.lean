/-
  Texts of the proof, put together (what this law reaches): AttrG, AttrH, MkA, AttrI, MkC.
-/
import Derived.Test.YtpoafhgbhnblmaaGreatDoorX08
import Derived.RegionTactic
import Derived.Outline
import Derived.Test.YtpoafhgbhnblmaaGreatDoorX12
import Derived.Test.YtpoafhgbhnblmaaGreatDoorX09
set_option linter.unusedVariables false
set_option linter.unusedSimpArgs false
namespace Go.Pub
open Go.RowKit
def spEnd (s : ByteArray) : Nat → Nat → Nat
  | 0, i => i
  | f + 1, i => if i < s.size ∧ bt s i = 32 then spEnd s f (i + 1) else i
def spAt (s : ByteArray) (i : Nat) : Nat := spEnd s (s.size - i) i
theorem spEnd_step (s : ByteArray) (f i : Nat) (h : i < s.size) (hp : bt s i = 32) (hf : s.size - i ≤ f) : spEnd s f i = spEnd s (f - 1) (i + 1) := by
  obtain ⟨g, rfl⟩ : ∃ g, f = g + 1 := ⟨f - 1, by omega⟩
  simp [spEnd, h, hp]
theorem spEnd_stop (s : ByteArray) (f i : Nat) (h : ¬ (i < s.size ∧ bt s i = 32)) : spEnd s f i = i := by
  cases f with
  | zero => rfl
  | succ f => simp only [spEnd]; rw [if_neg h]
theorem spEnd_bd (s : ByteArray) : ∀ f i, i ≤ spEnd s f i ∧ (i ≤ s.size → spEnd s f i ≤ s.size)
  | 0, i => ⟨Nat.le_refl _, fun h => h⟩
  | f + 1, i => by
    unfold spEnd
    split
    · rename_i h
      have := spEnd_bd s f (i + 1)
      exact ⟨by omega, fun _ => this.2 (by omega)⟩
    · exact ⟨Nat.le_refl _, fun h => h⟩
def cellNat (w : World) (g : Nat) : Nat := (intOf ((w.cell? ⟨g, 0, none⟩).getD undef)).toNat
theorem cellNat_of {w : World} {g : Nat} {t : TypeId} {i : Int} (h : Blk w g t #[.int .i64 i]) : cellNat w g = i.toNat := by
  unfold cellNat
  rw [h.cell 0]; rfl
theorem only_refl (w : World) (r : Option Nat) : w.grownBy w r := ⟨rfl, rfl, rfl, Nat.le_refl _, fun _ _ _ => rfl⟩
theorem only_store {a w : World} {g : Nat} (h : a.grownBy w (some g)) (i : Nat) (u : Value) : a.grownBy (w.setCell ⟨g, i, none⟩ u) (some g) :=
  ⟨h.os, h.tape, h.output, by simpa [World.setCell] using h.size, fun k hk hne => (Below.heap_setCell w _ u k (by rintro rfl; exact hne rfl)).trans (h.block k hk hne)⟩
end Go.Pub
namespace Go.Proofs.YtpoafhgbhnblmaaGreatDoor
open Go.RowKit Go.Pub
/-- Spaces are passed over: the place in block g has moved. -/
def SpPost (s : ByteArray) (k g : Nat) (w : World) (e : Ending) (w' : World) : Prop :=
  e = .returned (.bool (decide (k < spAt s k))) ∧ Blk w' g 3 #[.int .i64 (spAt s k)] ∧ w.grownBy w' (some g)
set_option maxRecDepth 100000 in
set_option maxHeartbeats 1000000 in
theorem spaces_any (w : World) (s : ByteArray) (k gs ga : Nat) (hs : s.size ≤ 1000000) (h1 : Blk w gs 9 #[.string s]) (h2 : Blk w ga 3 #[.int .i64 k]) (hne : gs ≠ ga) (hk : k ≤ s.size) :
    Calls Tryz.prog 202 #[.pointer (some ⟨ga, 0, none⟩), .pointer (some ⟨gs, 0, none⟩)] w (SpPost s k ga w) := by
  have HW : Hid (spEnd s (s.size - k) k = spAt s k) := Lib.hid rfl
  have HP : Hid (∀ e w', e = .returned (.bool (decide (k < spAt s k))) ∧ Blk w' ga 3 #[.int .i64 (spAt s k)] ∧ w.grownBy w' (some ga) → SpPost s k ga w e w') := Lib.hid fun e w' h => h
  have H1 := Lib.hid h1
  have H2 := Lib.hid h2
  have hc1 : w.cell? ⟨gs, 0, none⟩ = some (.string s) := h1.cell 0
  have hc2 : w.cell? ⟨ga, 0, none⟩ = some (.int .i64 k) := h2.cell 0
  clear h1 h2
  generalize spAt s k = R at *
  go_enter Tryz.func202, Tryz.ntmps202
  go_wp2
  clear hc1 hc2
  go_loopw [5] (fun _ wr => ∃ i f : Nat, Hid (Blk wr gs 9 #[.string s]) ∧ Hid (Blk wr ga 3 #[.int .i64 i]) ∧ Hid (w.grownBy wr (some ga)) ∧ Hid (spEnd s f i = R) ∧ s.size - i ≤ f ∧ k ≤ i ∧ i ≤ s.size) (fun _ wr => s.size - (cellNat wr ga))
  case atStart => exact ⟨k, s.size - k, H1, H2, Lib.hid (only_refl _ _), HW, Nat.le_refl _, Nat.le_refl _, hk⟩
  case round =>
    obtain ⟨i, f, K1, K2, K3, K4, hf, hki, his⟩ := hrel
    have hc1 : wr.cell? ⟨gs, 0, none⟩ = some (.string s) := K1.out.cell 0
    have hc2 : wr.cell? ⟨ga, 0, none⟩ = some (.int .i64 i) := K2.out.cell 0
    have hf2 := K2.out.frozen 0
    by_cases hi : i < s.size
    · have hlt : ((s[i].toNat : Nat) : Int) < 256 := by rw [get_bt s i hi]; have := bt_lt s i; omega
      by_cases hb : bt s i = 32
      · have z1 : (((s[i].toNat : Nat) : Int) == 32) = true := by rw [get_bt s i hi, hb]; rfl
        have hst := Lib.hid (spEnd_step s f i hi hb hf)
        clear hb
        go_wp2
        go_roundw
        case rel =>
          refine ⟨i + 1, f - 1, Lib.hid (K1.out.far (by omega) _), Lib.hid ?_, Lib.hid (only_store K3.out _ _), Lib.hid (by rw [← K4.out, hst.out]), by omega, by omega, by omega⟩
          have := K2.out.set_ 0 (.int .i64 ((i : Int) + 1))
          simpa using this
        case measure =>
          have e1 := cellNat_of K2.out
          have e2 : cellNat (wr.setCell ⟨ga, 0, none⟩ (.int .i64 ((i : Int) + 1))) ga = ((i : Int) + 1).toNat := cellNat_of (t := 3) (by have := K2.out.set_ 0 (.int .i64 ((i : Int) + 1)); simpa using this)
          rw [e1, e2]; omega
      · have z1 : (((s[i].toNat : Nat) : Int) == 32) = false := by rw [get_bt s i hi, beq_eq_false_iff_ne]; omega
        have hR : Hid (R = i) := Lib.hid (by rw [← K4.out, spEnd_stop s f i (fun h => hb h.2)])
        clear hb
        go_wp2
        go_ret
        refine HP.out _ _ ⟨?_, ?_, K3.out⟩
        · rw [hR.out]
          refine ret_bool ?_
          rw [Bool.eq_iff_iff]; try simp
        · rw [hR.out]; exact K2.out
    · have hR : Hid (R = i) := Lib.hid (by rw [← K4.out, spEnd_stop s f i (fun h => hi h.1)])
      go_wp2
      go_ret
      refine HP.out _ _ ⟨?_, ?_, K3.out⟩
      · rw [hR.out]
        refine ret_bool ?_
        rw [Bool.eq_iff_iff]; try simp
      · rw [hR.out]; exact K2.out

/-- An item is read: block g holds the attributes, block ga the place. -/
def ClosPost (r : Nat × Nat × AttrL) (g ga base : Nat) (w : World) (e : Ending) (w' : World) : Prop :=
  e = .returned (.int .i64 r.2.1) ∧ ∃ w1, w' = w1.setCell ⟨ga, 0, none⟩ (.int .i64 r.1) ∧ AttrAt w1 g base r.2.2 ∧ BelowBut g base w w1
set_option maxRecDepth 100000 in
set_option maxHeartbeats 1000000 in
theorem item_clos (w : World) (s : ByteArray) (k g gs ga base : Nat) (a : AttrL) (hs : s.size ≤ 1000000) (h1 : Blk w gs 9 #[.string s]) (h2 : Blk w ga 3 #[.int .i64 k]) (h : AttrAt w g base a)
    (hne : ga ≠ g) (hga : ga < base) (hk : k < s.size) :
    Calls Tryz.prog 203 #[.pointer (some ⟨g, 0, none⟩), .pointer (some ⟨gs, 0, none⟩), .pointer (some ⟨ga, 0, none⟩)] w (ClosPost (itemL a s k) g ga base w) := by
  have HR := Lib.hid (readItem_any w g base a s k h hs hk)
  have H2 := Lib.hid h2
  have hc1 : w.cell? ⟨gs, 0, none⟩ = some (.string s) := h1.cell 0
  have hc2 : w.cell? ⟨ga, 0, none⟩ = some (.int .i64 k) := h2.cell 0
  clear h1 h2 h
  generalize itemL a s k = T at *
  go_enter Tryz.func203, Tryz.ntmps203
  go_wp2_with fail
  ((with_reducible refine HR.out.mono ?_))
  rintro e w1 ⟨rfl, hA, hb⟩
  have hB := hb.blk H2.out hga hne
  have hc3 : w1.cell? ⟨ga, 0, none⟩ = some (.int .i64 k) := hB.cell 0
  have hf3 := hB.frozen 0
  go_wp2_with fail
  go_ret
  exact ⟨rfl, w1, rfl, hA, hb⟩

end Go.Proofs.YtpoafhgbhnblmaaGreatDoor
namespace Go.Proofs.YtpoafhgbhnblmaaGreatDoor
open Go.RowKit Go.Pub
def emptyA : AttrL := ⟨⟨#[]⟩, [], []⟩
def parseF (s : ByteArray) : Nat → Nat → Bool → AttrL → AttrL × Nat × Nat
  | 0, _, _, _ => (emptyA, 0, 5)
  | f + 1, i, sep, a =>
    if i < s.size then
      (if bt s i = 125 then (a, i + 1, 0)
       else if sep = false then (emptyA, 0, 5)
       else if (itemL a s i).2.1 = 0 then parseF s f (spAt s (itemL a s i).1) (decide ((itemL a s i).1 < spAt s (itemL a s i).1)) (itemL a s i).2.2
       else (emptyA, 0, (itemL a s i).2.1))
    else (emptyA, 0, 5)
/-- What Parse gives: the attributes, the place behind them, the error. -/
def parseL (s : ByteArray) (i : Int) : AttrL × Nat × Nat :=
  if 0 ≤ i ∧ i < s.size ∧ bt s i.toNat = 123 then parseF s (s.size + 1) (spAt s (i.toNat + 1)) true emptyA else (emptyA, 0, 5)
structure AttrVal (w : World) (base : Nat) (v : Value) (a : AttrL) : Prop where
  val : ∃ vC vP, v = .agg #[.string a.id, vC, vP] ∧ w.ownsRow base 9 1 vC a.cl.length (strs a.cl) ∧ w.ownsRow base 81 2 vP a.pr.length (prs a.pr)
  c32 : a.cl.length ≤ 32
  p32 : a.pr.length ≤ 32
def ParsePost (r : AttrL × Nat × Nat) (w : World) (e : Ending) (w' : World) : Prop :=
  ∃ v, e = .returned (.tuple #[v, .int .i64 r.2.1, .int .i64 r.2.2]) ∧ AttrVal w' w.heap.size v r.1 ∧ Below w.heap.size w w'
/-- What stands in memory at the head of Parse's loop. -/
structure PInv (s : ByteArray) (w : World) (k : Nat) (a : AttrL) (wr : World) : Prop where
  str : Blk wr w.heap.size 9 #[.string s]
  res : Blk wr (w.heap.size + 1) 43 #[.string ⟨#[]⟩, .slice none 0 0, .slice none 0 0]
  plc : Blk wr (w.heap.size + 1 + 1 + 1) 3 #[.int .i64 k]
  att : AttrAt wr (w.heap.size + 1 + 1) (w.heap.size + 1 + 1 + 1 + 1) a
  bel : Below w.heap.size w wr
theorem pinv_start (s : ByteArray) (w : World) (n : Nat) : PInv s w (n + 1) emptyA ((((w.alloc (.cells #[.string s] 9)).alloc (.cells #[.string ⟨#[]⟩, .slice none 0 0, .slice none 0 0] 43)).alloc (.cells #[.string ⟨#[]⟩, .slice none 0 0, .slice none 0 0] 43)).alloc (.cells #[.int .i64 ((n : Int) + 1)] 3)) := by
  refine ⟨(((Blk.new _ _ _).alloc _).alloc _).alloc _, ?_, ?_, ⟨.slice none 0 0, .slice none 0 0, ?_, World.ownsRow_nil _ _ _ _, World.ownsRow_nil _ _ _ _, by omega, by simp, by decide, by decide⟩, ?_⟩
  · have := ((Blk.new (w.alloc (.cells #[.string s] 9)) 43 #[.string ⟨#[]⟩, .slice none 0 0, .slice none 0 0]).alloc (.cells #[.string ⟨#[]⟩, .slice none 0 0, .slice none 0 0] 43)).alloc (.cells #[.int .i64 ((n : Int) + 1)] 3)
    simpa using this
  · have := Blk.new (((w.alloc (.cells #[.string s] 9)).alloc (.cells #[.string ⟨#[]⟩, .slice none 0 0, .slice none 0 0] 43)).alloc (.cells #[.string ⟨#[]⟩, .slice none 0 0, .slice none 0 0] 43)) 3 #[.int .i64 ((n : Int) + 1)]
    rw [nat_succ]
    simpa using this
  · have := (Blk.new ((w.alloc (.cells #[.string s] 9)).alloc (.cells #[.string ⟨#[]⟩, .slice none 0 0, .slice none 0 0] 43)) 43 #[.string ⟨#[]⟩, .slice none 0 0, .slice none 0 0]).alloc (.cells #[.int .i64 ((n : Int) + 1)] 3)
    show Blk _ _ _ #[.string ⟨#[]⟩, .slice none 0 0, .slice none 0 0]
    simpa using this
  · exact ((((Below.refl _ _).alloc (Nat.le_refl _) _).alloc (by simp) _).alloc (by simp; omega) _).alloc (by simp; omega) _
theorem own_only {w w' : World} {base size n g : Nat} {e : TypeId} {v : Value} {xs : List Value} (h : w.ownsRow base e size v n xs) (hg : w.grownBy w' (some g)) (hlt : g < base) : w'.ownsRow base e size v n xs :=
  h.kept hg (by
    cases hv : v.ownBlock with
    | none => exact Or.inl rfl
    | some b =>
      right
      intro e0
      have := (h.lt b hv).1
      injection e0 with e0
      omega)
theorem pinv_spaces {s : ByteArray} {w wr w1 : World} {k k1 : Nat} {a : AttrL} (h : PInv s w k a wr) (hb : Blk w1 (w.heap.size + 1 + 1 + 1) 3 #[.int .i64 k1]) (hg : wr.grownBy w1 (some (w.heap.size + 1 + 1 + 1))) : PInv s w k1 a w1 := by
  obtain ⟨vC, vP, hA⟩ := h.att
  refine ⟨h.str.grown hg (by simp; omega), h.res.grown hg (by simp), hb, ⟨vC, vP, hA.blk.grown hg (by simp), own_only hA.cls hg (by omega), own_only hA.prs hg (by omega), hA.lt, Nat.le_trans hA.le hg.size, hA.c32, hA.p32⟩, ?_⟩
  exact h.bel.grown hg h.bel.size (fun k hk => by injection hk with hk; omega)
theorem pinv_item {s : ByteArray} {w wr w1 : World} {k k1 : Nat} {a a1 : AttrL} (h : PInv s w k a wr) (hA : AttrAt w1 (w.heap.size + 1 + 1) (w.heap.size + 1 + 1 + 1 + 1) a1) (hg : BelowBut (w.heap.size + 1 + 1) (w.heap.size + 1 + 1 + 1 + 1) wr w1) :
    PInv s w k1 a1 (w1.setCell ⟨w.heap.size + 1 + 1 + 1, 0, none⟩ (.int .i64 k1)) := by
  obtain ⟨vC, vP, hA⟩ := hA
  refine ⟨(hg.blk h.str (by omega) (by omega)).far (by simp; omega) _, (hg.blk h.res (by omega) (by omega)).far (by simp) _, ?_, ⟨vC, vP, hA.blk.far (by simp) _, ownsRow_setCell_below hA.cls (by simp) _, ownsRow_setCell_below hA.prs (by simp) _, hA.lt, by simpa [World.setCell] using hA.le, hA.c32, hA.p32⟩, ?_⟩
  · have := (hg.blk h.plc (by omega) (by omega)).set_ 0 (.int .i64 k1)
    simpa using this
  · exact (h.bel.trans (hg.below (by omega) (by omega))).setCell (by simp; omega) _
theorem parseF_end (s : ByteArray) (f k : Nat) (b : Bool) (a : AttrL) (h : ¬ k < s.size) : parseF s f k b a = (emptyA, 0, 5) := by
  cases f with
  | zero => rfl
  | succ f => unfold parseF; rw [if_neg h]
theorem parseF_close (s : ByteArray) (f k : Nat) (b : Bool) (a : AttrL) (h : k < s.size) (hf : s.size < k + f) (hb : bt s k = 125) : parseF s f k b a = (a, k + 1, 0) := by
  obtain ⟨g, rfl⟩ : ∃ g, f = g + 1 := ⟨f - 1, by omega⟩
  unfold parseF; rw [if_pos h, if_pos hb]
theorem parseF_tight (s : ByteArray) (f k : Nat) (a : AttrL) (h : k < s.size) (hb : bt s k ≠ 125) : parseF s f k false a = (emptyA, 0, 5) := by
  cases f with
  | zero => rfl
  | succ f => unfold parseF; rw [if_pos h, if_neg hb, if_pos rfl]
theorem parseF_bad (s : ByteArray) (f k : Nat) (a : AttrL) (h : k < s.size) (hf : s.size < k + f) (hb : bt s k ≠ 125) (he : (itemL a s k).2.1 ≠ 0) : parseF s f k true a = (emptyA, 0, (itemL a s k).2.1) := by
  obtain ⟨g, rfl⟩ : ∃ g, f = g + 1 := ⟨f - 1, by omega⟩
  unfold parseF; rw [if_pos h, if_neg hb, if_neg (by decide), if_neg he]
theorem parseF_next (s : ByteArray) (f k : Nat) (a : AttrL) (h : k < s.size) (hf : s.size < k + f) (hb : bt s k ≠ 125) (he : (itemL a s k).2.1 = 0) : parseF s f k true a = parseF s (f - 1) (spAt s (itemL a s k).1) (decide ((itemL a s k).1 < spAt s (itemL a s k).1)) (itemL a s k).2.2 := by
  obtain ⟨g, rfl⟩ : ∃ g, f = g + 1 := ⟨f - 1, by omega⟩
  rw [Nat.add_sub_cancel, parseF, if_pos h, if_neg hb, if_neg (by decide), if_pos he]
theorem pinv_fail {s : ByteArray} {w wr : World} {k : Nat} {a : AttrL} (h : PInv s w k a wr) :
    Blk (((wr.setCell ⟨w.heap.size + 1, 0, none⟩ (.string ⟨#[]⟩)).setCell ⟨w.heap.size + 1, 1, none⟩ (.slice none 0 0)).setCell ⟨w.heap.size + 1, 2, none⟩ (.slice none 0 0)) (w.heap.size + 1) 43 #[.string ⟨#[]⟩, .slice none 0 0, .slice none 0 0] ∧
    AttrVal (((wr.setCell ⟨w.heap.size + 1, 0, none⟩ (.string ⟨#[]⟩)).setCell ⟨w.heap.size + 1, 1, none⟩ (.slice none 0 0)).setCell ⟨w.heap.size + 1, 2, none⟩ (.slice none 0 0)) w.heap.size (.agg #[.string ⟨#[]⟩, .slice none 0 0, .slice none 0 0]) emptyA ∧
    Below w.heap.size w (((wr.setCell ⟨w.heap.size + 1, 0, none⟩ (.string ⟨#[]⟩)).setCell ⟨w.heap.size + 1, 1, none⟩ (.slice none 0 0)).setCell ⟨w.heap.size + 1, 2, none⟩ (.slice none 0 0)) := by
  refine ⟨?_, ⟨⟨_, _, rfl, World.ownsRow_nil _ _ _ _, World.ownsRow_nil _ _ _ _⟩, by decide, by decide⟩, ((h.bel.setCell (by simp) _).setCell (by simp) _).setCell (by simp) _⟩
  have := ((h.res.set_ 0 (.string ⟨#[]⟩)).set_ 1 (.slice none 0 0)).set_ 2 (.slice none 0 0)
  simpa using this
theorem own_baseA {w : World} {base base' size n : Nat} {e : TypeId} {v : Value} {xs : List Value} (h : w.ownsRow base e size v n xs) (hb : base' ≤ base) : w.ownsRow base' e size v n xs := by
  obtain ⟨h1, h2⟩ := h
  refine ⟨h1, ?_⟩
  rcases h2 with h2 | ⟨g, cap, cur, hv, hg, r⟩
  · exact Or.inl h2
  · exact Or.inr ⟨g, cap, cur, hv, by omega, r⟩
theorem pinv_done {s : ByteArray} {w wr : World} {k : Nat} {a : AttrL} {vC vP : Value} (h : PInv s w k a wr) (hA : AttrCells wr (w.heap.size + 1 + 1) (w.heap.size + 1 + 1 + 1 + 1) a vC vP) :
    Blk (((wr.setCell ⟨w.heap.size + 1, 0, none⟩ (.string a.id)).setCell ⟨w.heap.size + 1, 1, none⟩ vC).setCell ⟨w.heap.size + 1, 2, none⟩ vP).drew (w.heap.size + 1) 43 #[.string a.id, vC, vP] ∧
    AttrVal (((wr.setCell ⟨w.heap.size + 1, 0, none⟩ (.string a.id)).setCell ⟨w.heap.size + 1, 1, none⟩ vC).setCell ⟨w.heap.size + 1, 2, none⟩ vP).drew w.heap.size (.agg #[.string a.id, vC, vP]) a ∧
    Below w.heap.size w (((wr.setCell ⟨w.heap.size + 1, 0, none⟩ (.string a.id)).setCell ⟨w.heap.size + 1, 1, none⟩ vC).setCell ⟨w.heap.size + 1, 2, none⟩ vP).drew := by
  refine ⟨?_, ⟨⟨_, _, rfl, ?_, ?_⟩, hA.c32, hA.p32⟩, (((h.bel.setCell (by simp) _).setCell (by simp) _).setCell (by simp) _).drew⟩
  · have := ((h.res.set_ 0 (.string a.id)).set_ 1 vC).set_ 2 vP
    simp at this
    exact this
  · exact own_baseA (ownsRow_setCell_below (ownsRow_setCell_below (ownsRow_setCell_below hA.cls (by simp) _) (by simp) _) (by simp) _) (by omega)
  · exact own_baseA (ownsRow_setCell_below (ownsRow_setCell_below (ownsRow_setCell_below hA.prs (by simp) _) (by simp) _) (by simp) _) (by omega)
theorem nameAt_pos (s : ByteArray) (i : Nat) (hi : i ≤ s.size) (h : nameB (nameAt s i) = true) : i < wordAt s i ∧ wordAt s i ≤ s.size := by
  have hwb := wEnd_bd s (s.size - i) i
  have hw1 : i ≤ wordAt s i := hwb.1
  have hw2 : wordAt s i ≤ s.size := hwb.2 hi
  unfold nameB at h
  simp only [Bool.and_eq_true, decide_eq_true_eq] at h
  have := h.1.1.1
  unfold nameAt at this
  rw [extract_size s i _ hw1 hw2] at this
  exact ⟨by omega, hw2⟩
theorem valL_bd (s : ByteArray) (i : Nat) (hi : i ≤ s.size) (h : (valL s i).2.2 = true) : i ≤ (valL s i).2.1 ∧ (valL s i).2.1 ≤ s.size := by
  unfold valL at h ⊢
  by_cases c : i < s.size ∧ bt s i = 34
  · rw [if_pos c] at h ⊢
    cases hq : qv s s.size (i + 1) [] with
    | none => rw [hq] at h; cases h
    | some p =>
      obtain ⟨l, j⟩ := p
      have := qv_len s _ _ _ l j hq
      show i ≤ j ∧ j ≤ s.size
      omega
  · rw [if_neg c] at h ⊢
    have hwb := wEnd_bd s (s.size - i) i
    exact ⟨hwb.1, hwb.2 hi⟩
theorem itemL_bd (a : AttrL) (s : ByteArray) (i : Nat) (hi : i < s.size) (he : (itemL a s i).2.1 = 0) : i < (itemL a s i).1 ∧ (itemL a s i).1 ≤ s.size := by
  unfold itemL at he ⊢
  by_cases c1 : bt s i = 35
  · rw [if_pos c1] at he ⊢
    by_cases c2 : nameB (nameAt s (i + 1)) = true
    · rw [if_pos c2] at he ⊢
      have := nameAt_pos s (i + 1) (by omega) c2
      by_cases c3 : a.id = ⟨#[]⟩
      · rw [if_pos c3]; exact ⟨by show i < wordAt s (i + 1); omega, this.2⟩
      · rw [if_neg c3] at he; cases he
    · rw [if_neg c2] at he; cases he
  · rw [if_neg c1] at he ⊢
    by_cases c4 : bt s i = 46
    · rw [if_pos c4] at he ⊢
      by_cases c2 : nameB (nameAt s (i + 1)) = true
      · rw [if_pos c2]
        have := nameAt_pos s (i + 1) (by omega) c2
        exact ⟨by show i < wordAt s (i + 1); omega, this.2⟩
      · rw [if_neg c2] at he; cases he
    · rw [if_neg c4] at he ⊢
      by_cases c2 : nameB (nameAt s i) = true
      · rw [if_pos c2] at he ⊢
        have hn := nameAt_pos s i (by omega) c2
        unfold pairItem at he ⊢
        by_cases c5 : wordAt s i < s.size ∧ bt s (wordAt s i) = 61
        · rw [if_pos c5] at he ⊢
          by_cases c6 : (valL s (wordAt s i + 1)).2.2 = true
          · rw [if_pos c6]
            have := valL_bd s (wordAt s i + 1) (by omega) c6
            exact ⟨by show i < (valL s (wordAt s i + 1)).2.1; omega, this.2⟩
          · rw [if_neg c6] at he; cases he
        · rw [if_neg c5] at he; cases he
      · rw [if_neg c2] at he; cases he
theorem parse_ret {W : World} {g : Nat} {x y z a5 a6 : Value} {P : Ending → World → Prop} {act : Act} (hr : Blk W g 43 #[x, y, z]) (h4 : act.tmps.getD 4 undef = .pointer (some ⟨g, 0, none⟩))
    (h5 : act.tmps.getD 5 undef = a5) (h6 : act.tmps.getD 6 undef = a6) (hd : act.defers = []) (hP : P (.returned (.tuple #[.agg #[x, y, z], a5, a6])) W) : bodyPost Tryz.prog Tryz.f148 P Exit.ret act W := by
  have c0 : W.cell? ⟨g, 0, none⟩ = some x := hr.cell 0
  have c1 : W.cell? ⟨g, 1, none⟩ = some y := hr.cell 1
  have c2 : W.cell? ⟨g, 2, none⟩ = some z := hr.cell 2
  refine bodyPost_ret (v := .tuple #[.agg #[x, y, z], a5, a6]) ?_ hd hP
  rw [Array.getD_eq_getD_getElem?] at h4 h5 h6
  simp [results, Tryz.results148, go_sem, h4, h5, h6, c0, c1, c2]
set_option maxRecDepth 100000 in
set_option maxHeartbeats 2000000 in
theorem parse_in (w : World) (s : ByteArray) (n : Nat) (hs : s.size ≤ 1000000) (hn : n < s.size) (hb : bt s n = 123) :
    Calls Tryz.prog 148 #[.string s, .int .i64 n] w (ParsePost (parseF s (s.size + 1) (spAt s (n + 1)) true emptyA) w) := by
  have hlt : ((s[n].toNat : Nat) : Int) < 256 := by rw [get_bt s n hn]; have := bt_lt s n; omega
  have z1 : (((s[n].toNat : Nat) : Int) != 123) = false := by rw [get_bt s n hn, hb]; rfl
  have d1 : decide (s.size ≤ n) = false := decide_eq_false (by omega)
  clear hb
  have HS := Lib.hid (pinv_start s w n)
  have hsb := spEnd_bd s (s.size - (n + 1)) (n + 1)
  have hsb1 : n + 1 ≤ spAt s (n + 1) := hsb.1
  have hsb2 : spAt s (n + 1) ≤ s.size := hsb.2 (by omega)
  clear hsb
  generalize hR : parseF s (s.size + 1) (spAt s (n + 1)) true emptyA = R at *
  have HR := Lib.hid hR
  clear hR
  go_enter Tryz.func148, Tryz.ntmps148
  go_wp2_with fail
  refine (spaces_any _ s (n + 1) w.heap.size (w.heap.size + 1 + 1 + 1) hs HS.out.str HS.out.plc (by omega) (by omega)).mono ?_
  rintro e w1 ⟨rfl, hk1, hg1⟩
  have HP := Lib.hid (pinv_spaces HS.out hk1 hg1)
  clear hk1 hg1
  go_wp2_with fail
  go_loopw [11] (fun sep wr => ∃ (k f : Nat) (b : Bool) (a : AttrL), sep = .bool b ∧ Hid (PInv s w k a wr) ∧ Hid (parseF s f k b a = R) ∧ s.size < k + f ∧ k ≤ s.size) (fun _ wr => s.size - cellNat wr (w.heap.size + 1 + 1 + 1))
  case atStart => exact ⟨spAt s (n + 1), s.size + 1, true, emptyA, rfl, HP, HR, by omega, hsb2⟩
  case round =>
    obtain ⟨k, f, b, a, rfl, KP, KR, hkf, hks⟩ := hrel
    have c1 : wr.cell? ⟨w.heap.size, 0, none⟩ = some (.string s) := KP.out.str.cell 0
    have c2 : wr.cell? ⟨w.heap.size + 1 + 1 + 1, 0, none⟩ = some (.int .i64 k) := KP.out.plc.cell 0
    have r0 : wr.cell? ⟨w.heap.size + 1, 0, none⟩ = some (.string ⟨#[]⟩) := KP.out.res.cell 0
    have r1 : wr.cell? ⟨w.heap.size + 1, 1, none⟩ = some (.slice none 0 0) := KP.out.res.cell 1
    have r2 : wr.cell? ⟨w.heap.size + 1, 2, none⟩ = some (.slice none 0 0) := KP.out.res.cell 2
    have q0 := KP.out.res.frozen 0
    have q1 := KP.out.res.frozen 1
    have q2 := KP.out.res.frozen 2
    by_cases hk : k < s.size
    · have hlk : ((s[k].toNat : Nat) : Int) < 256 := by rw [get_bt s k hk]; have := bt_lt s k; omega
      have dk : decide (s.size ≤ k) = false := decide_eq_false (by omega)
      by_cases h125 : bt s k = 125
      · have z2 : (((s[k].toNat : Nat) : Int) == 125) = true := by rw [get_bt s k hk, h125]; rfl
        have hT : Hid (R = (a, k + 1, 0)) := Lib.hid (by rw [← KR.out, parseF_close s f k b a hk hkf h125])
        obtain ⟨vC, vP, hA⟩ := KP.out.att
        have KA := Lib.hid hA
        have a0 : wr.cell? ⟨w.heap.size + 1 + 1, 0, none⟩ = some (.string a.id) := hA.blk.cell 0
        have a1 : wr.cell? ⟨w.heap.size + 1 + 1, 1, none⟩ = some vC := hA.blk.cell 1
        have a2 : wr.cell? ⟨w.heap.size + 1 + 1, 2, none⟩ = some vP := hA.blk.cell 2
        obtain ⟨AC, cC, rfl⟩ := own_slice hA.cls
        obtain ⟨AP, cP, rfl⟩ := own_slice hA.prs
        clear h125 hA
        have hfin := Lib.hid (pinv_done KP.out KA.out)
        go_wp2
        go_region
        go_wp2
        refine parse_ret hfin.out.1 rfl rfl rfl rfl ?_
        rw [hT.out]
        exact ⟨_, rfl, hfin.out.2.1, hfin.out.2.2⟩
      · have z2 : (((s[k].toNat : Nat) : Int) == 125) = false := by rw [get_bt s k hk, beq_eq_false_iff_ne]; omega
        cases b
        · have hT : Hid (R = (emptyA, 0, 5)) := Lib.hid (by rw [← KR.out, parseF_tight s f k a hk h125])
          have hfin := Lib.hid (pinv_fail KP.out)
          clear h125
          go_wp2
          refine parse_ret hfin.out.1 rfl rfl rfl rfl ?_
          rw [hT.out]
          exact ⟨_, rfl, hfin.out.2.1, hfin.out.2.2⟩
        · have HI := Lib.hid (item_clos wr s k (w.heap.size + 1 + 1) w.heap.size (w.heap.size + 1 + 1 + 1) (w.heap.size + 1 + 1 + 1 + 1) a hs KP.out.str KP.out.plc KP.out.att (by omega) (by omega) hk)
          have hbd := Lib.hid (itemL_bd a s k hk)
          have hbad := Lib.hid (parseF_bad s f k a hk hkf h125)
          have hnxt := Lib.hid (parseF_next s f k a hk hkf h125)
          clear h125
          generalize itemL a s k = T at *
          obtain ⟨t, en, a1⟩ := T
          by_cases he : en = 0
          · obtain ⟨hb1, hb2⟩ := hbd.out he
            have hN := Lib.hid (hnxt.out he)
            clear hnxt hbad
            subst he
            have hsp := spEnd_bd s (s.size - t) t
            have hsp1 : t ≤ spAt s t := hsp.1
            have hsp2 : spAt s t ≤ s.size := hsp.2 hb2
            clear hsp
            go_wp2_with fail
            ((with_reducible refine HI.out.mono ?_))
            rintro e w2 ⟨rfl, w3, rfl, hA3, hb3⟩
            have KP2 := Lib.hid (pinv_item (k1 := t) KP.out hA3 hb3)
            go_wp2_with fail
            refine (spaces_any _ s t w.heap.size (w.heap.size + 1 + 1 + 1) hs KP2.out.str KP2.out.plc (by omega) hb2).mono ?_
            rintro e w4 ⟨rfl, hk4, hg4⟩
            have KP4 := Lib.hid (pinv_spaces KP2.out hk4 hg4)
            go_wp2
            go_roundw
            case rel => exact ⟨spAt s t, f - 1, decide (t < spAt s t), a1, rfl, KP4, Lib.hid (by rw [← KR.out, hN.out]), by omega, hsp2⟩
            case measure =>
              rw [cellNat_of KP.out.plc, cellNat_of KP4.out.plc]; omega
          · have hT : Hid (R = (emptyA, 0, en)) := Lib.hid (by rw [← KR.out, hbad.out he])
            have z3 : ((en : Int) != 0) = true := by simp; exact he
            clear hnxt hbad hbd
            go_wp2_with fail
            ((with_reducible refine HI.out.mono ?_))
            rintro e w2 ⟨rfl, w3, rfl, hA3, hb3⟩
            have KP2 := Lib.hid (pinv_item (k1 := t) KP.out hA3 hb3)
            have r0 := KP2.out.res.cell 0
            have r1 := KP2.out.res.cell 1
            have r2 := KP2.out.res.cell 2
            simp at r0 r1 r2
            have q0 := KP2.out.res.frozen 0
            have q1 := KP2.out.res.frozen 1
            have q2 := KP2.out.res.frozen 2
            have hfin := Lib.hid (pinv_fail KP2.out)
            go_wp2
            refine parse_ret hfin.out.1 rfl rfl rfl rfl ?_
            rw [hT.out]
            exact ⟨_, rfl, hfin.out.2.1, hfin.out.2.2⟩
    · have hT : Hid (R = (emptyA, 0, 5)) := Lib.hid (by rw [← KR.out, parseF_end s f k b a hk])
      have hfin := Lib.hid (pinv_fail KP.out)
      go_wp2
      refine parse_ret hfin.out.1 rfl rfl rfl rfl ?_
      rw [hT.out]
      exact ⟨_, rfl, hfin.out.2.1, hfin.out.2.2⟩

/-- The world of Parse where it fails at once. -/
def failW (w : World) (s : ByteArray) : World := ((w.alloc (.cells #[.string s] 9)).alloc (.cells #[.string ⟨#[]⟩, .slice none 0 0, .slice none 0 0] 43))
theorem failW_ok (w : World) (s : ByteArray) : Blk (failW w s) (w.heap.size + 1) 43 #[.string ⟨#[]⟩, .slice none 0 0, .slice none 0 0] ∧ AttrVal (failW w s) w.heap.size (.agg #[.string ⟨#[]⟩, .slice none 0 0, .slice none 0 0]) emptyA ∧ Below w.heap.size w (failW w s) := by
  refine ⟨?_, ⟨⟨_, _, rfl, World.ownsRow_nil _ _ _ _, World.ownsRow_nil _ _ _ _⟩, by decide, by decide⟩, ((Below.refl _ _).alloc (Nat.le_refl _) _).alloc (by simp) _⟩
  have := Blk.new (w.alloc (.cells #[.string s] 9)) 43 #[.string ⟨#[]⟩, .slice none 0 0, .slice none 0 0]
  simp at this
  exact this
set_option maxRecDepth 100000 in
set_option maxHeartbeats 2000000 in
theorem parse_out (w : World) (s : ByteArray) (i : Int) (hs : s.size ≤ 1000000) (h : i < 0 ∨ (0 ≤ i ∧ (s.size : Int) ≤ i) ∨ (∃ n : Nat, i = n ∧ n < s.size ∧ bt s n ≠ 123)) :
    Calls Tryz.prog 148 #[.string s, .int .i64 i] w (ParsePost (emptyA, 0, 5) w) := by
  have hfin := Lib.hid (failW_ok w s)
  rcases h with h | ⟨h0, h⟩ | ⟨n, rfl, hn, hb⟩
  · have d0 : decide (i < 0) = true := decide_eq_true h
    go_enter Tryz.func148, Tryz.ntmps148
    go_wp2
    refine parse_ret hfin.out.1 rfl rfl rfl rfl ?_
    exact ⟨_, rfl, hfin.out.2.1, hfin.out.2.2⟩
  · have d0 : decide (i < 0) = false := decide_eq_false (by omega)
    have d1 : decide ((s.size : Int) ≤ i) = true := decide_eq_true h
    go_enter Tryz.func148, Tryz.ntmps148
    go_wp2
    refine parse_ret hfin.out.1 rfl rfl rfl rfl ?_
    exact ⟨_, rfl, hfin.out.2.1, hfin.out.2.2⟩
  · have hlt : ((s[n].toNat : Nat) : Int) < 256 := by rw [get_bt s n hn]; have := bt_lt s n; omega
    have z1 : (((s[n].toNat : Nat) : Int) != 123) = true := by rw [get_bt s n hn]; simp; omega
    have d1 : decide (s.size ≤ n) = false := decide_eq_false (by omega)
    clear hb
    go_enter Tryz.func148, Tryz.ntmps148
    go_wp2
    refine parse_ret hfin.out.1 rfl rfl rfl rfl ?_
    exact ⟨_, rfl, hfin.out.2.1, hfin.out.2.2⟩

theorem parse_any (w : World) (s : ByteArray) (i : Int) (hs : s.size ≤ 1000000) : Calls Tryz.prog 148 #[.string s, .int .i64 i] w (ParsePost (parseL s i) w) := by
  unfold parseL
  by_cases h : 0 ≤ i ∧ i < s.size ∧ bt s i.toNat = 123
  · rw [if_pos h]
    obtain ⟨n, rfl⟩ : ∃ n : Nat, i = n := ⟨i.toNat, by omega⟩
    exact parse_in w s n hs (by omega) h.2.2
  · rw [if_neg h]
    refine parse_out w s i hs ?_
    by_cases h0 : i < 0
    · exact Or.inl h0
    · by_cases h1 : (s.size : Int) ≤ i
      · exact Or.inr (Or.inl ⟨by omega, h1⟩)
      · refine Or.inr (Or.inr ⟨i.toNat, by omega, by omega, fun hb => h ⟨by omega, by omega, hb⟩⟩)
end Go.Proofs.YtpoafhgbhnblmaaGreatDoor
namespace Go.Pub
/-- The n bytes from i on of s are those from i' on of s'. -/
def Agr (s : ByteArray) (i : Nat) (s' : ByteArray) (i' n : Nat) : Prop := ∃ p r r', sfx s i = p ++ r ∧ sfx s' i' = p ++ r' ∧ p.length = n
section
variable {s s' : ByteArray} {i i' n : Nat}
theorem sfx_add (s : ByteArray) (i j : Nat) : sfx s (i + j) = (sfx s i).drop j := by unfold sfx; rw [List.drop_drop]
theorem Agr.tail (h : Agr s i s' i' n) {j : Nat} (hj : j ≤ n) : Agr s (i + j) s' (i' + j) (n - j) := by
  obtain ⟨p, r, r', h1, h2, h3⟩ := h
  refine ⟨p.drop j, r, r', ?_, ?_, by rw [List.length_drop]; omega⟩
  · rw [sfx_add, h1, List.drop_append_of_le_length (by omega)]
  · rw [sfx_add, h2, List.drop_append_of_le_length (by omega)]
theorem Agr.at (h : Agr s i s' i' n) {j : Nat} (hj : j < n) : i + j < s.size ∧ i' + j < s'.size ∧ s.get! (i + j) = s'.get! (i' + j) := by
  obtain ⟨p, r, r', h1, h2, h3⟩ := h.tail (Nat.le_of_lt hj)
  cases p with
  | nil => simp at h3; omega
  | cons c p =>
    have l1 : i + j < s.size := by have := congrArg List.length h1; rw [sfx_len, List.length_append, List.length_cons] at this; omega
    have l2 : i' + j < s'.size := by have := congrArg List.length h2; rw [sfx_len, List.length_append, List.length_cons] at this; omega
    rw [sfx_cons s _ l1] at h1
    rw [sfx_cons s' _ l2] at h2
    injection h1 with h1 _
    injection h2 with h2 _
    exact ⟨l1, l2, h1.trans h2.symm⟩
theorem Agr.btq (h : Agr s i s' i' n) {j : Nat} (hj : j < n) : bt s (i + j) = bt s' (i' + j) := by
  have := (h.at hj).2.2
  unfold bt; rw [this]
theorem Agr.subq (h : Agr s i s' i' n) {a e : Nat} (he : e ≤ n) : sub s (i + a) (i + e) = sub s' (i' + a) (i' + e) := by
  obtain ⟨p, r, r', h1, h2, h3⟩ := h
  have key : ∀ (s : ByteArray) (i : Nat) (r : List UInt8), sfx s i = p ++ r → sub s (i + a) (i + e) = (p.drop a).take (e - a) := fun s i r h => by
    have e1 : sub s (i + a) (i + e) = (sfx s (i + a)).take (e - a) := by
      unfold sub sfx; congr 1; omega
    rw [e1, sfx_add, h]
    rcases Nat.lt_or_ge a p.length with hl | hl
    · rw [List.drop_append_of_le_length (by omega), List.take_append_of_le_length (by rw [List.length_drop]; omega)]
    · have : e - a = 0 := by omega
      rw [this]; simp
  rw [key s i r h1, key s' i' r' h2]
theorem Agr.ext (h : Agr s i s' i' n) {a e : Nat} (he : e ≤ n) : s.extract (i + a) (i + e) = s'.extract (i' + a) (i' + e) := by
  rw [← mk_bytesL (s.extract _ _), ← mk_bytesL (s'.extract _ _), bytesL_sub, bytesL_sub, h.subq he]
end
/-- Where a word ends, said outright. -/
theorem wEnd_eq (s : ByteArray) : ∀ (f k e : Nat), k ≤ e → e ≤ s.size → e ≤ k + f → (∀ j, k ≤ j → j < e → partN (bt s j) = true) → ¬ (e < s.size ∧ partN (bt s e) = true) → wEnd s f k = e
  | f, k, e, h1, hs, h2, h3, h4 => by
    by_cases hke : k = e
    · subst hke; exact wEnd_stop s f k h4
    · obtain ⟨g, rfl⟩ : ∃ g, f = g + 1 := ⟨f - 1, by omega⟩
      have hp := h3 k (Nat.le_refl _) (by omega)
      show (if k < s.size ∧ partN (bt s k) = true then wEnd s g (k + 1) else k) = e
      rw [if_pos ⟨by omega, hp⟩]
      exact wEnd_eq s g (k + 1) e (by omega) hs (by omega) (fun j hj hl => h3 j (by omega) hl) h4
  termination_by f => f
theorem wordAt_eq (s : ByteArray) (k e : Nat) (h1 : k ≤ e) (hs : e ≤ s.size) (h3 : ∀ j, k ≤ j → j < e → partN (bt s j) = true) (h4 : ¬ (e < s.size ∧ partN (bt s e) = true)) : wordAt s k = e :=
  wEnd_eq s _ k e h1 hs (by omega) h3 h4
theorem wEnd_spec (s : ByteArray) : ∀ (f k : Nat), s.size ≤ k + f → (∀ j, k ≤ j → j < wEnd s f k → partN (bt s j) = true) ∧ ¬ (wEnd s f k < s.size ∧ partN (bt s (wEnd s f k)) = true)
  | 0, k, h => ⟨fun j h1 h2 => by simp only [wEnd] at h2; omega, fun h2 => by simp only [wEnd] at h2; omega⟩
  | f + 1, k, h => by
    by_cases hk : k < s.size ∧ partN (bt s k) = true
    · have e : wEnd s (f + 1) k = wEnd s f (k + 1) := by simp only [wEnd]; rw [if_pos hk]
      rw [e]
      obtain ⟨h1, h2⟩ := wEnd_spec s f (k + 1) (by omega)
      refine ⟨fun j hj hl => ?_, h2⟩
      by_cases hjk : j = k
      · subst hjk; exact hk.2
      · exact h1 j (by omega) hl
    · have e : wEnd s (f + 1) k = k := wEnd_stop s _ k hk
      rw [e]
      exact ⟨fun j hj hl => by omega, hk⟩
theorem wordAt_spec (s : ByteArray) (k : Nat) (hk : k ≤ s.size) : (∀ j, k ≤ j → j < wordAt s k → partN (bt s j) = true) ∧ ¬ (wordAt s k < s.size ∧ partN (bt s (wordAt s k)) = true) :=
  wEnd_spec s (s.size - k) k (by omega)
theorem wordAt_bd (s : ByteArray) (k : Nat) : k ≤ wordAt s k ∧ (k ≤ s.size → wordAt s k ≤ s.size) := wEnd_bd s _ k
theorem spEnd_eq (s : ByteArray) : ∀ (f k e : Nat), k ≤ e → e ≤ s.size → e ≤ k + f → (∀ j, k ≤ j → j < e → bt s j = 32) → ¬ (e < s.size ∧ bt s e = 32) → spEnd s f k = e
  | f, k, e, h1, hs, h2, h3, h4 => by
    by_cases hke : k = e
    · subst hke; exact spEnd_stop s f k h4
    · obtain ⟨g, rfl⟩ : ∃ g, f = g + 1 := ⟨f - 1, by omega⟩
      have hp := h3 k (Nat.le_refl _) (by omega)
      show (if k < s.size ∧ bt s k = 32 then spEnd s g (k + 1) else k) = e
      rw [if_pos ⟨by omega, hp⟩]
      exact spEnd_eq s g (k + 1) e (by omega) hs (by omega) (fun j hj hl => h3 j (by omega) hl) h4
  termination_by f => f
theorem spAt_eq (s : ByteArray) (k e : Nat) (h1 : k ≤ e) (hs : e ≤ s.size) (h3 : ∀ j, k ≤ j → j < e → bt s j = 32) (h4 : ¬ (e < s.size ∧ bt s e = 32)) : spAt s k = e :=
  spEnd_eq s _ k e h1 hs (by omega) h3 h4
theorem spEnd_spec (s : ByteArray) : ∀ (f k : Nat), s.size ≤ k + f → (∀ j, k ≤ j → j < spEnd s f k → bt s j = 32) ∧ ¬ (spEnd s f k < s.size ∧ bt s (spEnd s f k) = 32)
  | 0, k, h => ⟨fun j h1 h2 => by simp only [spEnd] at h2; omega, fun h2 => by simp only [spEnd] at h2; omega⟩
  | f + 1, k, h => by
    by_cases hk : k < s.size ∧ bt s k = 32
    · have e : spEnd s (f + 1) k = spEnd s f (k + 1) := by simp only [spEnd]; rw [if_pos hk]
      rw [e]
      obtain ⟨h1, h2⟩ := spEnd_spec s f (k + 1) (by omega)
      refine ⟨fun j hj hl => ?_, h2⟩
      by_cases hjk : j = k
      · subst hjk; exact hk.2
      · exact h1 j (by omega) hl
    · have e : spEnd s (f + 1) k = k := spEnd_stop s _ k hk
      rw [e]
      exact ⟨fun j hj hl => by omega, hk⟩
theorem spAt_spec (s : ByteArray) (k : Nat) : (∀ j, k ≤ j → j < spAt s k → bt s j = 32) ∧ ¬ (spAt s k < s.size ∧ bt s (spAt s k) = 32) := by
  unfold spAt
  rcases Nat.lt_or_ge s.size k with h | h
  · have : s.size - k = 0 := by omega
    rw [this]
    exact ⟨fun j h1 h2 => by simp only [spEnd] at h2; omega, fun h2 => by simp only [spEnd] at h2; omega⟩
  · exact spEnd_spec s (s.size - k) k (by omega)
theorem spAt_bd (s : ByteArray) (k : Nat) : k ≤ spAt s k ∧ (k ≤ s.size → spAt s k ≤ s.size) := spEnd_bd s _ k
section
variable {s s' : ByteArray} {i i' n : Nat}
theorem Agr.word (h : Agr s i s' i' n) {a e : Nat} (ha : wordAt s (i + a) = i + e) (he : e < n) : wordAt s' (i' + a) = i' + e := by
  have hb := (wordAt_bd s (i + a)).1
  rw [ha] at hb
  have h0 := (h.at he).1
  obtain ⟨h1, h2⟩ := wordAt_spec s (i + a) (by omega)
  rw [ha] at h1 h2
  refine wordAt_eq s' _ _ (by omega) (by have := (h.at he).2.1; omega) (fun j hj hl => ?_) (fun hh => ?_)
  · obtain ⟨d, rfl⟩ : ∃ d, j = i' + d := ⟨j - i', by omega⟩
    rw [← h.btq (by omega)]
    exact h1 _ (by omega) (by omega)
  · rw [← h.btq he] at hh
    exact h2 ⟨h0, hh.2⟩
theorem Agr.spaces (h : Agr s i s' i' n) {a e : Nat} (ha : spAt s (i + a) = i + e) (he : e < n) : spAt s' (i' + a) = i' + e := by
  have hb := (spAt_bd s (i + a)).1
  rw [ha] at hb
  have h0 := (h.at he).1
  obtain ⟨h1, h2⟩ := spAt_spec s (i + a)
  rw [ha] at h1 h2
  refine spAt_eq s' _ _ (by omega) (by have := (h.at he).2.1; omega) (fun j hj hl => ?_) (fun hh => ?_)
  · obtain ⟨d, rfl⟩ : ∃ d, j = i' + d := ⟨j - i', by omega⟩
    rw [← h.btq (by omega)]
    exact h1 _ (by omega) (by omega)
  · rw [← h.btq he] at hh
    exact h2 ⟨h0, hh.2⟩
theorem Agr.quoted (h : Agr s i s' i' n) : ∀ (f f' a : Nat) (acc l : List UInt8) (e : Nat), qv s f (i + a) acc = some (l, i + e) → e ≤ n → s'.size ≤ i' + a + f' → qv s' f' (i' + a) acc = some (l, i' + e)
  | 0, f', a, acc, l, e, hq, he, hf => by simp [qv] at hq
  | f + 1, f', a, acc, l, e, hq, he, hf => by
    have hb := qv_len s _ _ _ _ _ hq
    obtain ⟨l1, l2, hg⟩ := h.at (j := a) (by omega)
    have hbt := h.btq (j := a) (by omega)
    obtain ⟨g, rfl⟩ : ∃ g, f' = g + 1 := ⟨f' - 1, by omega⟩
    unfold qv at hq ⊢
    rw [if_pos l1] at hq
    rw [if_pos l2, ← hbt]
    by_cases c1 : bt s (i + a) = 34
    · rw [if_pos c1] at hq ⊢
      injection hq with hq
      injection hq with q1 q2
      subst q1
      rw [show i' + a + 1 = i' + e by omega]
    · rw [if_neg c1] at hq ⊢
      by_cases c2 : bt s (i + a) = 92
      · rw [if_pos c2] at hq ⊢
        split at hq
        · rename_i hc
          have hb2 := qv_len s _ _ _ _ _ hq
          obtain ⟨m1, m2, mg⟩ := h.at (j := a + 1) (by omega)
          have mbt := h.btq (j := a + 1) (by omega)
          have e1 : i' + a + 1 = i' + (a + 1) := by omega
          have e2 : i + a + 1 = i + (a + 1) := by omega
          rw [if_pos (by rw [e1, ← mbt, ← e2]; exact ⟨m2, hc.2⟩), e1, ← mg, ← e2]
          exact Agr.quoted h f g (a + 2) _ l e (by rw [show i + (a + 2) = i + a + 2 by omega]; exact hq) he (by omega)
        · cases hq
      · rw [if_neg c2] at hq ⊢
        rw [← hg]
        exact Agr.quoted h f g (a + 1) _ l e (by rw [show i + (a + 1) = i + a + 1 by omega]; exact hq) he (by omega)
end
end Go.Pub
namespace Go.Proofs.YtpoafhgbhnblmaaGreatDoor
open Go.RowKit Go.Pub
section
variable {s s' : ByteArray} {i i' n : Nat}
theorem agr_val (h : Agr s i s' i' n) {a e : Nat} {v : ByteArray} (hv : valL s (i + a) = (v, i + e, true)) (ha : a < n) (he : e < n) : valL s' (i' + a) = (v, i' + e, true) := by
  obtain ⟨l1, l2, hg⟩ := h.at ha
  have hbt := h.btq ha
  unfold valL at hv ⊢
  by_cases c : bt s (i + a) = 34
  · rw [if_pos ⟨l1, c⟩] at hv
    rw [if_pos ⟨l2, by rw [← hbt]; exact c⟩]
    cases hq : qv s s.size (i + a + 1) [] with
    | none => rw [hq] at hv; unfold valOf at hv; simp at hv
    | some r =>
      obtain ⟨l, j⟩ := r
      rw [hq] at hv
      unfold valOf at hv
      simp only [Prod.mk.injEq] at hv
      obtain ⟨v1, v2, v3⟩ := hv
      subst v2
      have := h.quoted s.size s'.size (a + 1) [] l e (by rw [← hq]; rfl) (by omega) (by omega)
      rw [show i' + a + 1 = i' + (a + 1) by omega, this]
      unfold valOf
      simp only [Prod.mk.injEq]
      exact ⟨v1, trivial, v3⟩
  · rw [if_neg (fun x => c x.2)] at hv
    rw [if_neg (fun x => c (by rw [hbt]; exact x.2))]
    unfold bareVal at hv ⊢
    simp only [Prod.mk.injEq] at hv ⊢
    obtain ⟨v1, v2, v3⟩ := hv
    have hw := h.word v2 he
    rw [v2] at v1 v3
    rw [hw, ← h.ext (Nat.le_of_lt he)]
    exact ⟨v1, rfl, v3⟩
theorem agr_name (h : Agr s i s' i' n) {a e : Nat} (hw : wordAt s (i + a) = i + e) (he : e < n) : nameAt s' (i' + a) = nameAt s (i + a) := by
  unfold nameAt
  rw [h.word hw he, hw, h.ext (Nat.le_of_lt he)]
theorem agr_item (h : Agr s i s' i' n) {a e : Nat} {A A' : AttrL} (ha : a < n) (hi : itemL A s (i + a) = (i + e, 0, A')) (he : e < n) : itemL A s' (i' + a) = (i' + e, 0, A') := by
  have hbd := itemL_bd A s (i + a) (h.at ha).1 (by rw [hi])
  rw [hi] at hbd
  have hbt := h.btq ha
  unfold itemL at hi ⊢
  rw [← hbt]
  have e1 : i' + a + 1 = i' + (a + 1) := by omega
  have e2 : i + a + 1 = i + (a + 1) := by omega
  by_cases c1 : bt s (i + a) = 35
  · rw [if_pos c1] at hi ⊢
    split at hi
    · rename_i hn
      split at hi
      · rename_i hid
        simp only [Prod.mk.injEq] at hi
        obtain ⟨v1, _, v3⟩ := hi
        rw [e2] at v1 hn v3
        rw [e1, agr_name h v1 he, if_pos hn, if_pos hid, h.word v1 he, v3]
      · simp at hi
    · simp at hi
  · rw [if_neg c1] at hi ⊢
    by_cases c2 : bt s (i + a) = 46
    · rw [if_pos c2] at hi ⊢
      split at hi
      · rename_i hn
        simp only [Prod.mk.injEq] at hi
        obtain ⟨v1, v2, v3⟩ := hi
        rw [e2] at v1 hn v3 v2
        rw [e1, agr_name h v1 he, if_pos hn, h.word v1 he, v3, v2]
      · simp at hi
    · rw [if_neg c2] at hi ⊢
      split at hi
      · rename_i hn
        have hwb := (wordAt_bd s (i + a)).1
        obtain ⟨d, hd⟩ : ∃ d, wordAt s (i + a) = i + d := ⟨wordAt s (i + a) - i, by omega⟩
        unfold pairItem at hi
        split at hi
        · rename_i hq
          split at hi
          · rename_i hv
            simp only [Prod.mk.injEq] at hi
            obtain ⟨v1, v2, v3⟩ := hi
            have hvb := valL_bd s (wordAt s (i + a) + 1) (by omega) hv
            have hdn : d + 1 < n := by omega
            have hv' : valL s (i + (d + 1)) = ((valL s (i + (d + 1))).1, i + e, true) := by
              have e3 : wordAt s (i + a) + 1 = i + (d + 1) := by omega
              rw [e3] at v1 hv
              rw [← v1, ← hv]
            have hm := agr_val h hv' hdn he
            rw [agr_name h hd (by omega), if_pos hn, h.word hd (by omega)]
            unfold pairItem
            rw [hd] at hq v3
            rw [if_pos ⟨(h.at (j := d) (by omega)).2.1, by rw [← h.btq (by omega)]; exact hq.2⟩, show i' + d + 1 = i' + (d + 1) by omega, hm]
            simp only [if_true, Prod.mk.injEq]
            rw [show i + d + 1 = i + (d + 1) by omega] at v3
            exact ⟨trivial, v2, v3⟩
          · simp at hi
        · simp at hi
      · simp at hi
theorem parseF_pos (s : ByteArray) : ∀ (f k : Nat) (b : Bool) (A A' : AttrL) (t : Nat), parseF s f k b A = (A', t, 0) → k < t ∧ t ≤ s.size ∧ bt s (t - 1) = 125
  | 0, k, b, A, A', t, h => by simp [parseF] at h
  | f + 1, k, b, A, A', t, h => by
    unfold parseF at h
    split at h
    · rename_i hk
      split at h
      · rename_i hc
        simp only [Prod.mk.injEq] at h
        obtain ⟨_, h2, _⟩ := h
        subst h2
        exact ⟨by omega, by omega, by rw [Nat.add_sub_cancel]; exact hc⟩
      · split at h
        · simp at h
        · split at h
          · rename_i he
            have hb := itemL_bd A s k hk he
            have := parseF_pos s f _ _ _ _ _ h
            have hs := (spAt_bd s (itemL A s k).1).1
            exact ⟨by omega, this.2⟩
          · rename_i he
            simp only [Prod.mk.injEq] at h
            exact absurd h.2.2 he
    · simp at h
theorem agr_parseF (h : Agr s i s' i' n) : ∀ (f f' a : Nat) (b : Bool) (A A' : AttrL), parseF s f (i + a) b A = (A', i + n, 0) → s'.size < i' + a + f' → parseF s' f' (i' + a) b A = (A', i' + n, 0)
  | 0, f', a, b, A, A', hp, hf => by simp [parseF] at hp
  | f + 1, f', a, b, A, A', hp, hf => by
    have hpos := parseF_pos s _ _ _ _ _ _ hp
    have ha : a < n := by omega
    obtain ⟨l1, l2, hg⟩ := h.at ha
    have hbt := h.btq ha
    obtain ⟨g, rfl⟩ : ∃ g, f' = g + 1 := ⟨f' - 1, by omega⟩
    unfold parseF at hp ⊢
    rw [if_pos l1] at hp
    rw [if_pos l2, ← hbt]
    by_cases c1 : bt s (i + a) = 125
    · rw [if_pos c1] at hp ⊢
      simp only [Prod.mk.injEq] at hp ⊢
      exact ⟨hp.1, by omega, trivial⟩
    · rw [if_neg c1] at hp ⊢
      cases b with
      | false => rw [if_pos rfl] at hp; simp at hp
      | true =>
        rw [if_neg (by decide)] at hp ⊢
        split at hp
        · rename_i he
          have hb := itemL_bd A s (i + a) l1 he
          have hpos2 := parseF_pos s _ _ _ _ _ _ hp
          have hs := spAt_bd s (itemL A s (i + a)).1
          obtain ⟨d, hd⟩ : ∃ d, (itemL A s (i + a)).1 = i + d := ⟨(itemL A s (i + a)).1 - i, by omega⟩
          obtain ⟨q, hq⟩ : ∃ q, spAt s (i + d) = i + q := ⟨spAt s (i + d) - i, by rw [hd] at hs; omega⟩
          rw [hd] at hp hpos2 hs
          rw [hq] at hp hpos2 hs
          have hi : itemL A s (i + a) = (i + d, 0, (itemL A s (i + a)).2.2) := by rw [← hd, ← he]
          have hm := agr_item h ha hi (by omega)
          rw [hm]
          simp only [if_true]
          rw [h.spaces hq (by omega)]
          have e1 : decide (i' + d < i' + q) = decide (i + d < i + q) := by
            rw [decide_eq_decide]; omega
          rw [e1]
          exact agr_parseF h f g q _ _ _ hp (by omega)
        · rename_i he
          simp only [Prod.mk.injEq] at hp
          exact absurd hp.2.2 he
theorem parseL_pos {s : ByteArray} {i : Nat} {A : AttrL} {t : Nat} (h : parseL s i = (A, t, 0)) : i < t ∧ t ≤ s.size ∧ bt s (t - 1) = 125 ∧ bt s i = 123 ∧ i < s.size := by
  unfold parseL at h
  split at h
  · rename_i hc
    have := parseF_pos s _ _ _ _ _ _ h
    have hs := (spAt_bd s ((i : Int).toNat + 1)).1
    simp only [Int.toNat_natCast] at *
    exact ⟨by omega, this.2.1, this.2.2, hc.2.2, by omega⟩
  · simp at h
/-- Attributes read at i of s up to i + n are read at i' of s', where the same bytes stand. -/
theorem parse_move (h : Agr s i s' i' n) {A : AttrL} (hp : parseL s i = (A, i + n, 0)) : parseL s' i' = (A, i' + n, 0) := by
  have hpos := parseL_pos hp
  have h0 : 0 < n := by omega
  obtain ⟨l1, l2, hg⟩ := h.at h0
  have hbt := h.btq h0
  rw [Nat.add_zero] at l1 l2 hbt
  rw [Nat.add_zero] at hbt
  unfold parseL at hp ⊢
  rw [if_pos ⟨by omega, by omega, by simpa using hpos.2.2.2.1⟩] at hp
  rw [if_pos ⟨by omega, by omega, by simp only [Int.toNat_natCast]; rw [← hbt]; exact hpos.2.2.2.1⟩]
  simp only [Int.toNat_natCast] at hp ⊢
  have hpos2 := parseF_pos s _ _ _ _ _ _ hp
  have hs := spAt_bd s (i + 1)
  obtain ⟨q, hq⟩ : ∃ q, spAt s (i + 1) = i + q := ⟨spAt s (i + 1) - i, by omega⟩
  rw [hq] at hp hpos2
  rw [h.spaces (a := 1) hq (by omega)]
  exact agr_parseF h _ _ q _ _ _ hp (by omega)
end
end Go.Proofs.YtpoafhgbhnblmaaGreatDoor
namespace Go.Proofs.YtpoafhgbhnblmaaGreatDoor
open Go.RowKit Go.Pub
/-- Attributes by value, their rows the caller's own. -/
structure OwnA (w : World) (base : Nat) (a : AttrL) (vC vP : Value) : Prop where
  cls : w.ownsRow base 9 1 vC a.cl.length (strs a.cl)
  prs : w.ownsRow base 81 2 vP a.pr.length (prs a.pr)
  le : base ≤ w.heap.size
  c32 : a.cl.length ≤ 32
  p32 : a.pr.length ≤ 32
theorem OwnA.below {w w' : World} {base : Nat} {a : AttrL} {vC vP : Value} (h : OwnA w base a vC vP) (hb : Below w.heap.size w w') : OwnA w' base a vC vP :=
  ⟨own_below h.cls hb, own_below h.prs hb, Nat.le_trans h.le hb.size, h.c32, h.p32⟩
theorem OwnA.val {w : World} {base : Nat} {a : AttrL} {vC vP : Value} (h : OwnA w base a vC vP) : AttrVal w base (.agg #[.string a.id, vC, vP]) a := ⟨⟨vC, vP, rfl, h.cls, h.prs⟩, h.c32, h.p32⟩
theorem OwnA.setCell {w : World} {base : Nat} {a : AttrL} {vC vP : Value} (h : OwnA w base a vC vP) {p : Addr} (h1 : ∀ k, vC.ownBlock = some k → p.block ≠ k) (h2 : ∀ k, vP.ownBlock = some k → p.block ≠ k) (u : Value) : OwnA (w.setCell p u) base a vC vP := by
  have hg : w.grownBy (w.setCell p u) (some p.block) := ⟨rfl, rfl, rfl, by simp [World.setCell], fun k _ hk => Below.heap_setCell _ _ _ _ (fun e => hk (by rw [e]))⟩
  refine ⟨h.cls.kept hg ?_, h.prs.kept hg ?_, by simpa [World.setCell] using h.le, h.c32, h.p32⟩
  · cases hv : vC.ownBlock with
    | none => exact Or.inl rfl
    | some b => right; intro e; injection e with e; exact h1 b hv e.symm
  · cases hv : vP.ownBlock with
    | none => exact Or.inl rfl
    | some b => right; intro e; injection e with e; exact h2 b hv e.symm
end Go.Proofs.YtpoafhgbhnblmaaGreatDoor
namespace Go.Proofs.YtpoafhgbhnblmaaGreatDoor
open Go.RowKit Go.Pub
/-- A mark. -/
structure MkL where
  kind : Nat := 0
  n : Nat := 0
  ch : ByteArray := ⟨#[]⟩
  off : Nat := 0
  info : ByteArray := ⟨#[]⟩
  rest : ByteArray := ⟨#[]⟩
  dest : ByteArray := ⟨#[]⟩
  title : ByteArray := ⟨#[]⟩
  att : AttrL := emptyA
def MkL.cells (m : MkL) (vC vP : Value) : Array Value := #[.int .i64 m.kind, .int .i64 m.n, .string m.ch, .int .i64 m.off, .string m.info, .string m.rest, .string m.dest, .string m.title, .string m.att.id, vC, vP]
def MkVal (w : World) (base : Nat) (v : Value) (m : MkL) : Prop := ∃ vC vP, v = .agg (m.cells vC vP) ∧ OwnA w base m.att vC vP
theorem ownA_empty (w : World) (base : Nat) (h : base ≤ w.heap.size) : OwnA w base emptyA (.slice none 0 0) (.slice none 0 0) := ⟨World.ownsRow_nil _ _ _ _, World.ownsRow_nil _ _ _ _, h, by decide, by decide⟩
theorem mkVal_plain {w : World} {base : Nat} {m : MkL} (h : m.att = emptyA) (hb : base ≤ w.heap.size) : MkVal w base (.agg (m.cells (.slice none 0 0) (.slice none 0 0))) m := ⟨_, _, rfl, by rw [h]; exact ownA_empty w base hb⟩
/-- Any mark's cells. -/
def AnyMk (v : Value) : Prop := ∃ (i0 i1 : Int) (s2 : ByteArray) (i3 : Int) (s4 s5 s6 s7 s8 : ByteArray) (A9 : Option Addr) (n9 c9 : Nat) (A10 : Option Addr) (n10 c10 : Nat), v = .agg #[.int .i64 i0, .int .i64 i1, .string s2, .int .i64 i3, .string s4, .string s5, .string s6, .string s7, .string s8, .slice A9 n9 c9, .slice A10 n10 c10]
theorem mkVal_any {w : World} {base : Nat} {v : Value} {m : MkL} (h : MkVal w base v m) : AnyMk v := by
  obtain ⟨vC, vP, rfl, h⟩ := h
  obtain ⟨A9, c9, rfl⟩ := own_slice h.cls
  obtain ⟨A10, c10, rfl⟩ := own_slice h.prs
  exact ⟨_, _, _, _, _, _, _, _, _, _, _, _, _, _, _, rfl⟩
/-- What a reader of marks returns: the mark, or that there is none. -/
def RdPost (r : Option MkL) (w : World) (e : Ending) (w' : World) : Prop :=
  (match r with
   | some m => ∃ v, e = .returned (.tuple #[v, .bool true]) ∧ MkVal w' w.heap.size v m
   | none => ∃ v, e = .returned (.tuple #[v, .bool false]) ∧ AnyMk v) ∧ Below w.heap.size w w'
theorem rd_none {r : Option MkL} {w w' : World} {v : Value} (hr : r = none) (hv : AnyMk v) (hb : Below w.heap.size w w') : RdPost r w (.returned (.tuple #[v, .bool false])) w' := by
  subst hr; exact ⟨⟨v, rfl, hv⟩, hb⟩
theorem rd_some {r : Option MkL} {m : MkL} {w w' : World} {v : Value} (hr : r = some m) (hv : MkVal w' w.heap.size v m) (hb : Below w.heap.size w w') : RdPost r w (.returned (.tuple #[v, .bool true])) w' := by
  subst hr; exact ⟨⟨v, rfl, hv⟩, hb⟩
/-- A reader that decides at its end. -/
theorem rd_if {r : Option MkL} {m : MkL} {b : Bool} {w w' : World} {v : Value} (hr : r = if b = true then some m else none) (hv : MkVal w' w.heap.size v m) (hb : Below w.heap.size w w') : RdPost r w (.returned (.tuple #[v, .bool b])) w' := by
  cases b
  · exact rd_none hr (mkVal_any hv) hb
  · exact rd_some hr hv hb
theorem blk11 {W : World} {g : Nat} {T : TypeId} {x0 x1 x2 x3 x4 x5 x6 x7 x8 x9 x10 : Value} (h : Blk W g T #[x0, x1, x2, x3, x4, x5, x6, x7, x8, x9, x10]) (y0 y1 y2 y3 y4 y5 y6 y7 y8 y9 y10 : Value) : Blk (((((((((((W.setCell ⟨g, 0, none⟩ y0).setCell ⟨g, 1, none⟩ y1).setCell ⟨g, 2, none⟩ y2).setCell ⟨g, 3, none⟩ y3).setCell ⟨g, 4, none⟩ y4).setCell ⟨g, 5, none⟩ y5).setCell ⟨g, 6, none⟩ y6).setCell ⟨g, 7, none⟩ y7).setCell ⟨g, 8, none⟩ y8).setCell ⟨g, 9, none⟩ y9).setCell ⟨g, 10, none⟩ y10) g T #[y0, y1, y2, y3, y4, y5, y6, y7, y8, y9, y10] := by
  have h0 := h.set_ 0 y0
  rw [show (#[x0, x1, x2, x3, x4, x5, x6, x7, x8, x9, x10] : Array Value).setIfInBounds 0 y0 = #[y0, x1, x2, x3, x4, x5, x6, x7, x8, x9, x10] from rfl] at h0
  have h1 := h0.set_ 1 y1
  rw [show (#[y0, x1, x2, x3, x4, x5, x6, x7, x8, x9, x10] : Array Value).setIfInBounds 1 y1 = #[y0, y1, x2, x3, x4, x5, x6, x7, x8, x9, x10] from rfl] at h1
  have h2 := h1.set_ 2 y2
  rw [show (#[y0, y1, x2, x3, x4, x5, x6, x7, x8, x9, x10] : Array Value).setIfInBounds 2 y2 = #[y0, y1, y2, x3, x4, x5, x6, x7, x8, x9, x10] from rfl] at h2
  have h3 := h2.set_ 3 y3
  rw [show (#[y0, y1, y2, x3, x4, x5, x6, x7, x8, x9, x10] : Array Value).setIfInBounds 3 y3 = #[y0, y1, y2, y3, x4, x5, x6, x7, x8, x9, x10] from rfl] at h3
  have h4 := h3.set_ 4 y4
  rw [show (#[y0, y1, y2, y3, x4, x5, x6, x7, x8, x9, x10] : Array Value).setIfInBounds 4 y4 = #[y0, y1, y2, y3, y4, x5, x6, x7, x8, x9, x10] from rfl] at h4
  have h5 := h4.set_ 5 y5
  rw [show (#[y0, y1, y2, y3, y4, x5, x6, x7, x8, x9, x10] : Array Value).setIfInBounds 5 y5 = #[y0, y1, y2, y3, y4, y5, x6, x7, x8, x9, x10] from rfl] at h5
  have h6 := h5.set_ 6 y6
  rw [show (#[y0, y1, y2, y3, y4, y5, x6, x7, x8, x9, x10] : Array Value).setIfInBounds 6 y6 = #[y0, y1, y2, y3, y4, y5, y6, x7, x8, x9, x10] from rfl] at h6
  have h7 := h6.set_ 7 y7
  rw [show (#[y0, y1, y2, y3, y4, y5, y6, x7, x8, x9, x10] : Array Value).setIfInBounds 7 y7 = #[y0, y1, y2, y3, y4, y5, y6, y7, x8, x9, x10] from rfl] at h7
  have h8 := h7.set_ 8 y8
  rw [show (#[y0, y1, y2, y3, y4, y5, y6, y7, x8, x9, x10] : Array Value).setIfInBounds 8 y8 = #[y0, y1, y2, y3, y4, y5, y6, y7, y8, x9, x10] from rfl] at h8
  have h9 := h8.set_ 9 y9
  rw [show (#[y0, y1, y2, y3, y4, y5, y6, y7, y8, x9, x10] : Array Value).setIfInBounds 9 y9 = #[y0, y1, y2, y3, y4, y5, y6, y7, y8, y9, x10] from rfl] at h9
  have h10 := h9.set_ 10 y10
  rw [show (#[y0, y1, y2, y3, y4, y5, y6, y7, y8, y9, x10] : Array Value).setIfInBounds 10 y10 = #[y0, y1, y2, y3, y4, y5, y6, y7, y8, y9, y10] from rfl] at h10
  exact h10
theorem below11 {B : Nat} {w W : World} (h : Below B w W) {g : Nat} (hg : B ≤ g) (y0 y1 y2 y3 y4 y5 y6 y7 y8 y9 y10 : Value) : Below B w (((((((((((W.setCell ⟨g, 0, none⟩ y0).setCell ⟨g, 1, none⟩ y1).setCell ⟨g, 2, none⟩ y2).setCell ⟨g, 3, none⟩ y3).setCell ⟨g, 4, none⟩ y4).setCell ⟨g, 5, none⟩ y5).setCell ⟨g, 6, none⟩ y6).setCell ⟨g, 7, none⟩ y7).setCell ⟨g, 8, none⟩ y8).setCell ⟨g, 9, none⟩ y9).setCell ⟨g, 10, none⟩ y10) :=
  (((((((((((h.setCell (p := ⟨g, 0, none⟩) hg y0).setCell (p := ⟨g, 1, none⟩) hg y1).setCell (p := ⟨g, 2, none⟩) hg y2).setCell (p := ⟨g, 3, none⟩) hg y3).setCell (p := ⟨g, 4, none⟩) hg y4).setCell (p := ⟨g, 5, none⟩) hg y5).setCell (p := ⟨g, 6, none⟩) hg y6).setCell (p := ⟨g, 7, none⟩) hg y7).setCell (p := ⟨g, 8, none⟩) hg y8).setCell (p := ⟨g, 9, none⟩) hg y9).setCell (p := ⟨g, 10, none⟩) hg y10)
/-- An empty mark in block g. -/
def ZM (W : World) (g : Nat) : Prop := Blk W g 74 #[.int .i64 0, .int .i64 0, .string ⟨#[]⟩, .int .i64 0, .string ⟨#[]⟩, .string ⟨#[]⟩, .string ⟨#[]⟩, .string ⟨#[]⟩, .string ⟨#[]⟩, .slice none 0 0, .slice none 0 0]
theorem ZM.facts {W : World} {g : Nat} (h : ZM W g) : W.cell? ⟨g, 0, none⟩ = some (.int .i64 0) ∧ W.cell? ⟨g, 1, none⟩ = some (.int .i64 0) ∧ W.cell? ⟨g, 2, none⟩ = some (.string ⟨#[]⟩) ∧ W.cell? ⟨g, 3, none⟩ = some (.int .i64 0) ∧ W.cell? ⟨g, 4, none⟩ = some (.string ⟨#[]⟩) ∧ W.cell? ⟨g, 5, none⟩ = some (.string ⟨#[]⟩) ∧ W.cell? ⟨g, 6, none⟩ = some (.string ⟨#[]⟩) ∧ W.cell? ⟨g, 7, none⟩ = some (.string ⟨#[]⟩) ∧ W.cell? ⟨g, 8, none⟩ = some (.string ⟨#[]⟩) ∧ W.cell? ⟨g, 9, none⟩ = some (.slice none 0 0) ∧ W.cell? ⟨g, 10, none⟩ = some (.slice none 0 0) ∧ W.frozen? ⟨g, 0, none⟩ = false ∧ W.frozen? ⟨g, 1, none⟩ = false ∧ W.frozen? ⟨g, 2, none⟩ = false ∧ W.frozen? ⟨g, 3, none⟩ = false ∧ W.frozen? ⟨g, 4, none⟩ = false ∧ W.frozen? ⟨g, 5, none⟩ = false ∧ W.frozen? ⟨g, 6, none⟩ = false ∧ W.frozen? ⟨g, 7, none⟩ = false ∧ W.frozen? ⟨g, 8, none⟩ = false ∧ W.frozen? ⟨g, 9, none⟩ = false ∧ W.frozen? ⟨g, 10, none⟩ = false :=
  ⟨h.cell 0, h.cell 1, h.cell 2, h.cell 3, h.cell 4, h.cell 5, h.cell 6, h.cell 7, h.cell 8, h.cell 9, h.cell 10, h.frozen 0, h.frozen 1, h.frozen 2, h.frozen 3, h.frozen 4, h.frozen 5, h.frozen 6, h.frozen 7, h.frozen 8, h.frozen 9, h.frozen 10⟩
theorem mk_facts {W : World} {g : Nat} {T : TypeId} {x0 x1 x2 x3 x4 x5 x6 x7 x8 x9 x10 : Value} (h : Blk W g T #[x0, x1, x2, x3, x4, x5, x6, x7, x8, x9, x10]) : W.cell? ⟨g, 0, none⟩ = some x0 ∧ W.cell? ⟨g, 1, none⟩ = some x1 ∧ W.cell? ⟨g, 2, none⟩ = some x2 ∧ W.cell? ⟨g, 3, none⟩ = some x3 ∧ W.cell? ⟨g, 4, none⟩ = some x4 ∧ W.cell? ⟨g, 5, none⟩ = some x5 ∧ W.cell? ⟨g, 6, none⟩ = some x6 ∧ W.cell? ⟨g, 7, none⟩ = some x7 ∧ W.cell? ⟨g, 8, none⟩ = some x8 ∧ W.cell? ⟨g, 9, none⟩ = some x9 ∧ W.cell? ⟨g, 10, none⟩ = some x10 ∧ W.frozen? ⟨g, 0, none⟩ = false ∧ W.frozen? ⟨g, 1, none⟩ = false ∧ W.frozen? ⟨g, 2, none⟩ = false ∧ W.frozen? ⟨g, 3, none⟩ = false ∧ W.frozen? ⟨g, 4, none⟩ = false ∧ W.frozen? ⟨g, 5, none⟩ = false ∧ W.frozen? ⟨g, 6, none⟩ = false ∧ W.frozen? ⟨g, 7, none⟩ = false ∧ W.frozen? ⟨g, 8, none⟩ = false ∧ W.frozen? ⟨g, 9, none⟩ = false ∧ W.frozen? ⟨g, 10, none⟩ = false :=
  ⟨h.cell 0, h.cell 1, h.cell 2, h.cell 3, h.cell 4, h.cell 5, h.cell 6, h.cell 7, h.cell 8, h.cell 9, h.cell 10, h.frozen 0, h.frozen 1, h.frozen 2, h.frozen 3, h.frozen 4, h.frozen 5, h.frozen 6, h.frozen 7, h.frozen 8, h.frozen 9, h.frozen 10⟩
theorem head_ret {W : World} {g : Nat} {x0 x1 x2 x3 x4 x5 x6 x7 x8 x9 x10 : Value} {u : Value} {P : Ending → World → Prop} {act : Act} (hr : Blk W g 74 #[x0, x1, x2, x3, x4, x5, x6, x7, x8, x9, x10]) (h4 : act.tmps.getD 4 undef = .pointer (some ⟨g, 0, none⟩)) (h5 : act.tmps.getD 5 undef = u) (hd : act.defers = []) (hP : P (.returned (.tuple #[.agg #[x0, x1, x2, x3, x4, x5, x6, x7, x8, x9, x10], u])) W) : bodyPost Tryz.prog Tryz.f59 P Exit.ret act W := by
  obtain ⟨c0, c1, c2, c3, c4, c5, c6, c7, c8, c9, c10, _⟩ := mk_facts hr
  refine bodyPost_ret (v := .tuple #[.agg #[x0, x1, x2, x3, x4, x5, x6, x7, x8, x9, x10], u]) ?_ hd hP
  rw [Array.getD_eq_getD_getElem?] at h4 h5
  simp [results, Tryz.results59, go_sem, h4, h5, c0, c1, c2, c3, c4, c5, c6, c7, c8, c9, c10]
theorem rule_ret {W : World} {g : Nat} {x0 x1 x2 x3 x4 x5 x6 x7 x8 x9 x10 : Value} {u : Value} {q : Addr} {P : Ending → World → Prop} {act : Act} (hr : Blk W g 74 #[x0, x1, x2, x3, x4, x5, x6, x7, x8, x9, x10]) (h4 : act.tmps.getD 4 undef = .pointer (some ⟨g, 0, none⟩)) (h5 : act.tmps.getD 5 undef = .pointer (some q)) (h6 : W.cell? q = some u) (hd : act.defers = []) (hP : P (.returned (.tuple #[.agg #[x0, x1, x2, x3, x4, x5, x6, x7, x8, x9, x10], u])) W) : bodyPost Tryz.prog Tryz.f60 P Exit.ret act W := by
  obtain ⟨c0, c1, c2, c3, c4, c5, c6, c7, c8, c9, c10, _⟩ := mk_facts hr
  refine bodyPost_ret (v := .tuple #[.agg #[x0, x1, x2, x3, x4, x5, x6, x7, x8, x9, x10], u]) ?_ hd hP
  rw [Array.getD_eq_getD_getElem?] at h4 h5
  simp [results, Tryz.results60, go_sem, h4, h5, h6, c0, c1, c2, c3, c4, c5, c6, c7, c8, c9, c10]
theorem quote_ret {W : World} {g : Nat} {x0 x1 x2 x3 x4 x5 x6 x7 x8 x9 x10 : Value} {u : Value} {P : Ending → World → Prop} {act : Act} (hr : Blk W g 74 #[x0, x1, x2, x3, x4, x5, x6, x7, x8, x9, x10]) (h4 : act.tmps.getD 4 undef = .pointer (some ⟨g, 0, none⟩)) (h5 : act.tmps.getD 5 undef = u) (hd : act.defers = []) (hP : P (.returned (.tuple #[.agg #[x0, x1, x2, x3, x4, x5, x6, x7, x8, x9, x10], u])) W) : bodyPost Tryz.prog Tryz.f61 P Exit.ret act W := by
  obtain ⟨c0, c1, c2, c3, c4, c5, c6, c7, c8, c9, c10, _⟩ := mk_facts hr
  refine bodyPost_ret (v := .tuple #[.agg #[x0, x1, x2, x3, x4, x5, x6, x7, x8, x9, x10], u]) ?_ hd hP
  rw [Array.getD_eq_getD_getElem?] at h4 h5
  simp [results, Tryz.results61, go_sem, h4, h5, c0, c1, c2, c3, c4, c5, c6, c7, c8, c9, c10]
theorem bullet_ret {W : World} {g : Nat} {x0 x1 x2 x3 x4 x5 x6 x7 x8 x9 x10 : Value} {u : Value} {P : Ending → World → Prop} {act : Act} (hr : Blk W g 74 #[x0, x1, x2, x3, x4, x5, x6, x7, x8, x9, x10]) (h4 : act.tmps.getD 4 undef = .pointer (some ⟨g, 0, none⟩)) (h5 : act.tmps.getD 5 undef = u) (hd : act.defers = []) (hP : P (.returned (.tuple #[.agg #[x0, x1, x2, x3, x4, x5, x6, x7, x8, x9, x10], u])) W) : bodyPost Tryz.prog Tryz.f62 P Exit.ret act W := by
  obtain ⟨c0, c1, c2, c3, c4, c5, c6, c7, c8, c9, c10, _⟩ := mk_facts hr
  refine bodyPost_ret (v := .tuple #[.agg #[x0, x1, x2, x3, x4, x5, x6, x7, x8, x9, x10], u]) ?_ hd hP
  rw [Array.getD_eq_getD_getElem?] at h4 h5
  simp [results, Tryz.results62, go_sem, h4, h5, c0, c1, c2, c3, c4, c5, c6, c7, c8, c9, c10]
theorem fence_ret {W : World} {g : Nat} {x0 x1 x2 x3 x4 x5 x6 x7 x8 x9 x10 : Value} {u : Value} {P : Ending → World → Prop} {act : Act} (hr : Blk W g 74 #[x0, x1, x2, x3, x4, x5, x6, x7, x8, x9, x10]) (h4 : act.tmps.getD 4 undef = .pointer (some ⟨g, 0, none⟩)) (h5 : act.tmps.getD 5 undef = u) (hd : act.defers = []) (hP : P (.returned (.tuple #[.agg #[x0, x1, x2, x3, x4, x5, x6, x7, x8, x9, x10], u])) W) : bodyPost Tryz.prog Tryz.f64 P Exit.ret act W := by
  obtain ⟨c0, c1, c2, c3, c4, c5, c6, c7, c8, c9, c10, _⟩ := mk_facts hr
  refine bodyPost_ret (v := .tuple #[.agg #[x0, x1, x2, x3, x4, x5, x6, x7, x8, x9, x10], u]) ?_ hd hP
  rw [Array.getD_eq_getD_getElem?] at h4 h5
  simp [results, Tryz.results64, go_sem, h4, h5, c0, c1, c2, c3, c4, c5, c6, c7, c8, c9, c10]
theorem formula_ret {W : World} {g : Nat} {x0 x1 x2 x3 x4 x5 x6 x7 x8 x9 x10 : Value} {u : Value} {P : Ending → World → Prop} {act : Act} (hr : Blk W g 74 #[x0, x1, x2, x3, x4, x5, x6, x7, x8, x9, x10]) (h4 : act.tmps.getD 4 undef = .pointer (some ⟨g, 0, none⟩)) (h5 : act.tmps.getD 5 undef = u) (hd : act.defers = []) (hP : P (.returned (.tuple #[.agg #[x0, x1, x2, x3, x4, x5, x6, x7, x8, x9, x10], u])) W) : bodyPost Tryz.prog Tryz.f65 P Exit.ret act W := by
  obtain ⟨c0, c1, c2, c3, c4, c5, c6, c7, c8, c9, c10, _⟩ := mk_facts hr
  refine bodyPost_ret (v := .tuple #[.agg #[x0, x1, x2, x3, x4, x5, x6, x7, x8, x9, x10], u]) ?_ hd hP
  rw [Array.getD_eq_getD_getElem?] at h4 h5
  simp [results, Tryz.results65, go_sem, h4, h5, c0, c1, c2, c3, c4, c5, c6, c7, c8, c9, c10]
theorem directive_ret {W : World} {g : Nat} {x0 x1 x2 x3 x4 x5 x6 x7 x8 x9 x10 : Value} {u : Value} {P : Ending → World → Prop} {act : Act} (hr : Blk W g 74 #[x0, x1, x2, x3, x4, x5, x6, x7, x8, x9, x10]) (h4 : act.tmps.getD 4 undef = .pointer (some ⟨g, 0, none⟩)) (h5 : act.tmps.getD 5 undef = u) (hd : act.defers = []) (hP : P (.returned (.tuple #[.agg #[x0, x1, x2, x3, x4, x5, x6, x7, x8, x9, x10], u])) W) : bodyPost Tryz.prog Tryz.f66 P Exit.ret act W := by
  obtain ⟨c0, c1, c2, c3, c4, c5, c6, c7, c8, c9, c10, _⟩ := mk_facts hr
  refine bodyPost_ret (v := .tuple #[.agg #[x0, x1, x2, x3, x4, x5, x6, x7, x8, x9, x10], u]) ?_ hd hP
  rw [Array.getD_eq_getD_getElem?] at h4 h5
  simp [results, Tryz.results66, go_sem, h4, h5, c0, c1, c2, c3, c4, c5, c6, c7, c8, c9, c10]
theorem note_ret {W : World} {g : Nat} {x0 x1 x2 x3 x4 x5 x6 x7 x8 x9 x10 : Value} {u : Value} {P : Ending → World → Prop} {act : Act} (hr : Blk W g 74 #[x0, x1, x2, x3, x4, x5, x6, x7, x8, x9, x10]) (h4 : act.tmps.getD 4 undef = .pointer (some ⟨g, 0, none⟩)) (h5 : act.tmps.getD 5 undef = u) (hd : act.defers = []) (hP : P (.returned (.tuple #[.agg #[x0, x1, x2, x3, x4, x5, x6, x7, x8, x9, x10], u])) W) : bodyPost Tryz.prog Tryz.f67 P Exit.ret act W := by
  obtain ⟨c0, c1, c2, c3, c4, c5, c6, c7, c8, c9, c10, _⟩ := mk_facts hr
  refine bodyPost_ret (v := .tuple #[.agg #[x0, x1, x2, x3, x4, x5, x6, x7, x8, x9, x10], u]) ?_ hd hP
  rw [Array.getD_eq_getD_getElem?] at h4 h5
  simp [results, Tryz.results67, go_sem, h4, h5, c0, c1, c2, c3, c4, c5, c6, c7, c8, c9, c10]
theorem def_ret {W : World} {g : Nat} {x0 x1 x2 x3 x4 x5 x6 x7 x8 x9 x10 : Value} {u : Value} {P : Ending → World → Prop} {act : Act} (hr : Blk W g 74 #[x0, x1, x2, x3, x4, x5, x6, x7, x8, x9, x10]) (h4 : act.tmps.getD 4 undef = .pointer (some ⟨g, 0, none⟩)) (h5 : act.tmps.getD 5 undef = u) (hd : act.defers = []) (hP : P (.returned (.tuple #[.agg #[x0, x1, x2, x3, x4, x5, x6, x7, x8, x9, x10], u])) W) : bodyPost Tryz.prog Tryz.f68 P Exit.ret act W := by
  obtain ⟨c0, c1, c2, c3, c4, c5, c6, c7, c8, c9, c10, _⟩ := mk_facts hr
  refine bodyPost_ret (v := .tuple #[.agg #[x0, x1, x2, x3, x4, x5, x6, x7, x8, x9, x10], u]) ?_ hd hP
  rw [Array.getD_eq_getD_getElem?] at h4 h5
  simp [results, Tryz.results68, go_sem, h4, h5, c0, c1, c2, c3, c4, c5, c6, c7, c8, c9, c10]
theorem of_ret {W : World} {g : Nat} {x0 x1 x2 x3 x4 x5 x6 x7 x8 x9 x10 : Value} {P : Ending → World → Prop} {act : Act} (hr : Blk W g 74 #[x0, x1, x2, x3, x4, x5, x6, x7, x8, x9, x10]) (h4 : act.tmps.getD 2 undef = .pointer (some ⟨g, 0, none⟩)) (hd : act.defers = []) (hP : P (.returned (.agg #[x0, x1, x2, x3, x4, x5, x6, x7, x8, x9, x10])) W) : bodyPost Tryz.prog Tryz.f38 P Exit.ret act W := by
  obtain ⟨c0, c1, c2, c3, c4, c5, c6, c7, c8, c9, c10, _⟩ := mk_facts hr
  refine bodyPost_ret (v := .agg #[x0, x1, x2, x3, x4, x5, x6, x7, x8, x9, x10]) ?_ hd hP
  rw [Array.getD_eq_getD_getElem?] at h4
  simp [results, Tryz.results38, go_sem, h4, c0, c1, c2, c3, c4, c5, c6, c7, c8, c9, c10]
end Go.Proofs.YtpoafhgbhnblmaaGreatDoor
