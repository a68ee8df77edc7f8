/-
  attr.Parse: its closures and its loop.
-/
import Derived.Test.YtkcfcdnchlmekaaAttrF
import Derived.RegionTactic
import Derived.Outline
set_option linter.unusedVariables false
set_option linter.unusedSimpArgs false
namespace Go.Pub
open Go.RowKit
def spEnd (s : ByteArray) : Nat → Nat → Nat
  | 0, i => i
  | f + 1, i => if i < s.size ∧ bt s i = 32 then spEnd s f (i + 1) else i
def spAt (s : ByteArray) (i : Nat) : Nat := spEnd s (s.size - i) i
theorem spEnd_step (s : ByteArray) (f i : Nat) (h : i < s.size) (hp : bt s i = 32) (hf : s.size - i ≤ f) : spEnd s f i = spEnd s (f - 1) (i + 1) := by
  obtain ⟨g, rfl⟩ : ∃ g, f = g + 1 := ⟨f - 1, by omega⟩
  simp [spEnd, h, hp]
theorem spEnd_stop (s : ByteArray) (f i : Nat) (h : ¬ (i < s.size ∧ bt s i = 32)) : spEnd s f i = i := by
  cases f with
  | zero => rfl
  | succ f => simp only [spEnd]; rw [if_neg h]
theorem spEnd_bd (s : ByteArray) : ∀ f i, i ≤ spEnd s f i ∧ (i ≤ s.size → spEnd s f i ≤ s.size)
  | 0, i => ⟨Nat.le_refl _, fun h => h⟩
  | f + 1, i => by
    unfold spEnd
    split
    · rename_i h
      have := spEnd_bd s f (i + 1)
      exact ⟨by omega, fun _ => this.2 (by omega)⟩
    · exact ⟨Nat.le_refl _, fun h => h⟩
def cellNat (w : World) (g : Nat) : Nat := (intOf ((w.cell? ⟨g, 0, none⟩).getD undef)).toNat
theorem cellNat_of {w : World} {g : Nat} {t : TypeId} {i : Int} (h : Blk w g t #[.int .i64 i]) : cellNat w g = i.toNat := by
  unfold cellNat
  rw [h.cell 0]; rfl
theorem only_refl (w : World) (r : Option Nat) : w.grownBy w r := ⟨rfl, rfl, rfl, Nat.le_refl _, fun _ _ _ => rfl⟩
theorem only_store {a w : World} {g : Nat} (h : a.grownBy w (some g)) (i : Nat) (u : Value) : a.grownBy (w.setCell ⟨g, i, none⟩ u) (some g) :=
  ⟨h.os, h.tape, h.output, by simpa [World.setCell] using h.size, fun k hk hne => (Below.heap_setCell w _ u k (by rintro rfl; exact hne rfl)).trans (h.block k hk hne)⟩
end Go.Pub
namespace Go.Proofs.Ytkcfcdnchlmekaa
open Go.RowKit Go.Pub

/-- Spaces are passed over: the place in block g has moved. -/
def SpPost (s : ByteArray) (k g : Nat) (w : World) (e : Ending) (w' : World) : Prop :=
  e = .returned (.bool (decide (k < spAt s k))) ∧ Blk w' g 3 #[.int .i64 (spAt s k)] ∧ w.grownBy w' (some g)

set_option maxRecDepth 100000 in
set_option maxHeartbeats 1000000 in
theorem spaces_any (w : World) (s : ByteArray) (k gs ga : Nat) (hs : s.size ≤ 1000000) (h1 : Blk w gs 9 #[.string s]) (h2 : Blk w ga 3 #[.int .i64 k]) (hne : gs ≠ ga) (hk : k ≤ s.size) :
    Calls Try.prog 39 #[.pointer (some ⟨ga, 0, none⟩), .pointer (some ⟨gs, 0, none⟩)] w (SpPost s k ga w) := by
  have HW : Hid (spEnd s (s.size - k) k = spAt s k) := Lib.hid rfl
  have HP : Hid (∀ e w', e = .returned (.bool (decide (k < spAt s k))) ∧ Blk w' ga 3 #[.int .i64 (spAt s k)] ∧ w.grownBy w' (some ga) → SpPost s k ga w e w') := Lib.hid fun e w' h => h
  have H1 := Lib.hid h1
  have H2 := Lib.hid h2
  have hc1 : w.cell? ⟨gs, 0, none⟩ = some (.string s) := h1.cell 0
  have hc2 : w.cell? ⟨ga, 0, none⟩ = some (.int .i64 k) := h2.cell 0
  clear h1 h2
  generalize spAt s k = R at *
  go_enter Try.func39, Try.ntmps39
  go_wp2
  clear hc1 hc2
  go_loopw [5] (fun _ wr => ∃ i f : Nat, Hid (Blk wr gs 9 #[.string s]) ∧ Hid (Blk wr ga 3 #[.int .i64 i]) ∧ Hid (w.grownBy wr (some ga)) ∧ Hid (spEnd s f i = R) ∧ s.size - i ≤ f ∧ k ≤ i ∧ i ≤ s.size) (fun _ wr => s.size - (cellNat wr ga))
  case atStart => exact ⟨k, s.size - k, H1, H2, Lib.hid (only_refl _ _), HW, Nat.le_refl _, Nat.le_refl _, hk⟩
  case round =>
    obtain ⟨i, f, K1, K2, K3, K4, hf, hki, his⟩ := hrel
    have hc1 : wr.cell? ⟨gs, 0, none⟩ = some (.string s) := K1.out.cell 0
    have hc2 : wr.cell? ⟨ga, 0, none⟩ = some (.int .i64 i) := K2.out.cell 0
    have hf2 := K2.out.frozen 0
    by_cases hi : i < s.size
    · have hlt : ((s[i].toNat : Nat) : Int) < 256 := by rw [get_bt s i hi]; have := bt_lt s i; omega
      by_cases hb : bt s i = 32
      · have z1 : (((s[i].toNat : Nat) : Int) == 32) = true := by rw [get_bt s i hi, hb]; rfl
        have hst := Lib.hid (spEnd_step s f i hi hb hf)
        clear hb
        go_wp2
        go_roundw
        case rel =>
          refine ⟨i + 1, f - 1, Lib.hid (K1.out.far (by omega) _), Lib.hid ?_, Lib.hid (only_store K3.out _ _), Lib.hid (by rw [← K4.out, hst.out]), by omega, by omega, by omega⟩
          have := K2.out.set_ 0 (.int .i64 ((i : Int) + 1))
          simpa using this
        case measure =>
          have e1 := cellNat_of K2.out
          have e2 : cellNat (wr.setCell ⟨ga, 0, none⟩ (.int .i64 ((i : Int) + 1))) ga = ((i : Int) + 1).toNat := cellNat_of (t := 3) (by have := K2.out.set_ 0 (.int .i64 ((i : Int) + 1)); simpa using this)
          rw [e1, e2]; omega
      · have z1 : (((s[i].toNat : Nat) : Int) == 32) = false := by rw [get_bt s i hi, beq_eq_false_iff_ne]; omega
        have hR : Hid (R = i) := Lib.hid (by rw [← K4.out, spEnd_stop s f i (fun h => hb h.2)])
        clear hb
        go_wp2
        go_ret
        refine HP.out _ _ ⟨?_, ?_, K3.out⟩
        · rw [hR.out]
          refine ret_bool ?_
          rw [Bool.eq_iff_iff]; try simp
        · rw [hR.out]; exact K2.out
    · have hR : Hid (R = i) := Lib.hid (by rw [← K4.out, spEnd_stop s f i (fun h => hi h.1)])
      go_wp2
      go_ret
      refine HP.out _ _ ⟨?_, ?_, K3.out⟩
      · rw [hR.out]
        refine ret_bool ?_
        rw [Bool.eq_iff_iff]; try simp
      · rw [hR.out]; exact K2.out

/-- An item is read: block g holds the attributes, block ga the place. -/
def ClosPost (r : Nat × Nat × AttrL) (g ga base : Nat) (w : World) (e : Ending) (w' : World) : Prop :=
  e = .returned (.int .i64 r.2.1) ∧ ∃ w1, w' = w1.setCell ⟨ga, 0, none⟩ (.int .i64 r.1) ∧ AttrAt w1 g base r.2.2 ∧ BelowBut g base w w1

set_option maxRecDepth 100000 in
set_option maxHeartbeats 1000000 in
theorem item_clos (w : World) (s : ByteArray) (k g gs ga base : Nat) (a : AttrL) (hs : s.size ≤ 1000000) (h1 : Blk w gs 9 #[.string s]) (h2 : Blk w ga 3 #[.int .i64 k]) (h : AttrAt w g base a)
    (hne : ga ≠ g) (hga : ga < base) (hk : k < s.size) :
    Calls Try.prog 40 #[.pointer (some ⟨g, 0, none⟩), .pointer (some ⟨gs, 0, none⟩), .pointer (some ⟨ga, 0, none⟩)] w (ClosPost (itemL a s k) g ga base w) := by
  have HR := Lib.hid (readItem_any w g base a s k h hs hk)
  have H2 := Lib.hid h2
  have hc1 : w.cell? ⟨gs, 0, none⟩ = some (.string s) := h1.cell 0
  have hc2 : w.cell? ⟨ga, 0, none⟩ = some (.int .i64 k) := h2.cell 0
  clear h1 h2 h
  generalize itemL a s k = T at *
  go_enter Try.func40, Try.ntmps40
  go_wp2_with fail
  ((with_reducible refine HR.out.mono ?_))
  rintro e w1 ⟨rfl, hA, hb⟩
  have hB := hb.blk H2.out hga hne
  have hc3 : w1.cell? ⟨ga, 0, none⟩ = some (.int .i64 k) := hB.cell 0
  have hf3 := hB.frozen 0
  go_wp2_with fail
  go_ret
  exact ⟨rfl, w1, rfl, hA, hb⟩
end Go.Proofs.Ytkcfcdnchlmekaa
