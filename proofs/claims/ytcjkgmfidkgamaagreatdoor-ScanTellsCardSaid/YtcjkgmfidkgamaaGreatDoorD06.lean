/-
  Texts of the proof, put together (what this law reaches): ScRD, ScE, ScAZ, Any, AttrM, TabC, TabJ, NsA, NsB.
-/
import Derived.Test.YtcjkgmfidkgamaaGreatDoorD05
import Derived.Test.YtcjkgmfidkgamaaGreatDoorD01
import Derived.Test.YtcjkgmfidkgamaaGreatDoorD02
import Derived.WalkKit
import Derived.WalkSpells
import Derived.Lib.Builder
import Derived.Lib.OthersKept
import Derived.Lib.FrozenHead2
import Derived.Lib.RuneBytes
import Derived.Lib.IndexAny
import Derived.Test.YtcjkgmfidkgamaaGreatDoorD04
import Derived.Maps.Own
import Derived.Deep.QuietTactic
import Derived.BigQuiet
import Derived.Maps.AppendAt
import Derived.Laws.OwnMore
import Derived.Lib.TrimByte
import Derived.Deep.CutRange
import Derived.Deep.DeepCutAuto
import Derived.Test.YtcjkgmfidkgamaaGreatDoorD03
import Derived.Laws.CopyOwn
import Derived.Laws.MakeOwn
import Derived.Laws.EntriesVeiled
import Derived.Laws.StructEq
import Derived.Deep.AppendLies
set_option linter.unusedVariables false
set_option linter.unusedSimpArgs false
namespace Go.Pub
theorem dropW_app (p : UInt8 → Bool) (b : UInt8) : ∀ l : List UInt8, (l ++ [b]).dropWhile p = if l.dropWhile p = [] then [b].dropWhile p else l.dropWhile p ++ [b]
  | [] => by simp
  | c :: l => by
    rw [List.cons_append, List.dropWhile_cons, List.dropWhile_cons]
    by_cases h : p c = true
    · rw [if_pos h, if_pos h, dropW_app p b l]
    · rw [if_neg h, if_neg h, if_neg (by simp)]; rfl
theorem trimL_head (l : List UInt8) : trimL (32 :: l) = trimL l := by
  unfold trimL Lib.trimB Lib.trimRightB Lib.trimLeftB
  rw [List.reverse_cons, dropW_app]
  by_cases h : l.reverse.dropWhile (· == 32) = []
  · rw [if_pos h, h]; rfl
  · rw [if_neg h, List.reverse_append]
    show ((32 : UInt8) :: (l.reverse.dropWhile (· == 32)).reverse).dropWhile (· == 32) = _
    rw [List.dropWhile_cons, if_pos (by decide)]
theorem trimL_last (l : List UInt8) : trimL (l ++ [32]) = trimL l := by
  unfold trimL Lib.trimB Lib.trimRightB
  rw [List.reverse_append]
  show Lib.trimLeftB (((32 : UInt8) :: l.reverse).dropWhile (· == 32)).reverse 32 = _
  rw [List.dropWhile_cons, if_pos (by decide)]
theorem trimL_stay (l : List UInt8) (h1 : l.head? ≠ some 32) (h2 : l.getLast? ≠ some 32) : trimL l = l := by
  have e : l.reverse.dropWhile (· == 32) = l.reverse := by
    cases hr : l.reverse with
    | nil => rfl
    | cons b r =>
      rw [List.dropWhile_cons, if_neg]
      intro hb
      have hb : b = 32 := by simpa using hb
      apply h2
      rw [← List.head?_reverse, hr, hb]; rfl
  unfold trimL Lib.trimB Lib.trimRightB
  rw [e, List.reverse_reverse]
  unfold Lib.trimLeftB
  cases l with
  | nil => rfl
  | cons b r =>
    rw [List.dropWhile_cons, if_neg]
    intro hb
    have hb : b = 32 := by simpa using hb
    exact h1 (by rw [hb]; rfl)
theorem trim_first {s : ByteArray} (h : 0 < s.size) (hb : bt s 0 = 32) : trimL (bytesL (s.extract 1 s.size)) = trimL (bytesL s) := by
  have h0 : bytesL s = sfx s 0 := rfl
  have e : bytesL s = 32 :: sfx s 1 := by rw [h0, sfx_cons s 0 h, (bt_u8 s 0 32 (by decide)).2 hb]; rfl
  rw [e, trimL_head, suffix_bytes]
theorem trim_final {s : ByteArray} (h : 0 < s.size) (hb : bt s (s.size - 1) = 32) : trimL (bytesL (s.extract 0 (s.size - 1))) = trimL (bytesL s) := by
  have e : bytesL s = bytesL (s.extract 0 (s.size - 1)) ++ [32] := by
    rw [bytesL_sub]
    have h1 := sub_snocA s 0 (s.size - 1) (by omega) (by omega)
    rw [show s.size - 1 + 1 = s.size by omega, (bt_u8 s (s.size - 1) 32 (by decide)).2 hb] at h1
    show bytesL s = sub s 0 (s.size - 1) ++ [UInt8.ofNat 32]
    rw [← h1]
    unfold sub
    rw [List.drop_zero, List.take_of_length_le (by rw [bytesL_length]; omega)]
  rw [e, trimL_last]
theorem trim_done {s : ByteArray} (h1 : s.size = 0 ∨ bt s 0 ≠ 32) (h2 : s.size = 0 ∨ bt s (s.size - 1) ≠ 32) : s = mk (trimL (bytesL s)) := by
  rcases Nat.eq_zero_or_pos s.size with h | h
  · have e : bytesL s = [] := by
      apply List.eq_nil_of_length_eq_zero; rw [bytesL_length, h]
    have e2 : mk (bytesL s) = s := mk_bytesL s
    rw [e] at e2 ⊢
    exact e2.symm
  · have h0 : bytesL s = sfx s 0 := rfl
    have a1 : (bytesL s).head? ≠ some 32 := by
      rw [h0, sfx_cons s 0 h]
      intro c
      injection c with c
      exact absurd ((bt_u8 s 0 32 (by decide)).1 c) (by omega)
    have a2 : (bytesL s).getLast? ≠ some 32 := by
      intro c
      rw [List.getLast?_eq_getElem?, bytesL_length] at c
      have h3 : (sfx s (s.size - 1))[0]? = (bytesL s)[s.size - 1]? := by unfold sfx; rw [List.getElem?_drop, Nat.add_zero]
      rw [← h3, sfx_cons s _ (by omega)] at c
      injection c with c
      exact absurd ((bt_u8 s _ 32 (by decide)).1 c) (by omega)
    rw [trimL_stay _ a1 a2, mk_bytesL]
end Go.Pub
namespace Go.Pub
theorem scanF_end {s : ByteArray} {f i : Nat} {j : Bool} {acc : List PcL} (hi : s.size ≤ i) : scanF s f i j acc = acc := by
  cases f with
  | zero => rfl
  | succ f => unfold scanF; rw [if_neg (by omega)]
end Go.Pub
namespace Go.Pub
theorem byte9_at (s : ByteArray) (i : Nat) (h : i < s.size) : (bytesL s)[i]? = some (s.get! i) := by
  have h2 : sfx s i = s.get! i :: sfx s (i + 1) := sfx_cons s i h
  have h3 : (sfx s i)[0]? = (bytesL s)[i]? := by unfold sfx; rw [List.getElem?_drop, Nat.add_zero]
  rw [← h3, h2]; rfl
theorem take_step (s : ByteArray) (i : Nat) (h : i < s.size) : (bytesL s).take (i + 1) = (bytesL s).take i ++ [s.get! i] := by
  have h2 : sfx s i = s.get! i :: sfx s (i + 1) := sfx_cons s i h
  rw [List.take_add_one]
  congr 1
  have h3 : (sfx s i)[0]? = (bytesL s)[i]? := by unfold sfx; rw [List.getElem?_drop, Nat.add_zero]
  rw [← h3, h2]; rfl
theorem byte_ext (s : ByteArray) (i : Nat) (h : i < s.size) : bytesL (s.extract i (i + 1)) = [s.get! i] := by
  rw [bytesL_sub]
  have h1 : sub s i (i + 1) = (sfx s i).take (i + 1 - i) := rfl
  rw [h1, sfx_cons s i h, show i + 1 - i = 1 by omega]; rfl
end Go.Pub
namespace Go.Pub
end Go.Pub
namespace Go.Proofs.YtcjkgmfidkgamaaGreatDoor
open Go.RowKit Go.Pub
theorem quietLeft {P : Program} {f : FuncId} {args : Array Value} {w : World} {n : Nat} {v : Value}
    (h : Calls P f args (w.drewN n) fun e w' => e = .returned v ∧ w.drewN n = w') : Calls P f args (w.drewN n) fun e w'' => e = .returned v ∧ ∃ m, w'' = w.drewN m :=
  h.mono fun _ _ ⟨he, hm⟩ => ⟨he, n, hm.symm⟩
def IdxPost (b : Bool) (w : World) (e : Ending) (w' : World) : Prop := ∃ n : Int, e = .returned (.int .i64 n) ∧ (0 ≤ n ↔ b = true) ∧ Below w.heap.size w w'
end Go.Proofs.YtcjkgmfidkgamaaGreatDoor
namespace Go.Pub
open Go.RowKit
theorem Reads.take {w : World} {B size n k : Nat} {A : Option Addr} {xs : List Value} (h : Reads w B size A n xs) (hk : k ≤ n) : Reads w B size A k (xs.take (k * size)) := by
  refine ⟨by rw [List.length_take, h.1]; exact Nat.min_eq_left (Nat.mul_le_mul_right _ hk), fun h0 => ?_⟩
  obtain ⟨ad, e, hb, hc⟩ := h.2 (by omega)
  refine ⟨ad, e, hb, fun j u hu => hc j u ?_⟩
  rw [List.getElem?_take] at hu
  split at hu
  · exact hu
  · cases hu
end Go.Pub
namespace Go.Proofs.YtcjkgmfidkgamaaGreatDoor
open Go.RowKit Go.Pub
end Go.Proofs.YtcjkgmfidkgamaaGreatDoor
namespace Go.Pub
open Go.RowKit
end Go.Pub
namespace Go.Proofs.YtcjkgmfidkgamaaGreatDoor
open Go.RowKit Go.Pub Go.Shelf
attribute [local go_sem] Oper.semAt_some
end Go.Proofs.YtcjkgmfidkgamaaGreatDoor
namespace Go.Pub
open Go.RowKit
end Go.Pub
namespace Go.Proofs.YtcjkgmfidkgamaaGreatDoor
open Go.RowKit Go.Pub Go.Shelf
attribute [local go_sem] Oper.semAt_some
end Go.Proofs.YtcjkgmfidkgamaaGreatDoor
namespace Go.Proofs.YtcjkgmfidkgamaaGreatDoor
open Go.RowKit Go.Pub
/-- A block: its line is a source text. -/
inductive BkT where
  | mk (kind level : Nat) (info text dest title : ByteArray) (att : AttrL) (line : ByteArray) (kids : List BkT)
end Go.Proofs.YtcjkgmfidkgamaaGreatDoor
namespace Go.Pub
open Go.RowKit
/-- As Reads, the memory's block being one of S. -/
def ReadsS (w : World) (S : Nat → Prop) (size : Nat) (A : Option Addr) (n : Nat) (xs : List Value) : Prop :=
  (xs.length = n * size ∧ n ≤ maxLen) ∧ (0 < n → ∃ ad, A = some ad ∧ S ad.block ∧ ∀ j u, xs[j]? = some u → w.cell? (ad.add j) = some u)
section
variable {w w' : World} {S S' : Nat → Prop} {size n B : Nat} {A : Option Addr} {xs : List Value}
theorem ReadsS.none_ : ReadsS w S size A 0 [] := ⟨⟨by simp, Nat.zero_le _⟩, fun h => absurd h (by omega)⟩
theorem ReadsS.keep (h : ReadsS w S size A n xs) (hk : ∀ g, S g → w'.heap[g]? = w.heap[g]?) (hS : ∀ g, S g → S' g) : ReadsS w' S' size A n xs :=
  ⟨h.1, fun hn => by
    obtain ⟨ad, e, hb, hc⟩ := h.2 hn
    exact ⟨ad, e, hS _ hb, fun j u hu => (World.cell?_of_block (hk _ (by rw [block_of_add]; exact hb))).trans (hc j u hu)⟩⟩
theorem ReadsS.row (h : ReadsS w S size A n xs) (hn : 0 < n) (hs : 0 < size) : ∃ b off, A = some ⟨b, off, none⟩ ∧ S b ∧ ∀ j u, xs[j]? = some u → w.cell? ⟨b, off + j, none⟩ = some u := by
  obtain ⟨ad, e, hb, hc⟩ := h.2 hn
  obtain ⟨b, off, sp⟩ := ad
  have hl : 0 < xs.length := by rw [h.1.1]; exact Nat.mul_pos hn hs
  have h0 := hc 0 _ (List.getElem?_eq_getElem hl)
  obtain rfl : sp = none := by simpa [Addr.add] using World.cell?_spot h0
  refine ⟨b, off, e, hb, fun j u hu => ?_⟩
  have := hc j u hu
  unfold Addr.add at this
  by_cases hj : j = 0
  · subst hj; simpa using this
  · simpa [hj] using this
theorem ReadsS.block {g : Nat} {t : TypeId} {cs : Array Value} (h : w.heap[g]? = some (.cells cs t (0, 0))) (hS : S g) (hl : cs.size = n * size) (hn : n ≤ maxLen) : ReadsS w S size (some ⟨g, 0, none⟩) n cs.toList := by
  refine ⟨⟨by rw [Array.length_toList]; exact hl, hn⟩, fun _ => ⟨_, rfl, hS, fun j u hj => ?_⟩⟩
  have := cell_of_row w g j _ t (0, 0) h
  unfold Addr.add
  by_cases h0 : j = 0
  · subst h0; rw [if_pos rfl, this]; simpa using hj
  · rw [if_neg h0]
    show w.cell? ⟨g, 0 + j, none⟩ = _
    rw [Nat.zero_add, this]; simpa using hj
theorem ReadsS.of_own {base c : Nat} {e : TypeId} (h : w.ownsRow base e size (.slice A n c) n xs) : ReadsS w (fun g => base ≤ g ∧ g < w.heap.size) size A n xs := by
  refine ⟨⟨h.1, ?_⟩, fun hn => ?_⟩
  · rcases h.2 with ⟨_, h0⟩ | ⟨g, cap, cur, _, _, _, h1, h2, _⟩
    · omega
    · exact Nat.le_trans h1 h2
  obtain ⟨g, cap, hv, hg1, hlt⟩ := h.form hn
  have hA : A = some ⟨g, 0, none⟩ := by injection hv
  subst hA
  exact ⟨_, rfl, ⟨hg1, hlt⟩, h.cells (g := g) rfl⟩
end
end Go.Pub
namespace Go.Proofs.YtcjkgmfidkgamaaGreatDoor
open Go.RowKit Go.Pub
/-- What is new since there were B blocks. -/
def Rg (B : Nat) (w' : World) (g : Nat) : Prop := B ≤ g ∧ g < w'.heap.size
section
variable {w w' : World} {base : Nat} {E E' : Nat → Prop} {v : Value} {bs : List BkT}
end
end Go.Proofs.YtcjkgmfidkgamaaGreatDoor
