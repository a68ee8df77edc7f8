/-
  The page's examples of chapter 3.
-/
import Derived.Test.YtkcfcdnchlmekaaAttrO
import Derived.Test.YtkcfcdnchlmekaaAttrH
set_option linter.unusedVariables false
set_option linter.unusedSimpArgs false
namespace Go.Proofs.Ytkcfcdnchlmekaa
open Go.RowKit Go.Pub

def exA : AttrL := ⟨⟨#[]⟩, [⟨#[97]⟩], [(⟨#[107]⟩, ⟨#[118]⟩)]⟩
def exB : AttrL := ⟨⟨#[120]⟩, [⟨#[98, 105, 103]⟩], []⟩
theorem ex_parse1 : parseL ⟨#[120, 123, 32, 46, 97, 32, 107, 61, 118, 32, 125, 121]⟩ 1 = (exA, 11, 0) := by kernel_rfl
theorem ex_parse0 : parseL ⟨#[120, 123, 32, 46, 97, 32, 107, 61, 118, 32, 125, 121]⟩ 0 = (emptyA, 0, 5) := by kernel_rfl
theorem ex_text : textR exB = (⟨#[123, 35, 120, 32, 46, 98, 105, 103, 125]⟩, 0) := by kernel_rfl
theorem ex_name1 : nameB ⟨#[102, 105, 103, 58, 97, 45, 49]⟩ = true := by kernel_rfl
theorem ex_name0 : nameB ⟨#[49, 97]⟩ = false := by kernel_rfl

def Ex1Post (w : World) (e : Ending) (w' : World) : Prop :=
  ∃ bC oC cC bP oP cP, e = .returned (.tuple #[.agg #[.string ⟨#[]⟩, .slice (some ⟨bC, oC, none⟩) 1 cC, .slice (some ⟨bP, oP, none⟩) 1 cP], .int .i64 11, .int .i64 0]) ∧ bC < w'.heap.size ∧ bP < w'.heap.size ∧
    w'.cell? ⟨bC, oC, none⟩ = some (.string ⟨#[97]⟩) ∧ w'.cell? ⟨bP, oP + 1, none⟩ = some (.string ⟨#[118]⟩) ∧ Below w.heap.size w w'
theorem ex1_any (w : World) : Calls Try.prog 18 #[.string ⟨#[120, 123, 32, 46, 97, 32, 107, 61, 118, 32, 125, 121]⟩, .int .i64 1] w (Ex1Post w) := by
  have h := parse_any w ⟨#[120, 123, 32, 46, 97, 32, 107, 61, 118, 32, 125, 121]⟩ 1 (by decide)
  rw [ex_parse1] at h
  refine h.mono ?_
  rintro e w1 ⟨v, rfl, ⟨⟨vC, vP, rfl, hc1, hp1⟩, _, _⟩, b1⟩
  obtain ⟨AC, cC, rfl⟩ := own_slice hc1
  obtain ⟨AP, cP, rfl⟩ := own_slice hp1
  obtain ⟨bC, oC, rfl, lC, hcC⟩ := (Reads.of_own hc1).row (by decide) (by decide)
  obtain ⟨bP, oP, rfl, lP, hcP⟩ := (Reads.of_own hp1).row (by decide) (by decide)
  exact ⟨bC, oC, cC, bP, oP, cP, rfl, lC, lP, hcC 0 (.string ⟨#[97]⟩) rfl, hcP 1 (.string ⟨#[118]⟩) rfl, b1⟩
def Ex0Post (w : World) (e : Ending) (w' : World) : Prop :=
  ∃ A c B d, e = .returned (.tuple #[.agg #[.string ⟨#[]⟩, .slice A 0 c, .slice B 0 d], .int .i64 0, .int .i64 5]) ∧ Below w.heap.size w w'
theorem ex0_any (w : World) : Calls Try.prog 18 #[.string ⟨#[120, 123, 32, 46, 97, 32, 107, 61, 118, 32, 125, 121]⟩, .int .i64 0] w (Ex0Post w) := by
  have h := parse_any w ⟨#[120, 123, 32, 46, 97, 32, 107, 61, 118, 32, 125, 121]⟩ 0 (by decide)
  rw [ex_parse0] at h
  refine h.mono ?_
  rintro e w1 ⟨v, rfl, ⟨⟨vC, vP, rfl, hc1, hp1⟩, _, _⟩, b1⟩
  obtain ⟨AC, cC, rfl⟩ := own_slice hc1
  obtain ⟨AP, cP, rfl⟩ := own_slice hp1
  exact ⟨AC, cC, AP, cP, rfl, b1⟩
theorem reads_new (w : World) (x : ByteArray) : Reads (w.alloc (.cells #[.string x] 9)) (w.alloc (.cells #[.string x] 9)).heap.size 1 (some ⟨w.heap.size, 0, none⟩) 1 (strs [x]) := by
  refine ⟨rfl, fun _ => ⟨_, rfl, by simp, fun j u hu => ?_⟩⟩
  match j, hu with
  | 0, hu => simp [strs] at hu; subst hu; exact (Blk.new w 9 #[.string x]).cell 0

set_option maxRecDepth 100000 in
set_option maxHeartbeats 2000000 in
theorem awake_any (w : World) : Calls Try.prog 10 #[] w fun e w' => e = .returned (.bool true) ∧ Below w.heap.size w w' := by
  have HP1 := Lib.hid ex1_any
  have HP0 := Lib.hid ex0_any
  have HN1 : Hid (∀ W, Calls Try.prog 11 #[.string ⟨#[102, 105, 103, 58, 97, 45, 49]⟩] W fun e w' => e = .returned (.bool true) ∧ W = w') := Lib.hid fun W => by rw [← ex_name1]; exact name_any _ W (by decide)
  have HN0 : Hid (∀ W, Calls Try.prog 11 #[.string ⟨#[49, 97]⟩] W fun e w' => e = .returned (.bool false) ∧ W = w') := Lib.hid fun W => by rw [← ex_name0]; exact name_any _ W (by decide)
  have HT : Hid (∀ (W : World), Calls Try.prog 16 #[.agg #[.string ⟨#[120]⟩, .slice (some ⟨W.heap.size, 0, none⟩) 1 1, .slice none 0 0]] (W.alloc (.cells #[.string ⟨#[98, 105, 103]⟩] 9)) (TextPost (⟨#[123, 35, 120, 32, 46, 98, 105, 103, 125]⟩, 0) (W.alloc (.cells #[.string ⟨#[98, 105, 103]⟩] 9)))) := Lib.hid fun W => by
    rw [← ex_text]
    refine text_any _ exB _ 1 none 0 _ ⟨reads_new W _, ⟨rfl, fun h => absurd h (by decide)⟩, Nat.le_refl _, by decide, by decide, by decide, ?_, ?_⟩
    · intro x hx; simp [exB] at hx; subst hx; decide
    · intro x hx; simp [exB] at hx
  go_enter Try.func10, Try.ntmps10
  go_wp2_with fail
  ((with_reducible refine (HP1.out _).mono ?_))
  rintro e w1 ⟨bC, oC, cC, bP, oP, cP, rfl, lC, lP, hcC, hcP, b1⟩
  have KB1 := Lib.hid b1
  have KC := Lib.hid hcC
  have KV := Lib.hid hcP
  clear b1 hcC hcP
  have hT2 := HT.out (w1.alloc (.cells #[.string ⟨#[]⟩, .slice (some ⟨bC, oC, none⟩) 1 cC, .slice (some ⟨bP, oP, none⟩) 1 cP] 27))
  rw [heap_alloc_size] at hT2
  have HT2 := Lib.hid hT2
  clear hT2
  go_wp2_with fail
  refine HT2.out.mono ?_
  rintro e w2 ⟨rfl, b2⟩
  have KB2 := Lib.hid b2
  clear b2
  go_wp2_with fail
  ((with_reducible refine (HP0.out _).mono ?_))
  rintro e w3 ⟨A0, c0, B0, d0, rfl, b3⟩
  have h12 : Below (w1.heap.size + 1) (w1.alloc (.cells #[.string ⟨#[]⟩, .slice (some ⟨bC, oC, none⟩) 1 cC, .slice (some ⟨bP, oP, none⟩) 1 cP] 27)) w3 := by
    refine Below.trans (((Below.refl _ _).alloc (by simp) (.cells #[.string ⟨#[98, 105, 103]⟩] 9)).trans (KB2.out.mono (by simp))) (b3.mono ?_)
    have := KB2.out.size; simp at this; omega
  have hw3 : w1.heap.size < w3.heap.size := by have := h12.size; simp at this; omega
  have g1 : w3.cell? ⟨w1.heap.size, 1, none⟩ = some (.slice (some ⟨bC, oC, none⟩) 1 cC) := (h12.cell (p := ⟨w1.heap.size, 1, none⟩) (by simp)).trans ((Blk.new _ _ _).cell 1)
  have g2 : w3.cell? ⟨w1.heap.size, 2, none⟩ = some (.slice (some ⟨bP, oP, none⟩) 1 cP) := (h12.cell (p := ⟨w1.heap.size, 2, none⟩) (by simp)).trans ((Blk.new _ _ _).cell 2)
  have g3 : w3.cell? ⟨bC, oC, none⟩ = some (.string ⟨#[97]⟩) := (h12.cell (p := ⟨bC, oC, none⟩) (by show bC < _; omega)).trans ((World.cell?_alloc_lt _ _ _ lC).trans KC.out)
  have g4 : w3.cell? ⟨bP, oP + 1, none⟩ = some (.string ⟨#[118]⟩) := (h12.cell (p := ⟨bP, oP + 1, none⟩) (by show bP < _; omega)).trans ((World.cell?_alloc_lt _ _ _ lP).trans KV.out)
  have l3C : bC < w3.heap.size := by omega
  have l3P : bP < w3.heap.size := by omega
  have e1 : ((⟨#[97]⟩ : ByteArray).toList == (⟨#[97]⟩ : ByteArray).toList) = true := beq_self_eq_true _
  have e2 : ((⟨#[118]⟩ : ByteArray).toList == (⟨#[118]⟩ : ByteArray).toList) = true := beq_self_eq_true _
  have hfin : Below w.heap.size w w3 := (KB1.out.alloc KB1.out.size _).trans (h12.mono (by have := KB1.out.size; omega))
  have KF := Lib.hid hfin
  clear h12 hfin b3
  go_wp2_with fail
  ((with_reducible refine (HN1.out _).mono ?_))
  rintro e w4 ⟨rfl, rfl⟩
  go_wp2_with fail
  ((with_reducible refine (HN0.out _).mono ?_))
  rintro e w5 ⟨rfl, rfl⟩
  go_wp2_with fail
  go_ret
  refine ⟨rfl, KF.out.alloc ?_ _⟩
  have := KF.out.size; omega
end Go.Proofs.Ytkcfcdnchlmekaa
