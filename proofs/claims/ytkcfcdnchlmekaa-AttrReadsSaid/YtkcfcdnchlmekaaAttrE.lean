/-
  attr.addPair.
-/
import Derived.Test.YtkcfcdnchlmekaaAttrD
set_option linter.unusedVariables false
set_option linter.unusedSimpArgs false
namespace Go.Proofs.Ytkcfcdnchlmekaa
open Go.RowKit Go.Pub

def pairE (a : AttrL) (key : ByteArray) : Nat := if hasKeyL a.pr key = true then 7 else if 32 ≤ a.pr.length then 3 else 0
def pairA (a : AttrL) (key val : ByteArray) : AttrL := if pairE a key = 0 then { a with pr := a.pr ++ [(key, val)] } else a

theorem pair_done {w1 w2 : World} {g base : Nat} {a : AttrL} {vC vP v' : Value} {key val : ByteArray} (h : AttrCells w1 g base a vC vP)
    (hown : w2.ownsRow base 42 2 v' (a.pr.length + 1) (prs a.pr ++ [.string key, .string val])) (hg : (w1.alloc (.cells #[.string key, .string val] 42)).grownBy w2 vP.ownBlock) (hl : a.pr.length < 32) :
    AttrCells (w2.setCell ⟨g, 2, none⟩ v') g base { a with pr := a.pr ++ [(key, val)] } vC v' ∧ BelowBut g base w1 (w2.setCell ⟨g, 2, none⟩ v') := by
  have hgne : some g ≠ vP.ownBlock := fun e => by have := (h.prs.lt g e.symm).1; have := h.lt; omega
  refine ⟨⟨?_, ?_, ?_, h.lt, ?_, h.c32, ?_⟩, ?_⟩
  · have := ((h.blk.alloc (.cells #[.string key, .string val] 42)).grown hg hgne).set_ 2 v'
    simpa using this
  · exact ownsRow_setCell_below ((h.cls.alloc _).kept hg (own_ne h.cls h.prs (by decide))) h.lt _
  · refine ownsRow_setCell_below ?_ h.lt _
    show w2.ownsRow base 42 2 v' (a.pr ++ [(key, val)]).length (prs (a.pr ++ [(key, val)]))
    unfold prs at hown ⊢
    rw [List.length_append, List.flatMap_append]
    exact hown
  · have := hg.size; have := h.le; simp [World.setCell] at *; omega
  · simp; omega
  · refine BelowBut.store ?_ _ _
    refine .of (((Below.refl _ _).alloc h.le _).grown hg (by have := h.le; simp; omega) (fun k hk => (h.prs.lt k hk).1))

set_option maxRecDepth 100000 in
set_option maxHeartbeats 1000000 in
theorem addPair_any (w : World) (g base : Nat) (a : AttrL) (key val : ByteArray) (h : AttrAt w g base a) :
    Calls Try.prog 57 #[.pointer (some ⟨g, 0, none⟩), .string key, .string val] w (ItemPost (pairE a key) (pairA a key val) g base w) := by
  obtain ⟨vC, vP, hA⟩ := h
  obtain ⟨AC, cC, rfl⟩ := own_slice hA.prs
  obtain ⟨i0, hi0, hz0, hz1, hz2⟩ := info_parts pair_info
  have HH := Lib.hid (get_any a.id AC cC w.heap.size a.pr vC key w (Nat.le_refl _) (Reads.of_own hA.prs) (by have := hA.p32; omega))
  have hc0 : w.cell? ⟨g, 0, none⟩ = some (.string a.id) := hA.blk.cell 0
  have hc1 : w.cell? ⟨g, 1, none⟩ = some vC := hA.blk.cell 1
  have hc2 : w.cell? ⟨g, 2, none⟩ = some (.slice AC a.pr.length cC) := hA.blk.cell 2
  have hgl := hA.blk.lt
  have HE : Hid (pairE a key = if hasKeyL a.pr key = true then 7 else if 32 ≤ a.pr.length then 3 else 0) := Lib.hid rfl
  have HA : Hid (pairA a key val = if pairE a key = 0 then { a with pr := a.pr ++ [(key, val)] } else a) := Lib.hid rfl
  have HK : Hid (hasKeyL a.pr key = (getL a.pr key).isSome) := Lib.hid rfl
  have HG : Hid (∀ e w', GetPost a.pr key w e w' → e = .returned (.tuple #[.string ((getL a.pr key).getD ⟨#[]⟩), .bool (getL a.pr key).isSome]) ∧ Below w.heap.size w w') := Lib.hid fun e w' h => h
  generalize pairA a key val = A1 at *
  generalize pairE a key = E1 at *
  generalize hasKeyL a.pr key = R at *
  generalize getL a.pr key = G at *
  cases G with
  | none =>
    obtain rfl : R = false := HK.out
    by_cases hl : 32 ≤ a.pr.length
    · have hE : Hid (E1 = 3) := Lib.hid (by rw [HE.out, if_neg (by decide), if_pos hl])
      go_enter Try.func57, Try.ntmps57
      go_wp2_with fail
      refine HH.out.mono ?_
      intro e w1 hpost
      obtain ⟨rfl, b1⟩ := HG.out _ _ hpost
      clear hpost
      have k1 := (hA.below b1).blk.cell 2
      simp at k1
      go_wp2
      go_ret
      refine ⟨by rw [hE.out]; rfl, ?_, .of (b1.mono hA.le)⟩
      rw [HA.out, if_neg (by rw [hE.out]; decide)]
      exact ⟨_, _, hA.below b1⟩
    · have hE : Hid (E1 = 0) := Lib.hid (by rw [HE.out, if_neg (by decide), if_neg hl])
      have hl' : a.pr.length < 32 := by omega
      go_enter Try.func57, Try.ntmps57
      go_wp2_with fail
      refine HH.out.mono ?_
      intro e w1 hpost
      obtain ⟨rfl, b1⟩ := HG.out _ _ hpost
      clear hpost
      have hA1 := hA.below b1
      have k1 := hA1.blk.cell 2
      simp at k1
      have f1 := hA1.blk.frozen 2
      have hgl1 := hA1.blk.lt
      go_wp2_with (at_builtin; refine wpList_append_own _ rfl _ _ 25 rfl base 42 i0 _ 2 32 Try.underlying25 hi0 hz0 hz1 hz2 rfl (by decide) _ _ _ rfl (hA1.prs.alloc _) ⟨w1.heap.size, 0, none⟩ 1 1 [.string key, .string val] rfl rfl ?c1 ?c2 ?c3 ?c4 ?c5 ?_)
      case c1 =>
        intro j u hj
        match j, hj with
        | 0, hj => simp at hj; subst hj; simp [Addr.add]
        | 1, hj => simp at hj; subst hj; simp [Addr.add]
      case c2 => intro u hu; simp at hu; rcases hu with rfl | rfl <;> rfl
      case c3 => unfold maxLen; omega
      case c4 => omega
      case c5 => have := hA1.le; simp; omega
      intro v' w2 hown2 hgrow _
      obtain ⟨A2, c2, rfl⟩ := own_slice hown2
      obtain ⟨hd1, hd2⟩ := pair_done hA1 hown2 hgrow hl'
      have hgne : some g ≠ (Value.slice AC a.pr.length cC).ownBlock := fun e => by have := (hA1.prs.lt g e.symm).1; have := hA1.lt; omega
      have hb2 := (hA1.blk.alloc (.cells #[.string key, .string val] 42)).grown hgrow hgne
      have k2 := hb2.cell 2
      simp at k2
      have f2 := hb2.frozen 2
      go_wp2
      go_ret
      refine ⟨by rw [hE.out]; rfl, ?_, (BelowBut.of (b1.mono hA.le)).trans hd2⟩
      rw [HA.out, if_pos hE.out]
      exact ⟨_, _, hd1⟩
  | some y =>
    obtain rfl : R = true := HK.out
    have hE : Hid (E1 = 7) := Lib.hid (by rw [HE.out, if_pos rfl])
    go_enter Try.func57, Try.ntmps57
    go_wp2_with fail
    refine HH.out.mono ?_
    intro e w1 hpost
    obtain ⟨rfl, b1⟩ := HG.out _ _ hpost
    clear hpost
    go_wp2
    go_ret
    refine ⟨by rw [hE.out]; rfl, ?_, .of (b1.mono hA.le)⟩
    rw [HA.out, if_neg (by rw [hE.out]; decide)]
    exact ⟨_, _, hA.below b1⟩
end Go.Proofs.Ytkcfcdnchlmekaa
