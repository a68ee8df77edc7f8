/-
  The walk of the law AttrTexts.
-/
import Derived.Test.YtkcfcdnchlmekaaAttrT
import Derived.Test.YtkcfcdnchlmekaaAttrR
import Derived.Test.YtkcfcdnchlmekaaAttrP
set_option linter.unusedVariables false
set_option linter.unusedSimpArgs false
namespace Go.Proofs.Ytkcfcdnchlmekaa
open Go.RowKit Go.Pub

/-- The world in which a law has boxed its attributes. -/
structure Boxed (w W0 : World) (a : AttrL) (A : Option Addr) (c : Nat) (D : Option Addr) (d : Nat) : Prop where
  blk : Blk W0 w.heap.size 27 #[.string a.id, .slice A a.cl.length c, .slice D a.pr.length d]
  bel : Below w.heap.size w W0
  siz : W0.heap.size = w.heap.size + 1
  raw : RawA W0 w.heap.size a A c D d
theorem Boxed.new {w : World} {a : AttrL} {A : Option Addr} {c : Nat} {D : Option Addr} {d : Nat} (h : RawA w w.heap.size a A c D d) : Boxed w (w.alloc (.cells #[.string a.id, .slice A a.cl.length c, .slice D a.pr.length d] 27)) a A c D d :=
  ⟨Blk.new _ _ _, (Below.refl _ _).alloc (Nat.le_refl _) _, heap_alloc_size _ _, h.below ((Below.refl _ _).alloc (Nat.le_refl _) _)⟩
section
variable {w W0 W : World} {a : AttrL} {A : Option Addr} {c : Nat} {D : Option Addr} {d : Nat}
theorem Boxed.cells (h : Boxed w W0 a A c D d) (hW : Below W0.heap.size W0 W) : W.cell? ⟨w.heap.size, 0, none⟩ = some (.string a.id) ∧ W.cell? ⟨w.heap.size, 1, none⟩ = some (.slice A a.cl.length c) ∧ W.cell? ⟨w.heap.size, 2, none⟩ = some (.slice D a.pr.length d) :=
  have hs := h.siz
  ⟨(hW.cell (p := ⟨w.heap.size, 0, none⟩) (by show w.heap.size < _; omega)).trans (h.blk.cell 0), (hW.cell (p := ⟨w.heap.size, 1, none⟩) (by show w.heap.size < _; omega)).trans (h.blk.cell 1), (hW.cell (p := ⟨w.heap.size, 2, none⟩) (by show w.heap.size < _; omega)).trans (h.blk.cell 2)⟩
theorem Boxed.end_ (h : Boxed w W0 a A c D d) (hW : Below W0.heap.size W0 W) : Below w.heap.size w W := h.bel.trans (hW.mono (by have := h.siz; omega))
end
theorem below_chain {W0 W1 W2 : World} (h : Below W0.heap.size W0 W1) (k : Below W1.heap.size W1 W2) : Below W0.heap.size W0 W2 := h.trans (k.mono h.size)

set_option maxRecDepth 100000 in
set_option maxHeartbeats 2000000 in
theorem lawTexts_any (w : World) (a : AttrL) (A : Option Addr) (c : Nat) (D : Option Addr) (d : Nat) (h : RawA w w.heap.size a A c D d) :
    Calls Try.prog 5 #[.agg #[.string a.id, .slice A a.cl.length c, .slice D a.pr.length d]] w fun e w' => e = .returned (.bool true) ∧ Below w.heap.size w w' := by
  have HB := Lib.hid (Boxed.new h)
  have HA := Lib.hid awake_any
  have HF := Lib.hid (few_any _ a A c D d _ (Boxed.new h).raw)
  clear h
  by_cases hf : fewP a
  · have HT : Hid (∀ W, RawA W w.heap.size a A c D d → Calls Try.prog 16 #[.agg #[.string a.id, .slice A a.cl.length c, .slice D a.pr.length d]] W (TextPost (textR a) W)) := Lib.hid fun W hW => text_any W a A c D d _ (hW.few hf)
    have HU : Hid (∀ W, RawA W w.heap.size a A c D d → Calls Try.prog 17 #[.agg #[.string a.id, .slice A a.cl.length c, .slice D a.pr.length d]] W (TextPost (textR a) W)) := Lib.hid fun W hW => rtext_any W a A c D d _ (hW.few hf) hW.cc hW.dd
    have KF := Lib.hid hf
    clear hf
    generalize textR a = R at *
    obtain ⟨tx, en⟩ := R
    have q1 : (tx.toList == tx.toList) = true := beq_self_eq_true _
    have q2 : ((en : Int) == (en : Int)) = true := beq_self_eq_true _
    go_enter Try.func5, Try.ntmps5
    go_wp2_with fail
    ((with_reducible refine HF.out.mono ?_))
    rintro e w1 ⟨r, rfl, hr, b1⟩
    obtain rfl : r = true := hr.2 KF.out
    have K1 := Lib.hid b1
    have hz1 := b1.size
    obtain ⟨g0, g1, g2⟩ := HB.out.cells b1
    clear b1 hr
    go_wp2_with fail
    ((with_reducible refine (HT.out _ (HB.out.raw.below K1.out)).mono ?_))
    rintro e w2 ⟨rfl, b2⟩
    have K2 := Lib.hid (below_chain K1.out b2)
    obtain ⟨g0', g1', g2'⟩ := HB.out.cells K2.out
    clear b2
    go_wp2_with fail
    ((with_reducible refine (HU.out _ (HB.out.raw.below K2.out)).mono ?_))
    rintro e w3 ⟨rfl, b3⟩
    have K3 := Lib.hid (below_chain K2.out b3)
    clear b3
    go_wp2_with fail
    ((with_reducible refine (HA.out _).mono ?_))
    rintro e w4 ⟨rfl, b4⟩
    go_wp2_with fail
    go_ret
    exact ⟨rfl, HB.out.end_ (below_chain K3.out b4)⟩
  · have KF := Lib.hid hf
    clear hf
    go_enter Try.func5, Try.ntmps5
    go_wp2_with fail
    ((with_reducible refine HF.out.mono ?_))
    rintro e w1 ⟨r, rfl, hr, b1⟩
    obtain rfl : r = false := by rw [← Bool.not_eq_true, hr]; exact KF.out
    have K1 := Lib.hid b1
    clear b1 hr
    go_wp2_with fail
    ((with_reducible refine (HA.out _).mono ?_))
    rintro e w4 ⟨rfl, b4⟩
    go_wp2_with fail
    go_ret
    exact ⟨rfl, HB.out.end_ (below_chain K1.out b4)⟩
end Go.Proofs.Ytkcfcdnchlmekaa
