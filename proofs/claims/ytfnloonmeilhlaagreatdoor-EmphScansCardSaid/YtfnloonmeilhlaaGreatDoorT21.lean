/-
  Texts of the proof, put together (what this law reaches): CharsP, TabP, TabB, RegIn.
-/
import Derived.Test.YtfnloonmeilhlaaGreatDoorT02
import Derived.Test.YtfnloonmeilhlaaGreatDoorT04
import Derived.Lib.ReplaceLaws
import Derived.Lib.IndexMore
import Derived.Test.YtfnloonmeilhlaaGreatDoorProg
import Derived.WalkKit
import Derived.Lib.Hide
import Derived.Test.YtfnloonmeilhlaaGreatDoorT03
import Derived.RangeFuncNested
import Derived.RangeFuncBound
import Derived.RangeFuncCalls
import Derived.RangeFuncLeaves
import Derived.Shelf.Abstract
import Derived.Shelf.RegionOpen
import Derived.OwnWalkIn
import Derived.TacticsInMore
import Derived.LoopNIn
import Derived.LoopIn
import Derived.Deep.RegionHeld3
import Derived.OrdersIn
import Derived.TacticsIn
import Derived.RangeFuncBox
set_option linter.unusedVariables false
set_option linter.unusedSimpArgs false
namespace Go.Proofs.YtfnloonmeilhlaaGreatDoor
open Go.RowKit Go.Pub
set_option maxRecDepth 100000 in
set_option maxHeartbeats 4000000 in
theorem punct_any (c : Int) (w : World) : Calls Tryz.prog 53 #[.int .i64 c] w fun e w' => e = .returned (.bool (inB c punctL)) ∧ w = w' := by
  have H : Hid (inB c punctL = true ↔ ((33 ≤ c ∧ c ≤ 47) ∨ (58 ≤ c ∧ c ≤ 64) ∨ (91 ≤ c ∧ c ≤ 96) ∨ (123 ≤ c ∧ c ≤ 126) ∨ (161 ≤ c ∧ c ≤ 169) ∨ (171 ≤ c ∧ c ≤ 180) ∨ (182 ≤ c ∧ c ≤ 185) ∨ (187 ≤ c ∧ c ≤ 191) ∨ (215 ≤ c ∧ c ≤ 215) ∨ (247 ≤ c ∧ c ≤ 247) ∨ (8208 ≤ c ∧ c ≤ 8231) ∨ (8240 ≤ c ∧ c ≤ 8286) ∨ (12289 ≤ c ∧ c ≤ 12291))) := Lib.hid (by simp [punctL, inB])
  generalize inB c punctL = b at *
  go_enter Tryz.func53, Tryz.ntmps53
  go_wp2
  all_goals
    go_ret
    refine ⟨ret_bool ?_, rfl⟩
    have h := H.out
    try simp only [beq_iff_eq, bne_iff_ne, beq_eq_false_iff_ne, bne_eq_false_iff_eq, ne_eq] at *
    cases b
    · first | rfl | (exfalso; have := h.2 (by omega); cases this)
    · first | rfl | (exfalso; have := h.1 rfl; omega)

end Go.Proofs.YtfnloonmeilhlaaGreatDoor
namespace Go.Pub
theorem occ_succ (c : UInt8) (l s : List UInt8) (i : Nat) : Lib.occAt (c :: l) s (i + 1) = Lib.occAt l s i := rfl
end Go.Pub
namespace Go.Pub
end Go.Pub
namespace Go.Proofs.YtfnloonmeilhlaaGreatDoor
open Go.RowKit Go.Pub Go.Shelf
attribute [local go_sem] Oper.semAt_some
end Go.Proofs.YtfnloonmeilhlaaGreatDoor
namespace Go.Pub
open Go Go.RowKit
theorem keeps_of_below {W W' : World} (h : Below W.heap.size W W') : KeepsOthers W W' :=
  ⟨h.size, fun k o hk _ => (h.block k (Array.getElem?_eq_some_iff.1 hk).1).trans hk⟩
theorem own_far {W : World} {b : Nat} {e : TypeId} {size : Nat} {v : Value} {k : Nat} {xs : List Value} (h : W.ownsRow b e size v k xs) {g : Nat} (hg : g < b) : some g ≠ v.ownBlock := by
  rcases h.2 with ⟨rfl, h0⟩ | ⟨g', cap, cur, rfl, hg', rest⟩
  · simp [Value.ownBlock]
  · intro e'
    have : g = g' := by simpa [Value.ownBlock] using e'
    omega
end Go.Pub
