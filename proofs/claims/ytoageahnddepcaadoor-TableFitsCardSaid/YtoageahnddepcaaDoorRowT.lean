/-
  A slice of strings among a law's arguments, opened to cells.
-/
import Derived.Test.YtoageahnddepcaaDoorStrs
import Derived.Test.YtoageahnddepcaaDoorRow
import Derived.Test.YtoageahnddepcaaDoorProg
import Derived.SliceStrings
import Derived.ProofKit
import Derived.OpenShut
import Derived.Carry
set_option linter.unusedVariables false
set_option linter.unusedSimpArgs false
namespace Go.Proofs.YtoageahnddepcaaDoor
open Go.RowKit Go.Pub Go.ChangeShapes Go.WideShapes

theorem open_strs {H : Type} {enc : TypeId × Value → H} {W : World} {r : Reach} {b0 : Nat} {v : Value} {d : DataW H} {p : List MemPlace} (hv : Value.okWide Tryd.prog W r b0 23 v) (h : DataW.Trod enc Tryd.prog W 0 (fun _ => true) true 23 v d p) :
    ∃ zs A c, v = .slice A zs.length c ∧ Reads W W.heap.size 1 A zs.length (Pub.strs zs) ∧ zs.length ≤ maxLen ∧ ∀ x ∈ zs, x.size ≤ maxLen := by
  obtain ⟨a0, len0, cap0, rfl⟩ := okWide_slice Tryd.underlying23 hv
  obtain ⟨fuel, hf⟩ := h
  rcases open_strings Tryd.underlying23 Tryd.underlying9 (by kernel_rfl) hf with ⟨e1, -⟩ | ⟨ad, len, cap, ss, e1, -, hl, hm, hlen, -, hc, hsz⟩
  · have e1 : [Value.slice a0 len0 cap0] = [.slice none 0 0] := e1
    injection e1 with e1 _
    exact ⟨[], none, 0, e1, Reads.none_, Nat.zero_le _, fun x hx => absurd hx (by simp)⟩
  · have e1 : [Value.slice a0 len0 cap0] = [.slice (some ad) len cap] := e1
    injection e1 with e1 _
    simp at hlen
    have hlt : (ss.take len).length = len := by rw [List.length_take]; omega
    refine ⟨ss.take len, some ad, cap, by rw [hlt]; exact e1, ⟨by rw [hlt, strs_len, hlt]; omega, fun hn => ⟨ad, rfl, ?_, fun j u hu => ?_⟩⟩, by omega, fun x hx => hsz x (List.mem_of_mem_take hx)⟩
    · have := World.block_lt_of_cell? W _ (hc 0 (by omega))
      rwa [block_of_add] at this
    · have hj : j < (Pub.strs (ss.take len)).length := (List.getElem?_eq_some_iff.1 hu).1
      rw [strs_len] at hj
      rw [strs_at _ j hj] at hu
      injection hu with hu
      subst hu
      have := hc j (by omega)
      rw [this]
      simp [List.getD_eq_getElem?_getD, List.getElem?_eq_getElem (show j < ss.length by omega)]
end Go.Proofs.YtoageahnddepcaaDoor
