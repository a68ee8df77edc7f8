/-
  A slice of bytes among a law's arguments, opened to cells; a byte.
-/
import Derived.Test.YtoageahnddepcaaDoorMem
import Derived.Test.YtoageahnddepcaaDoorRow
import Derived.Test.YtoageahnddepcaaDoorProg
import Derived.ChangeSlices
import Derived.ProofKit
import Derived.OpenShut
import Derived.Carry
set_option linter.unusedVariables false
set_option linter.unusedSimpArgs false
namespace Go.Pub
open Go.RowKit
def u8s (l : List Nat) : List Value := l.map fun (k : Nat) => Value.int .u8 (k : Int)
theorem u8s_at (l : List Nat) (k : Nat) (h : k < l.length) : (u8s l)[k]? = some (.int .u8 (l[k] : Nat)) := by
  unfold u8s; rw [List.getElem?_map, List.getElem?_eq_getElem h]; rfl
theorem u8s_len (l : List Nat) : (u8s l).length = l.length := by unfold u8s; rw [List.length_map]
theorem u8_wf {n : Int} (h : (Lit.int .u8 n).wf = true) : 0 ≤ n ∧ n < 256 := by
  have := bounds_u8 h
  omega
end Go.Pub
namespace Go.Proofs.YtoageahnddepcaaDoor
open Go.RowKit Go.Pub Go.ChangeShapes Go.WideShapes

theorem open_u8s {H : Type} {enc : TypeId × Value → H} {W : World} {r : Reach} {b0 : Nat} {v : Value} {d : DataW H} {p : List MemPlace} (hv : Value.okWide Tryd.prog W r b0 35 v) (h : DataW.Trod enc Tryd.prog W 0 (fun _ => true) true 35 v d p) :
    ∃ zs A c, v = .slice A zs.length c ∧ Reads W W.heap.size 1 A zs.length (u8s zs) ∧ zs.length ≤ maxLen ∧ ∀ x ∈ zs, x < 256 := by
  obtain ⟨a0, len0, cap0, rfl⟩ := okWide_slice Tryd.underlying35 hv
  obtain ⟨fuel, hf⟩ := h
  rcases open_ints Tryd.underlying35 Tryd.underlying5 (by kernel_rfl) hf with ⟨e1, -⟩ | ⟨ad, len, cap, ss, e1, -, hl, hm, hlen, -, hc, hsz⟩
  · have e1 : [Value.slice a0 len0 cap0] = [.slice none 0 0] := e1
    injection e1 with e1 _
    exact ⟨[], none, 0, e1, ⟨rfl, fun h => absurd h (by simp)⟩, Nat.zero_le _, fun x hx => absurd hx (by simp)⟩
  · have e1 : [Value.slice a0 len0 cap0] = [.slice (some ad) len cap] := e1
    injection e1 with e1 _
    simp at hlen
    have hlt : ((ss.take len).map Int.toNat).length = len := by rw [List.length_map, List.length_take]; omega
    refine ⟨(ss.take len).map Int.toNat, some ad, cap, by rw [hlt]; exact e1, ⟨by rw [hlt, u8s_len, hlt]; omega, fun hn => ⟨ad, rfl, ?_, fun j u hu => ?_⟩⟩, by omega, fun x hx => ?_⟩
    · have := World.block_lt_of_cell? W _ (hc 0 (by omega))
      rwa [block_of_add] at this
    · have hj : j < (u8s ((ss.take len).map Int.toNat)).length := (List.getElem?_eq_some_iff.1 hu).1
      rw [u8s_len] at hj
      rw [u8s_at _ j hj] at hu
      injection hu with hu
      subst hu
      have := hc j (by omega)
      have hb := u8_wf (hsz (ss.getD j 0) (by
        rw [List.getD_eq_getElem?_getD, List.getElem?_eq_getElem (show j < ss.length by omega)]
        exact List.getElem_mem _))
      rw [this]
      rw [List.getElem_map, List.getElem_take]
      rw [List.getD_eq_getElem?_getD, List.getElem?_eq_getElem (show j < ss.length by omega)] at hb ⊢
      simp only [Option.getD_some] at hb ⊢
      rw [Int.toNat_of_nonneg hb.1]
    · obtain ⟨n, hn, rfl⟩ := List.mem_map.1 hx
      have := u8_wf (hsz n (List.mem_of_mem_take hn))
      omega
end Go.Proofs.YtoageahnddepcaaDoor
