/-
  Texts of the proof, put together (what this law reaches): RowTC.
-/
import Derived.Test.YtpoafhgbhnblmaaGreatDoorC04
import Derived.Test.YtpoafhgbhnblmaaGreatDoorC20
import Derived.Test.YtpoafhgbhnblmaaGreatDoorProg
import Derived.SliceStrings
import Derived.ProofKit
import Derived.OpenShut
import Derived.Carry
set_option linter.unusedVariables false
set_option linter.unusedSimpArgs false
namespace Go.Proofs.YtpoafhgbhnblmaaGreatDoor
open Go.RowKit Go.Pub Go.ChangeShapes Go.WideShapes
set_option maxRecDepth 100000 in
theorem open_strsC {H : Type} {enc : TypeId × Value → H} {W : World} {r : Reach} {b0 : Nat} {v : Value} {d : DataW H} {p : List MemPlace} (hv : Value.okWide Tryz.prog W r b0 22 v) (h : DataW.Trod enc Tryz.prog W 0 (fun _ => true) true 22 v d p) :
    ∃ zs A c, v = .slice A zs.length c ∧ Reads W W.heap.size 1 A zs.length (Pub.strs zs) ∧ zs.length ≤ maxLen ∧ (∀ x ∈ zs, x.size ≤ maxLen) ∧ zs.length ≤ c ∧ c ≤ maxLen := by
  obtain ⟨a0, len0, cap0, rfl⟩ := okWide_slice Tryz.underlying22 hv
  obtain ⟨fuel, hf⟩ := h
  rcases open_strings Tryz.underlying22 Tryz.underlying9 (by kernel_rfl) hf with ⟨e1, -⟩ | ⟨ad, len, cap, ss, e1, -, hl, hm, hlen, -, hc, hsz⟩
  · have e1 : [Value.slice a0 len0 cap0] = [.slice none 0 0] := e1
    injection e1 with e1 _
    exact ⟨[], none, 0, e1, Reads.none_, Nat.zero_le _, fun x hx => absurd hx (by simp), Nat.le_refl _, Nat.zero_le _⟩
  · have e1 : [Value.slice a0 len0 cap0] = [.slice (some ad) len cap] := e1
    injection e1 with e1 _
    simp at hlen
    have hlt : (ss.take len).length = len := by rw [List.length_take]; omega
    refine ⟨ss.take len, some ad, cap, by rw [hlt]; exact e1, ⟨by rw [hlt, strs_len, hlt]; omega, fun hn => ⟨ad, rfl, ?_, fun j u hu => ?_⟩⟩, by omega, fun x hx => hsz x (List.mem_of_mem_take hx), by rw [hlt]; exact hl, hm⟩
    · have := World.block_lt_of_cell? W _ (hc 0 (by omega))
      rwa [block_of_add] at this
    · have hj : j < (Pub.strs (ss.take len)).length := (List.getElem?_eq_some_iff.1 hu).1
      rw [strs_len] at hj
      rw [strs_at _ j hj] at hu
      injection hu with hu
      subst hu
      have := hc j (by omega)
      rw [this]
      simp [List.getD_eq_getElem?_getD, List.getElem?_eq_getElem (show j < ss.length by omega)]
end Go.Proofs.YtpoafhgbhnblmaaGreatDoor
