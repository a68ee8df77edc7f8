/-
  Attributes among a law's arguments, opened to cells; arguments that are read alone, read again behind the call.
-/
import Derived.Test.YtkcfcdnchlmekaaAttrT
import Derived.Test.YtkcfcdnchlmekaaRow
import Derived.Deep.Slices
import Derived.Deep.Fields
import Derived.ChangeSame
import Derived.Lib.SmallJoins
import Derived.SliceStrings
import Derived.Carry
set_option linter.unusedVariables false
set_option linter.unusedSimpArgs false
namespace Go.Pub
open Go.ChangeShapes Go.WideShapes Go.Deep Go.RowKit
section
variable {H : Type} {enc : TypeId × Value → H} {P : Program} {w : World} {base : Nat} {spare : Nat → Bool} {held : Bool}
theorem open_slice_fields {t e : TypeId} {fs : Array Field} {fuel : Nat} {cs : List Value} {x : DataW H × List MemPlace} (ht : P.underlying t = some (.slice e)) (he : P.underlying e = some (.struct fs))
    (hone : oneCellFields P fs = true) (hC : P.cellsOf e = fs.size) (h : DataW.trod enc P w base spare held fuel t cs = some x) :
    (cs = [.slice none 0 0] ∧ x = (.nil, [])) ∨
    ∃ (a : Addr) (len cap m : Nat), cs = [.slice (some a) len cap] ∧ len ≤ cap ∧ cap ≤ maxLen ∧ m = (if spare a.block then cap else len) ∧
      ∀ i, i < m → ∃ (ys : List (DataW H × List MemPlace)) (n : Nat), ys.length = fs.size ∧
        ∀ (j : Nat) (f : Field), fs[j]? = some f → ∃ (v : Value) (y : DataW H × List MemPlace), w.cell? (a.add (i * fs.size + j)) = some v ∧ DataW.trod enc P w base spare held n f.type [v] = some y := by
  rcases open_slice ht h with h0 | ⟨a, len, cap, m, n, D, Pl, hcs, hb, hl, hm, hmm, hx, hi⟩
  · exact .inl h0
  · refine .inr ⟨a, len, cap, m, hcs, hl, hm, hmm, fun i him => ?_⟩
    obtain ⟨cs', hc, ht'⟩ := hi i him
    rw [hC] at hc
    obtain ⟨ys, n', hn', hy, hlen, hyl, hf⟩ := DataW.trod_struct he ht'
    obtain ⟨_, hcl, hat⟩ := World.cells?_some hc
    refine ⟨ys, n', hyl, fun j f hj => ?_⟩
    obtain ⟨ho, hk⟩ := hone_of hone j f hj
    have hjl : j < fs.size := (Array.getElem?_eq_some_iff.1 hj).1
    have hcell := hat j hjl
    have hv : cs'[j]? = some (cs'[j]'(by omega)) := List.getElem?_eq_getElem (by omega)
    have h1 := hf j f hj
    rw [ho, hk] at h1
    have hone' : (cs'.drop j).take 1 = [cs'[j]'(by omega)] := by
      rw [List.drop_eq_getElem_cons (by omega)]
      rfl
    rw [hone'] at h1
    have hys : ys[j]? = some (ys[j]'(by omega)) := List.getElem?_eq_getElem (by omega)
    refine ⟨_, _, ?_, h1.trans hys⟩
    rw [← Go.Deep.add_add, hcell, hv]
end
end Go.Pub
namespace Go.Proofs.Ytkcfcdnchlmekaa
open Go.RowKit Go.Pub Go.ChangeShapes Go.WideShapes Go.Deep

theorem list_of {α : Type} (n : Nat) (P : Nat → α → Prop) (h : ∀ i, i < n → ∃ x, P i x) : ∃ l : List α, l.length = n ∧ ∀ i (hi : i < l.length), P i l[i] := by
  induction n with
  | zero => exact ⟨[], rfl, fun i hi => absurd hi (by simp)⟩
  | succ n ih =>
    obtain ⟨l, hl, hP⟩ := ih fun i hi => h i (by omega)
    obtain ⟨x, hx⟩ := h n (by omega)
    refine ⟨l ++ [x], by simp [hl], fun i hi => ?_⟩
    by_cases hlt : i < l.length
    · rw [List.getElem_append_left hlt]; exact hP i hlt
    · have : i = n := by simp at hi; omega
      subst this
      rw [List.getElem_append_right (by omega)]
      simp [hl]; exact hx

theorem open_attr {H : Type} {enc : TypeId × Value → H} {W : World} {r : Reach} {b0 : Nat} {v : Value} {d : DataW H} {p : List MemPlace} (hv : Value.okWide Try.prog W r b0 27 v) (h : DataW.Trod enc Try.prog W 0 (fun _ => true) true 27 v d p) :
    ∃ a A c D d', v = .agg #[.string a.id, .slice A a.cl.length c, .slice D a.pr.length d'] ∧ RawA W W.heap.size a A c D d' := by
  obtain ⟨v0, v1, v2, y0, y1, y2, n, rfl, -, -, h0, h1, h2⟩ := Go.Joins.open_agg3 Try.underlying27 (by kernel_rfl) (by kernel_rfl) hv h
  obtain ⟨s, e0, -, hs⟩ := DataW.trod_string Try.underlying9 h0
  injection e0 with e0 _
  subst e0
  have C1 : ∃ cl A c, v1 = .slice A cl.length c ∧ Reads W W.heap.size 1 A cl.length (Pub.strs cl) ∧ cl.length ≤ c ∧ c ≤ maxLen ∧ ∀ x ∈ cl, x.size ≤ maxLen := by
    rcases open_strings Try.underlying24 Try.underlying9 (by kernel_rfl) h1 with ⟨e1, -⟩ | ⟨ad, len, cap, ss, e1, -, hl, hm, hlen, -, hc, hsz⟩
    · injection e1 with e1 _
      exact ⟨[], none, 0, e1, Reads.none_, Nat.le_refl _, Nat.zero_le _, fun x hx => absurd hx (by simp)⟩
    · injection e1 with e1 _
      simp at hlen
      have hlt : (ss.take len).length = len := by rw [List.length_take]; omega
      refine ⟨ss.take len, some ad, cap, by rw [hlt]; exact e1, ⟨by rw [hlt, strs_len, hlt]; omega, fun hn => ⟨ad, rfl, ?_, fun j u hu => ?_⟩⟩, by omega, hm, fun x hx => hsz x (List.mem_of_mem_take hx)⟩
      · have := World.block_lt_of_cell? W _ (hc 0 (by omega))
        rwa [block_of_add] at this
      · have hj : j < (ss.take len).length := by
          rcases Nat.lt_or_ge j (Pub.strs (ss.take len)).length with hlt' | hge
          · rwa [strs_len] at hlt'
          · rw [List.getElem?_eq_none hge] at hu; cases hu
        rw [strs_at _ j hj] at hu
        injection hu with hu
        subst hu
        have := hc j (by omega)
        rw [this]
        simp [List.getD_eq_getElem?_getD, List.getElem?_eq_getElem (show j < ss.length by omega)]
  have C2 : ∃ pr D d', v2 = .slice D pr.length d' ∧ Reads W W.heap.size 2 D pr.length (prs pr) ∧ pr.length ≤ d' ∧ d' ≤ maxLen ∧ ∀ x ∈ pr, x.1.size ≤ maxLen ∧ x.2.size ≤ maxLen := by
    rcases open_slice_fields Try.underlying25 Try.underlying42 (by kernel_rfl) (by kernel_rfl) h2 with ⟨e1, -⟩ | ⟨ad, len, cap, m, e1, hl, hm, hmm, hi⟩
    · injection e1 with e1 _
      exact ⟨[], none, 0, e1, Reads.none_, Nat.le_refl _, Nat.zero_le _, fun x hx => absurd hx (by simp)⟩
    · injection e1 with e1 _
      simp at hmm
      obtain ⟨pr, hpl, hP⟩ := list_of len (fun i (x : ByteArray × ByteArray) => W.cell? (ad.add (i * 2)) = some (.string x.1) ∧ W.cell? (ad.add (i * 2 + 1)) = some (.string x.2) ∧ x.1.size ≤ maxLen ∧ x.2.size ≤ maxLen) (fun i hi' => by
        obtain ⟨ys, n', hyl, hf⟩ := hi i (by omega)
        obtain ⟨u0, z0, c0, t0⟩ := hf 0 _ rfl
        obtain ⟨u1, z1, c1, t1⟩ := hf 1 _ rfl
        obtain ⟨s0, q0, -, l0⟩ := DataW.trod_string Try.underlying9 t0
        obtain ⟨s1, q1, -, l1⟩ := DataW.trod_string Try.underlying9 t1
        injection q0 with q0 _
        injection q1 with q1 _
        subst q0 q1
        exact ⟨(s0, s1), c0, c1, l0, l1⟩)
      refine ⟨pr, some ad, cap, by rw [hpl]; exact e1, ⟨prs_len pr, fun hn => ⟨ad, rfl, ?_, fun j u hu => ?_⟩⟩, by omega, hm, fun x hx => ?_⟩
      · have := World.block_lt_of_cell? W _ (hP 0 hn).1
        rwa [block_of_add] at this
      · have hj : j < pr.length * 2 := by
          rcases Nat.lt_or_ge j (prs pr).length with hlt' | hge
          · rwa [prs_len] at hlt'
          · rw [List.getElem?_eq_none hge] at hu; cases hu
        obtain ⟨k, e | e⟩ : ∃ k, j = k * 2 ∨ j = k * 2 + 1 := ⟨j / 2, by omega⟩
        · subst e
          have hk : k < pr.length := by omega
          rw [(prs_at pr k hk).1] at hu
          injection hu with hu
          subst hu
          exact (hP k hk).1
        · subst e
          have hk : k < pr.length := by omega
          rw [(prs_at pr k hk).2] at hu
          injection hu with hu
          subst hu
          exact (hP k hk).2.1
      · obtain ⟨j, hj, rfl⟩ := List.mem_iff_getElem.1 hx
        exact (hP j hj).2.2
  obtain ⟨cl, A, c, rfl, r1, l1, m1, b1⟩ := C1
  obtain ⟨pr, D, d', rfl, r2, l2, m2, b2⟩ := C2
  unfold maxLen at *
  exact ⟨⟨s, cl, pr⟩, A, c, D, d', rfl, ⟨r1, r2, Nat.le_refl _, by show cl.length ≤ _; omega, by show pr.length ≤ _; omega, hs, b1, b2, l1, l2⟩⟩
end Go.Proofs.Ytkcfcdnchlmekaa
