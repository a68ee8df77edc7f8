/-
  A region that draws its order, in a round of a loop over an iterator: walked by the laws of regions outside (the wide fence). No program in sight.
-/
import Derived.Deep.RegionHeld3
import Derived.RangeFuncCalls
import Derived.OrdersIn
import Derived.TacticsIn
import Derived.RangeFuncBox
set_option linter.unusedVariables false
set_option linter.unusedSimpArgs false
namespace Go.Pub
open Go Go.RowKit

def isDefer : Op → Bool
  | .defer _ => true
  | _ => false
theorem not_defer {o : Op} (h : isDefer o = false) : ∀ c, o ≠ .defer c := by
  rintro c rfl; cases h

theorem opIn_of_wp {P : Program} {o : Oper} {a : Act} {w : World} {K : Act → World → Prop} {Q : Exit → Act → World → Prop} {l n : Nat} (hd : isDefer o.op = false) (h : o.wp P a w K Q) : o.wpIn (Fence.wide.inRound l) n P a w K Q := by
  unfold Oper.wpIn
  unfold Oper.wp at h
  refine ⟨fun _ _ => trivial, ?_⟩
  rw [show (Fence.wide.inRound l).round = some l from rfl, Oper.semAt_some l _ _ (not_defer hd)]
  generalize (execOp a.eval o).run P w = r at *
  cases r with
  | ok x w' =>
    cases x with
    | value v => exact h
    | skip => exact h
    | defer d => exact h
    | enter f args => exact ⟨fun hh => (by cases hh), CallsIn.inRound l (callsIn_wide.2 h)⟩
    | row r args => exact ⟨fun hh => (by cases hh), fun c cs _ => let ⟨v, w', hr, hs⟩ := h c cs; ⟨v, w', hr, stepsIn_wide.2 hs⟩⟩
    | _ => exact h.elim
  | halt x w' => cases x <;> first | exact h | exact h.elim

theorem anyIn_of_any {P : Program} {ops : Array Oper} {Q : Exit → Act → World → Prop} {md : Region.Mode} {l n : Nat} (hd : ∀ (i : Nat) (o : Oper), ops[i]? = some o → isDefer o.op = false) (hlo : LetsOut Q → False) :
    ∀ (fuel : Nat) (listed : Array Bool) (a : Act) (w : World), wpAny P md ops Q fuel listed a w → wpAnyIn (Fence.wide.inRound l) n P md ops Q fuel listed a w
  | 0, _, _, _, h => h
  | fuel + 1, listed, a, w, h => by
    refine ⟨h.1, fun i hi => ?_⟩
    have h1 := h.2 i hi
    unfold wpOp at h1
    unfold wpOpIn
    cases ho : ops[i]? with
    | none =>
      rw [ho] at h1
      exact anyIn_of_any hd hlo fuel _ _ _ h1
    | some o =>
      rw [ho] at h1
      simp only at h1 ⊢
      split
      · rename_i hw
        rw [if_pos hw] at h1
        rcases h1 with h1 | h1
        · exact Oper.wpIn_mono (fun a w h2 => anyIn_of_any hd hlo fuel _ a w h2) (opIn_of_wp (hd i o ho) h1)
        · exact (hlo h1.2).elim
      · rename_i hw
        rw [if_neg hw] at h1
        exact ⟨fun _ _ => trivial, anyIn_of_any hd hlo fuel _ _ _ h1⟩

/-- The region in a round, by the held walk. -/
theorem regionIn_held {P : Program} {ops : List Oper} {Q : Exit → Act → World → Prop} {S : World → Prop} {id l n : Nat} {a : Act} {w : World} (hm : P.follows .mixedOrders = true) (hd : (ops.all fun o => !isDefer o.op) = true) (hlo : LetsOut Q → False) (hS : S w.drew)
    (h : S w.drew → wpAnyH P .any ops.toArray Q S ops.length (Array.replicate ops.length false) a w.drew) : (Code.region id ops.toArray true).wpIn (Fence.wide.inRound l) n P Q a w := by
  refine wpIn_region_any hm ?_
  refine anyIn_of_any (fun i o ho => ?_) hlo _ _ _ _ (wpAny_of_held _ _ _ _ (h hS))
  have hm2 : o ∈ ops := by
    have := List.mem_of_getElem? (l := ops) (i := i) (by simpa using ho)
    exact this
  have := List.all_eq_true.1 hd o hm2
  simpa using this
theorem keeps_of_below {W W' : World} (h : Below W.heap.size W W') : KeepsOthers W W' :=
  ⟨h.size, fun k o hk _ => (h.block k (Array.getElem?_eq_some_iff.1 hk).1).trans hk⟩
theorem own_base {W : World} {b b' : Nat} {e : TypeId} {size : Nat} {v : Value} {k : Nat} {xs : List Value} (h : W.ownsRow b e size v k xs) (hb : b' ≤ b) : W.ownsRow b' e size v k xs := by
  refine ⟨h.1, ?_⟩
  rcases h.2 with ⟨rfl, h0⟩ | ⟨g, cap, cur, rfl, hg, rest⟩
  · exact .inl ⟨rfl, h0⟩
  · exact .inr ⟨g, cap, cur, rfl, Nat.le_trans hb hg, rest⟩
theorem own_far {W : World} {b : Nat} {e : TypeId} {size : Nat} {v : Value} {k : Nat} {xs : List Value} (h : W.ownsRow b e size v k xs) {g : Nat} (hg : g < b) : some g ≠ v.ownBlock := by
  rcases h.2 with ⟨rfl, h0⟩ | ⟨g', cap, cur, rfl, hg', rest⟩
  · simp [Value.ownBlock]
  · intro e'
    have : g = g' := by simpa [Value.ownBlock] using e'
    omega
/-- 'out = append(out, ..)' in a loop, beside a box that the iterator reads. -/
theorem appended2 {W w1 : World} {B : Nat} {t t2 e : TypeId} {size : Nat} {v v' c : Value} {k m : Nat} {xs ys : List Value} {tmp : Obj}
    (hv : Boxed W B t v) (hs : Boxed W (B + 1) t2 c) (hrow : W.ownsRow (B + 2) e size v k xs)
    (hown' : w1.ownsRow (B + 2) e size v' m ys) (hgrow : (W.alloc tmp).grownBy w1 v.ownBlock) :
    Boxed w1 B t v ∧ Boxed (w1.setCell ⟨B, 0, none⟩ v') B t v' ∧ Boxed (w1.setCell ⟨B, 0, none⟩ v') (B + 1) t2 c ∧ (w1.setCell ⟨B, 0, none⟩ v').ownsRow (B + 2) e size v' m ys ∧ KeepsOthers W (w1.setCell ⟨B, 0, none⟩ v') ∧ Below B W (w1.setCell ⟨B, 0, none⟩ v') := by
  have hlt := hs.lt
  have hv1 : Boxed w1 B t v := (hv.alloc tmp).kept hgrow (own_far hrow (by omega))
  have hs1 : Boxed w1 (B + 1) t2 c := (hs.alloc tmp).kept hgrow (own_far hrow (by omega))
  refine ⟨hv1, hv1.set v', hs1.kept (grownBy_setCell' w1 B v') (by simp), hown'.kept (grownBy_setCell' w1 B v') (.inr (own_far hown' (by omega)).symm), ?_, ?_⟩
  · refine ((KeepsOthers.alloc W tmp).trans (KeepsOthers.of_grownBy hgrow fun j o ej hj => ?_)).trans (KeepsOthers.setCell _ _ _)
    rcases (hrow.alloc tmp).2 with ⟨rfl, _⟩ | ⟨g, cap, cur, rfl, _, hgb, _⟩
    · simp [Value.ownBlock] at ej
    · obtain rfl : g = j := by simpa [Value.ownBlock] using ej
      rw [hgb] at hj; cases hj; rfl
  · refine (((Below.refl B W).alloc (by omega) tmp).grown hgrow (by simp; omega) fun j ej => ?_).setCell (p := ⟨B, 0, none⟩) (Nat.le_refl _) v'
    have := own_far hrow (g := j)
    rcases Nat.lt_or_ge j B with h | h
    · exact absurd ej.symm (this (by omega))
    · exact h
theorem regionIn_any {P : Program} {ops : List Oper} {Q : Exit → Act → World → Prop} {id l n : Nat} {a : Act} {w : World} (hm : P.follows .mixedOrders = true) (hd : (ops.all fun o => !isDefer o.op) = true) (hlo : LetsOut Q → False)
    (h : wpAny P .any ops.toArray Q ops.length (Array.replicate ops.length false) a w.drew) : (Code.region id ops.toArray true).wpIn (Fence.wide.inRound l) n P Q a w := by
  refine wpIn_region_any hm ?_
  refine anyIn_of_any (fun i o ho => ?_) hlo _ _ _ _ h
  have hm2 : o ∈ ops := List.mem_of_getElem? (l := ops) (i := i) (by simpa using ho)
  have := List.all_eq_true.1 hd o hm2
  simpa using this
end Go.Pub
