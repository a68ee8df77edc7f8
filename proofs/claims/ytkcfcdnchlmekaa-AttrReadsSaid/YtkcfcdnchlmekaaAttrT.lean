/-
  Few attributes: publisherlaw03.few.
-/
import Derived.Test.YtkcfcdnchlmekaaAttrM
set_option linter.unusedVariables false
set_option linter.unusedSimpArgs false
namespace Go.Proofs.Ytkcfcdnchlmekaa
open Go.RowKit Go.Pub

/-- Attributes that come in: nothing is known of their sizes but that they are ints. -/
structure RawA (w : World) (B : Nat) (a : AttrL) (A : Option Addr) (c : Nat) (D : Option Addr) (d : Nat) : Prop where
  cls : Reads w B 1 A a.cl.length (strs a.cl)
  prs : Reads w B 2 D a.pr.length (prs a.pr)
  le : B ≤ w.heap.size
  nc : a.cl.length ≤ 9223372036854775807
  np : a.pr.length ≤ 9223372036854775807
  sid : a.id.size ≤ 9223372036854775807
  scl : ∀ x ∈ a.cl, x.size ≤ 9223372036854775807
  spr : ∀ x ∈ a.pr, x.1.size ≤ 9223372036854775807 ∧ x.2.size ≤ 9223372036854775807
  cc : a.cl.length ≤ c
  dd : a.pr.length ≤ d
def fewP (a : AttrL) : Prop := a.cl.length ≤ 40 ∧ a.pr.length ≤ 40 ∧ a.id.size ≤ 200 ∧ (∀ x ∈ a.cl, x.size ≤ 200) ∧ (∀ x ∈ a.pr, x.1.size ≤ 200 ∧ x.2.size ≤ 200)
theorem RawA.few {w : World} {B : Nat} {a : AttrL} {A : Option Addr} {c : Nat} {D : Option Addr} {d : Nat} (h : RawA w B a A c D d) (hf : fewP a) : ReadA w B a A c D d :=
  ⟨h.cls, h.prs, h.le, by have := hf.1; omega, by have := hf.2.1; omega, by have := hf.2.2.1; omega, fun x hx => by have := hf.2.2.2.1 x hx; omega, fun x hx => by have := hf.2.2.2.2 x hx; omega⟩
theorem RawA.below {w w' : World} {B : Nat} {a : AttrL} {A : Option Addr} {c : Nat} {D : Option Addr} {d : Nat} (h : RawA w B a A c D d) (hb : Below w.heap.size w w') : RawA w' B a A c D d :=
  ⟨h.cls.below (hb.mono h.le), h.prs.below (hb.mono h.le), Nat.le_trans h.le hb.size, h.nc, h.np, h.sid, h.scl, h.spr, h.cc, h.dd⟩
def FewPost (a : AttrL) (w : World) (e : Ending) (w' : World) : Prop := ∃ r : Bool, e = .returned (.bool r) ∧ (r = true ↔ fewP a) ∧ Below w.heap.size w w'

set_option maxRecDepth 100000 in
set_option maxHeartbeats 2000000 in
theorem few_any (w : World) (a : AttrL) (A : Option Addr) (c : Nat) (D : Option Addr) (d B : Nat) (h : RawA w B a A c D d) :
    Calls Try.prog 13 #[.agg #[.string a.id, .slice A a.cl.length c, .slice D a.pr.length d]] w (FewPost a w) := by
  have hnc := h.nc
  have hnp := h.np
  have hni := h.sid
  have HR := Lib.hid h
  clear h
  have HI0 : Hid (BInv w a A c D d (w.alloc (.cells #[.string a.id, .slice A a.cl.length c, .slice D a.pr.length d] 27))) := Lib.hid ⟨Blk.new _ _ _, (Below.refl _ _).alloc (Nat.le_refl _) _⟩
  by_cases l1 : 40 < a.cl.length
  · have d1 : decide (40 < a.cl.length) = true := decide_eq_true l1
    have hn : Hid (¬ fewP a) := Lib.hid fun h => by have := h.1; omega
    go_enter Try.func13, Try.ntmps13
    go_wp2_with fail
    go_ret
    exact ⟨false, rfl, ⟨fun h => absurd h (by decide), fun h => absurd h hn.out⟩, HI0.out.bel⟩
  · have d1 : decide (40 < a.cl.length) = false := decide_eq_false l1
    by_cases l2 : 40 < a.pr.length
    · have d2 : decide (40 < a.pr.length) = true := decide_eq_true l2
      have hn : Hid (¬ fewP a) := Lib.hid fun h => by have := h.2.1; omega
      go_enter Try.func13, Try.ntmps13
      go_wp2_with fail
      go_ret
      exact ⟨false, rfl, ⟨fun h => absurd h (by decide), fun h => absurd h hn.out⟩, HI0.out.bel⟩
    · have d2 : decide (40 < a.pr.length) = false := decide_eq_false l2
      by_cases l3 : 200 < a.id.size
      · have d3 : decide (200 < a.id.size) = true := decide_eq_true l3
        have hn : Hid (¬ fewP a) := Lib.hid fun h => by have := h.2.2.1; omega
        go_enter Try.func13, Try.ntmps13
        go_wp2_with fail
        go_ret
        exact ⟨false, rfl, ⟨fun h => absurd h (by decide), fun h => absurd h hn.out⟩, HI0.out.bel⟩
      · have d3 : decide (200 < a.id.size) = false := decide_eq_false l3
        go_enter Try.func13, Try.ntmps13
        go_wp2_with fail
        go_loopw [4] (fun v wr => ∃ k : Nat, v = .int .i64 k ∧ k ≤ a.cl.length ∧ Hid (BInv w a A c D d wr) ∧ Hid (∀ j (hj : j < a.cl.length), j < k → a.cl[j].size ≤ 200)) (fun v _ => a.cl.length - (intOf v).toNat)
        case atStart => exact ⟨0, rfl, by omega, HI0, Lib.hid fun j hj hk => absurd hk (by omega)⟩
        case round =>
          obtain ⟨k, rfl, hk, KI, KN⟩ := hrel
          have hb1 := KI.out.blk.cell 1
          have hb2 := KI.out.blk.cell 2
          simp at hb1 hb2
          by_cases hlt : k < a.cl.length
          · obtain ⟨b, off, rfl, hb, hcell⟩ := (HR.out.cls.below (KI.out.bel.mono HR.out.le)).row (by omega) (by omega)
            have hc := hcell k _ (strs_at a.cl k hlt)
            clear hcell
            have hsz := HR.out.scl _ (List.getElem_mem hlt)
            by_cases hs : 200 < a.cl[k].size
            · have hn : Hid (¬ fewP a) := Lib.hid fun h => by have := h.2.2.2.1 _ (List.getElem_mem hlt); omega
              go_wp2_with fail
              go_ret
              exact ⟨false, rfl, ⟨fun h => absurd h (by decide), fun h => absurd h hn.out⟩, KI.out.bel⟩
            · go_wp2_with fail
              go_roundw
              case rel =>
                refine ⟨k + 1, by go_num, by omega, KI, Lib.hid fun j hj hjk => ?_⟩
                by_cases hj' : j < k
                · exact KN.out j hj hj'
                · obtain rfl : j = k := by omega
                  omega
              case measure => simp [intOf]; omega
          · have KC : Hid (∀ x ∈ a.cl, x.size ≤ 200) := Lib.hid fun x hx => by
              obtain ⟨j, hj, rfl⟩ := List.mem_iff_getElem.1 hx
              exact KN.out j hj (by omega)
            go_wp2_with fail
            clear hb1 hb2
            obtain ⟨wo, rfl⟩ : ∃ wo : World, wo = wr := ⟨_, rfl⟩
            go_loopw [5] (fun v wr => ∃ k : Nat, v = .int .i64 k ∧ k ≤ a.pr.length ∧ Hid (BInv w a A c D d wr) ∧ Hid (∀ j (hj : j < a.pr.length), j < k → a.pr[j].1.size ≤ 200 ∧ a.pr[j].2.size ≤ 200)) (fun v _ => a.pr.length - (intOf v).toNat)
            case atStart => exact ⟨0, rfl, by omega, KI, Lib.hid fun j hj hk => absurd hk (by omega)⟩
            case round =>
              clear KI KN
              obtain ⟨k, rfl, hk, KI, KN⟩ := hrel
              have hb2 := KI.out.blk.cell 2
              simp at hb2
              by_cases hlt : k < a.pr.length
              · obtain ⟨b, off, rfl, hb, hcell⟩ := (HR.out.prs.below (KI.out.bel.mono HR.out.le)).row (by omega) (by omega)
                have hc1 := hcell _ _ (prs_at a.pr k hlt).1
                have hc2 := hcell _ _ (prs_at a.pr k hlt).2
                rw [← Nat.add_assoc] at hc2
                clear hcell
                have hs1 := (HR.out.spr _ (List.getElem_mem hlt)).1
                have hs2 := (HR.out.spr _ (List.getElem_mem hlt)).2
                by_cases q1 : 200 < a.pr[k].1.size
                · have e1 : decide (200 < a.pr[k].1.size) = true := decide_eq_true q1
                  have hn : Hid (¬ fewP a) := Lib.hid fun h => by have := h.2.2.2.2 _ (List.getElem_mem hlt); omega
                  go_wp2_with fail
                  go_ret
                  exact ⟨false, rfl, ⟨fun h => absurd h (by decide), fun h => absurd h hn.out⟩, KI.out.bel⟩
                · have e1 : decide (200 < a.pr[k].1.size) = false := decide_eq_false q1
                  by_cases q2 : 200 < a.pr[k].2.size
                  · have e2 : decide (200 < a.pr[k].2.size) = true := decide_eq_true q2
                    have hn : Hid (¬ fewP a) := Lib.hid fun h => by have := h.2.2.2.2 _ (List.getElem_mem hlt); omega
                    go_wp2_with fail
                    go_ret
                    exact ⟨false, rfl, ⟨fun h => absurd h (by decide), fun h => absurd h hn.out⟩, KI.out.bel⟩
                  · have e2 : decide (200 < a.pr[k].2.size) = false := decide_eq_false q2
                    go_wp2_with fail
                    go_roundw
                    case rel =>
                      refine ⟨k + 1, by go_num, by omega, KI, Lib.hid fun j hj hjk => ?_⟩
                      by_cases hj' : j < k
                      · exact KN.out j hj hj'
                      · obtain rfl : j = k := by omega
                        omega
                    case measure => simp [intOf]; omega
              · have KP : Hid (fewP a) := Lib.hid ⟨by omega, by omega, by omega, KC.out, fun x hx => by
                  obtain ⟨j, hj, rfl⟩ := List.mem_iff_getElem.1 hx
                  exact KN.out j hj (by omega)⟩
                go_wp2_with fail
                go_ret
                exact ⟨true, rfl, ⟨fun _ => KP.out, fun _ => rfl⟩, KI.out.bel⟩
end Go.Proofs.Ytkcfcdnchlmekaa
