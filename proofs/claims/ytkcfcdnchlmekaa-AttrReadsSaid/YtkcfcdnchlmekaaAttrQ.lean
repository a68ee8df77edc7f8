/-
  The reference's Same; Empty on both sides.
-/
import Derived.Test.YtkcfcdnchlmekaaAttrM
import Derived.Laws.StructEq
set_option linter.unusedVariables false
set_option linter.unusedSimpArgs false
namespace Go.Pub
theorem AttrL.eq_iff (a b : AttrL) : a = b ↔ a.id = b.id ∧ a.cl = b.cl ∧ a.pr = b.pr := by
  cases a; cases b; simp
end Go.Pub
namespace Go.Proofs.Ytkcfcdnchlmekaa
open Go.RowKit Go.Pub

theorem pair_eq (a b c d : ByteArray) (w : World) : (Op.equalIn 10000 42 (.agg #[.string a, .string b]) (.agg #[.string c, .string d])).run Try.prog w = .ok (a.toList == c.toList && b.toList == d.toList) w := by
  have u9 := Try.underlying9
  have a9 := Try.isAgg9
  have z9 := Try.sizeOf9
  have hS : Try.prog.underlying 42 = some (.struct (Try.prog.fieldsOf 42)) := by kernel_rfl
  have hp : Try.prog.stoodInHeld 42 = false := by kernel_rfl
  rw [show (10000 : Nat) = 9999 + 1 from rfl, run_equalIn_agg w 9999 42 _ _ hS hp]
  simp only [Program.fieldsOf, Try.underlying42]
  go_simp
  by_cases h1 : a.toList = c.toList <;> by_cases h2 : b.toList = d.toList <;> simp [h1, h2]

def SamePost (a b : AttrL) (w : World) (e : Ending) (w' : World) : Prop := ∃ r : Bool, e = .returned (.bool r) ∧ (r = true ↔ a = b) ∧ Below w.heap.size w w'

structure TwoBlk (w : World) (u v : Array Value) (wr : World) : Prop where
  b1 : Blk wr w.heap.size 27 u
  b2 : Blk wr (w.heap.size + 1) 27 v
  bel : Below w.heap.size w wr
theorem TwoBlk.drewN {w wr : World} {u v : Array Value} (h : TwoBlk w u v wr) (n : Nat) : TwoBlk w u v (wr.drewN n) := ⟨h.b1, h.b2, below_drewN h.bel n⟩

set_option maxRecDepth 100000 in
set_option maxHeartbeats 4000000 in
theorem rsame_any (w : World) (a b : AttrL) (A : Option Addr) (c : Nat) (D : Option Addr) (d B : Nat) (A' : Option Addr) (c' : Nat) (D' : Option Addr) (d' B' : Nat) (h : ReadA w B a A c D d) (h' : ReadA w B' b A' c' D' d') :
    Calls Try.prog 20 #[.agg #[.string a.id, .slice A a.cl.length c, .slice D a.pr.length d], .agg #[.string b.id, .slice A' b.cl.length c', .slice D' b.pr.length d']] w (SamePost a b w) := by
  have HQ := Lib.hid pair_eq
  have HR := Lib.hid h
  have HR' := Lib.hid h'
  have hnc := h.nc
  have hnp := h.np
  have hnc' := h'.nc
  have hnp' := h'.np
  clear h h'
  have HI := Lib.hid (AttrL.eq_iff a b)
  have HT0 : Hid (TwoBlk w #[.string a.id, .slice A a.cl.length c, .slice D a.pr.length d] #[.string b.id, .slice A' b.cl.length c', .slice D' b.pr.length d'] ((w.alloc (.cells #[.string a.id, .slice A a.cl.length c, .slice D a.pr.length d] 27)).alloc (.cells #[.string b.id, .slice A' b.cl.length c', .slice D' b.pr.length d'] 27))) := Lib.hid ⟨(Blk.new _ _ _).alloc _, by
      have := Blk.new (w.alloc (.cells #[.string a.id, .slice A a.cl.length c, .slice D a.pr.length d] 27)) 27 #[.string b.id, .slice A' b.cl.length c', .slice D' b.pr.length d']
      simpa using this, ((Below.refl _ _).alloc (Nat.le_refl _) _).alloc (by simp) _⟩
  by_cases e1 : a.id = b.id
  · have y1 : (a.id.toList == b.id.toList) = true := (Lib.bytes_beq_iff _ _).2 e1
    have E1 := Lib.hid e1
    clear e1
    by_cases e2 : a.cl.length = b.cl.length
    · have z2 : ((a.cl.length : Int) != (b.cl.length : Int)) = false := by rw [e2]; simp
      have z2' : (a.cl.length != b.cl.length) = false := by rw [e2]; simp
      have E2 := Lib.hid e2
      clear e2
      by_cases e3 : a.pr.length = b.pr.length
      · have z3 : ((a.pr.length : Int) != (b.pr.length : Int)) = false := by rw [e3]; simp
        have z3' : (a.pr.length != b.pr.length) = false := by rw [e3]; simp
        have E3 := Lib.hid e3
        clear e3
        go_enter Try.func20, Try.ntmps20
        go_wp2_with fail
        go_loopw [5] (fun v wr => ∃ k : Nat, v = .int .i64 k ∧ k ≤ a.cl.length ∧ Hid (TwoBlk w #[.string a.id, .slice A a.cl.length c, .slice D a.pr.length d] #[.string b.id, .slice A' b.cl.length c', .slice D' b.pr.length d'] wr) ∧ Hid (∀ j, j < k → a.cl[j]? = b.cl[j]?)) (fun v _ => a.cl.length - (intOf v).toNat)
        case atStart => exact ⟨0, rfl, by omega, HT0, Lib.hid fun j hj => absurd hj (by omega)⟩
        case round =>
          clear HT0
          obtain ⟨k, rfl, hk, KT, KN⟩ := hrel
          have t1 := KT.out.b1.cell 1
          have t2 := KT.out.b1.cell 2
          have u1 := KT.out.b2.cell 1
          have u2 := KT.out.b2.cell 2
          simp at t1 t2 u1 u2
          by_cases hlt : k < a.cl.length
          · have hlt' : k < b.cl.length := by rw [← E2.out]; exact hlt
            obtain ⟨b1, o1, rfl, l1, hcell⟩ := (HR.out.cls.below (KT.out.bel.mono HR.out.le)).row (by omega) (by omega)
            have hc1 := hcell k _ (strs_at a.cl k hlt)
            clear hcell
            obtain ⟨b2, o2, rfl, l2, hcell⟩ := (HR'.out.cls.below (KT.out.bel.mono HR'.out.le)).row (by omega) (by omega)
            have hc2 := hcell k _ (strs_at b.cl k hlt')
            clear hcell
            have i0 : (0 : Int) ≤ (k : Int) := Int.natCast_nonneg _
            have i1 : (k : Int) < (a.cl.length : Int) := by omega
            have i2 : (k : Int) < (b.cl.length : Int) := by omega
            have hak := Lib.hid (List.getElem?_eq_getElem hlt)
            have hbk := Lib.hid (List.getElem?_eq_getElem hlt')
            by_cases he : a.cl[k] = b.cl[k]
            · have y2 : (a.cl[k].toList == b.cl[k].toList) = true := (Lib.bytes_beq_iff _ _).2 he
              have HE := Lib.hid he
              clear he
              go_wp2_with fail
              go_quiet (fail)
              go_wp2_with fail
              go_roundw
              case rel =>
                refine ⟨k + 1, by go_num, by omega, Lib.hid (KT.out.drewN _), Lib.hid fun j hj => ?_⟩
                by_cases hj' : j < k
                · exact KN.out j hj'
                · obtain rfl : j = k := by omega
                  rw [hak.out, hbk.out, HE.out]
              case measure => simp [intOf]; omega
            · have y2 : (a.cl[k].toList == b.cl[k].toList) = false := (Lib.bytes_beq_false_iff _ _).2 he
              have hne : Hid (a ≠ b) := Lib.hid fun e => he (by
                have := hak.out.symm.trans ((congrArg (fun l : List ByteArray => l[k]?) (HI.out.1 e).2.1).trans hbk.out)
                injection this)
              clear he
              go_wp2_with fail
              go_quiet (fail)
              go_wp2_with fail
              go_ret
              exact ⟨false, rfl, ⟨fun h => absurd h (by decide), fun h => absurd h hne.out⟩, below_drewN KT.out.bel _⟩
          · have hcl : Hid (a.cl = b.cl) := Lib.hid (List.ext_getElem? fun j => by
              by_cases hj : j < a.cl.length
              · exact KN.out j (by omega)
              · rw [List.getElem?_eq_none (by omega), List.getElem?_eq_none (by rw [← E2.out]; omega)])
            go_wp2_with fail
            clear t1 t2 u1 u2
            obtain ⟨wo, rfl⟩ : ∃ wo : World, wo = wr := ⟨_, rfl⟩
            go_loopw [6] (fun v wr => ∃ k : Nat, v = .int .i64 k ∧ k ≤ a.pr.length ∧ Hid (TwoBlk w #[.string a.id, .slice A a.cl.length c, .slice D a.pr.length d] #[.string b.id, .slice A' b.cl.length c', .slice D' b.pr.length d'] wr) ∧ Hid (∀ j, j < k → a.pr[j]? = b.pr[j]?)) (fun v _ => a.pr.length - (intOf v).toNat)
            case atStart => exact ⟨0, rfl, by omega, KT, Lib.hid fun j hj => absurd hj (by omega)⟩
            case round =>
              clear KT KN
              obtain ⟨k, rfl, hk, KT, KN⟩ := hrel
              have t2 := KT.out.b1.cell 2
              have u2 := KT.out.b2.cell 2
              simp at t2 u2
              by_cases hlt : k < a.pr.length
              · have hlt' : k < b.pr.length := by rw [← E3.out]; exact hlt
                obtain ⟨b1, o1, rfl, l1, hcell⟩ := (HR.out.prs.below (KT.out.bel.mono HR.out.le)).row (by omega) (by omega)
                have hc1 := hcell _ _ (prs_at a.pr k hlt).1
                have hc2 := hcell _ _ (prs_at a.pr k hlt).2
                rw [← Nat.add_assoc] at hc2
                clear hcell
                obtain ⟨b2, o2, rfl, l2, hcell⟩ := (HR'.out.prs.below (KT.out.bel.mono HR'.out.le)).row (by omega) (by omega)
                have hc3 := hcell _ _ (prs_at b.pr k hlt').1
                have hc4 := hcell _ _ (prs_at b.pr k hlt').2
                rw [← Nat.add_assoc] at hc4
                clear hcell
                have i0 : (0 : Int) ≤ (k : Int) := Int.natCast_nonneg _
                have i1 : (k : Int) < (a.pr.length : Int) := by omega
                have i2 : (k : Int) < (b.pr.length : Int) := by omega
                have hak := Lib.hid (List.getElem?_eq_getElem hlt)
                have hbk := Lib.hid (List.getElem?_eq_getElem hlt')
                have hq := HQ.out a.pr[k].1 a.pr[k].2 b.pr[k].1 b.pr[k].2
                by_cases he : a.pr[k] = b.pr[k]
                · have y2 : (a.pr[k].1.toList == b.pr[k].1.toList) = true := (Lib.bytes_beq_iff _ _).2 (by rw [he])
                  have y3 : (a.pr[k].2.toList == b.pr[k].2.toList) = true := (Lib.bytes_beq_iff _ _).2 (by rw [he])
                  rw [y2, y3, Bool.and_self] at hq
                  have HE := Lib.hid he
                  clear he y2 y3
                  go_wp2_with fail
                  go_quiet (fail)
                  go_wp2_with fail
                  go_roundw
                  case rel =>
                    refine ⟨k + 1, by go_num, by omega, Lib.hid (KT.out.drewN _), Lib.hid fun j hj => ?_⟩
                    by_cases hj' : j < k
                    · exact KN.out j hj'
                    · obtain rfl : j = k := by omega
                      rw [hak.out, hbk.out, HE.out]
                  case measure => simp [intOf]; omega
                · have y2 : (a.pr[k].1.toList == b.pr[k].1.toList && a.pr[k].2.toList == b.pr[k].2.toList) = false := by
                    rw [← Bool.not_eq_true, Bool.and_eq_true, Lib.bytes_beq_iff, Lib.bytes_beq_iff]
                    intro h2; exact he (Prod.ext h2.1 h2.2)
                  rw [y2] at hq
                  have hne : Hid (a ≠ b) := Lib.hid fun e => he (by
                    have := hak.out.symm.trans ((congrArg (fun l : List (ByteArray × ByteArray) => l[k]?) (HI.out.1 e).2.2).trans hbk.out)
                    injection this)
                  clear he y2
                  go_wp2_with fail
                  go_quiet (fail)
                  go_wp2_with fail
                  go_ret
                  exact ⟨false, rfl, ⟨fun h => absurd h (by decide), fun h => absurd h hne.out⟩, below_drewN KT.out.bel _⟩
              · have hpr : Hid (a.pr = b.pr) := Lib.hid (List.ext_getElem? fun j => by
                  by_cases hj : j < a.pr.length
                  · exact KN.out j (by omega)
                  · rw [List.getElem?_eq_none (by omega), List.getElem?_eq_none (by rw [← E3.out]; omega)])
                go_wp2_with fail
                go_ret
                exact ⟨true, rfl, ⟨fun _ => HI.out.2 ⟨E1.out, hcl.out, hpr.out⟩, fun _ => rfl⟩, KT.out.bel⟩
      · have z3 : ((a.pr.length : Int) != (b.pr.length : Int)) = true := by simp; omega
        have z3' : (a.pr.length != b.pr.length) = true := by simp; omega
        have hne : Hid (a ≠ b) := Lib.hid fun e => e3 (by rw [(HI.out.1 e).2.2])
        clear e3
        go_enter Try.func20, Try.ntmps20
        go_wp2_with fail
        go_ret
        exact ⟨false, rfl, ⟨fun h => absurd h (by decide), fun h => absurd h hne.out⟩, HT0.out.bel⟩
    · have z2 : ((a.cl.length : Int) != (b.cl.length : Int)) = true := by simp; omega
      have z2' : (a.cl.length != b.cl.length) = true := by simp; omega
      have hne : Hid (a ≠ b) := Lib.hid fun e => e2 (by rw [(HI.out.1 e).2.1])
      clear e2
      go_enter Try.func20, Try.ntmps20
      go_wp2_with fail
      go_ret
      exact ⟨false, rfl, ⟨fun h => absurd h (by decide), fun h => absurd h hne.out⟩, HT0.out.bel⟩
  · have y1 : (a.id.toList == b.id.toList) = false := (Lib.bytes_beq_false_iff _ _).2 e1
    have hne : Hid (a ≠ b) := Lib.hid fun e => e1 (HI.out.1 e).1
    clear e1
    go_enter Try.func20, Try.ntmps20
    go_wp2_with fail
    go_ret
    exact ⟨false, rfl, ⟨fun h => absurd h (by decide), fun h => absurd h hne.out⟩, HT0.out.bel⟩
end Go.Proofs.Ytkcfcdnchlmekaa
