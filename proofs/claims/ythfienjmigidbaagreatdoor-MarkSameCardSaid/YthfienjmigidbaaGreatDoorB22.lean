/-
  Texts of the proof, put together: AttrQ, AttrJ.
-/
import Derived.Test.YthfienjmigidbaaGreatDoorB21
import Derived.Laws.StructEq
import Derived.Test.YthfienjmigidbaaGreatDoorB13
set_option linter.unusedVariables false
set_option linter.unusedSimpArgs false
namespace Go.Pub
theorem AttrL.eq_iff (a b : AttrL) : a = b ↔ a.id = b.id ∧ a.cl = b.cl ∧ a.pr = b.pr := by
  cases a; cases b; simp
end Go.Pub
namespace Go.Proofs.YthfienjmigidbaaGreatDoor
open Go.RowKit Go.Pub

theorem pair_eq (a b c d : ByteArray) (w : World) : (Op.equalIn 10000 50 (.agg #[.string a, .string b]) (.agg #[.string c, .string d])).run Tryz.prog w = .ok (a.toList == c.toList && b.toList == d.toList) w := by
  have u9 := Tryz.underlying9
  have a9 := Tryz.isAgg9
  have z9 := Tryz.sizeOf9
  have hS : Tryz.prog.underlying 50 = some (.struct (Tryz.prog.fieldsOf 50)) := by kernel_rfl
  have hp : Tryz.prog.stoodInHeld 50 = false := by kernel_rfl
  rw [show (10000 : Nat) = 9999 + 1 from rfl, run_equalIn_agg w 9999 50 _ _ hS hp]
  simp only [Program.fieldsOf, Tryz.underlying50]
  go_simp
  by_cases h1 : a.toList = c.toList <;> by_cases h2 : b.toList = d.toList <;> simp [h1, h2]

def SamePost (a b : AttrL) (w : World) (e : Ending) (w' : World) : Prop := ∃ r : Bool, e = .returned (.bool r) ∧ (r = true ↔ a = b) ∧ Below w.heap.size w w'

structure TwoBlk (w : World) (u v : Array Value) (wr : World) : Prop where
  b1 : Blk wr w.heap.size 25 u
  b2 : Blk wr (w.heap.size + 1) 25 v
  bel : Below w.heap.size w wr
theorem TwoBlk.drewN {w wr : World} {u v : Array Value} (h : TwoBlk w u v wr) (n : Nat) : TwoBlk w u v (wr.drewN n) := ⟨h.b1, h.b2, below_drewN h.bel n⟩

set_option maxRecDepth 100000 in
set_option maxHeartbeats 4000000 in
theorem rsame_any (w : World) (a b : AttrL) (A : Option Addr) (c : Nat) (D : Option Addr) (d B : Nat) (A' : Option Addr) (c' : Nat) (D' : Option Addr) (d' B' : Nat) (h : ReadA w B a A c D d) (h' : ReadA w B' b A' c' D' d') :
    Calls Tryz.prog 11 #[.agg #[.string a.id, .slice A a.cl.length c, .slice D a.pr.length d], .agg #[.string b.id, .slice A' b.cl.length c', .slice D' b.pr.length d']] w (SamePost a b w) := by
  have HQ := Lib.hid pair_eq
  have HR := Lib.hid h
  have HR' := Lib.hid h'
  have hnc := h.nc
  have hnp := h.np
  have hnc' := h'.nc
  have hnp' := h'.np
  clear h h'
  have HI := Lib.hid (AttrL.eq_iff a b)
  have HT0 : Hid (TwoBlk w #[.string a.id, .slice A a.cl.length c, .slice D a.pr.length d] #[.string b.id, .slice A' b.cl.length c', .slice D' b.pr.length d'] ((w.alloc (.cells #[.string a.id, .slice A a.cl.length c, .slice D a.pr.length d] 25)).alloc (.cells #[.string b.id, .slice A' b.cl.length c', .slice D' b.pr.length d'] 25))) := Lib.hid ⟨(Blk.new _ _ _).alloc _, by
      have := Blk.new (w.alloc (.cells #[.string a.id, .slice A a.cl.length c, .slice D a.pr.length d] 25)) 25 #[.string b.id, .slice A' b.cl.length c', .slice D' b.pr.length d']
      simpa using this, ((Below.refl _ _).alloc (Nat.le_refl _) _).alloc (by simp) _⟩
  by_cases e1 : a.id = b.id
  · have y1 : (a.id.toList == b.id.toList) = true := (Lib.bytes_beq_iff _ _).2 e1
    have E1 := Lib.hid e1
    clear e1
    by_cases e2 : a.cl.length = b.cl.length
    · have z2 : ((a.cl.length : Int) != (b.cl.length : Int)) = false := by rw [e2]; simp
      have z2' : (a.cl.length != b.cl.length) = false := by rw [e2]; simp
      have E2 := Lib.hid e2
      clear e2
      by_cases e3 : a.pr.length = b.pr.length
      · have z3 : ((a.pr.length : Int) != (b.pr.length : Int)) = false := by rw [e3]; simp
        have z3' : (a.pr.length != b.pr.length) = false := by rw [e3]; simp
        have E3 := Lib.hid e3
        clear e3
        go_enter Tryz.func11, Tryz.ntmps11
        go_wp2_with fail
        go_loopw [5] (fun v wr => ∃ k : Nat, v = .int .i64 k ∧ k ≤ a.cl.length ∧ Hid (TwoBlk w #[.string a.id, .slice A a.cl.length c, .slice D a.pr.length d] #[.string b.id, .slice A' b.cl.length c', .slice D' b.pr.length d'] wr) ∧ Hid (∀ j, j < k → a.cl[j]? = b.cl[j]?)) (fun v _ => a.cl.length - (intOf v).toNat)
        case atStart => exact ⟨0, rfl, by omega, HT0, Lib.hid fun j hj => absurd hj (by omega)⟩
        case round =>
          clear HT0
          obtain ⟨k, rfl, hk, KT, KN⟩ := hrel
          have t1 := KT.out.b1.cell 1
          have t2 := KT.out.b1.cell 2
          have u1 := KT.out.b2.cell 1
          have u2 := KT.out.b2.cell 2
          simp at t1 t2 u1 u2
          by_cases hlt : k < a.cl.length
          · have hlt' : k < b.cl.length := by rw [← E2.out]; exact hlt
            obtain ⟨b1, o1, rfl, l1, hcell⟩ := (HR.out.cls.below (KT.out.bel.mono HR.out.le)).row (by omega) (by omega)
            have hc1 := hcell k _ (strs_at a.cl k hlt)
            clear hcell
            obtain ⟨b2, o2, rfl, l2, hcell⟩ := (HR'.out.cls.below (KT.out.bel.mono HR'.out.le)).row (by omega) (by omega)
            have hc2 := hcell k _ (strs_at b.cl k hlt')
            clear hcell
            have i0 : (0 : Int) ≤ (k : Int) := Int.natCast_nonneg _
            have i1 : (k : Int) < (a.cl.length : Int) := by omega
            have i2 : (k : Int) < (b.cl.length : Int) := by omega
            have hak := Lib.hid (List.getElem?_eq_getElem hlt)
            have hbk := Lib.hid (List.getElem?_eq_getElem hlt')
            by_cases he : a.cl[k] = b.cl[k]
            · have y2 : (a.cl[k].toList == b.cl[k].toList) = true := (Lib.bytes_beq_iff _ _).2 he
              have HE := Lib.hid he
              clear he
              go_wp2_with fail
              go_quiet (fail)
              go_wp2_with fail
              go_roundw
              case rel =>
                refine ⟨k + 1, by go_num, by omega, Lib.hid (KT.out.drewN _), Lib.hid fun j hj => ?_⟩
                by_cases hj' : j < k
                · exact KN.out j hj'
                · obtain rfl : j = k := by omega
                  rw [hak.out, hbk.out, HE.out]
              case measure => simp [intOf]; omega
            · have y2 : (a.cl[k].toList == b.cl[k].toList) = false := (Lib.bytes_beq_false_iff _ _).2 he
              have hne : Hid (a ≠ b) := Lib.hid fun e => he (by
                have := hak.out.symm.trans ((congrArg (fun l : List ByteArray => l[k]?) (HI.out.1 e).2.1).trans hbk.out)
                injection this)
              clear he
              go_wp2_with fail
              go_quiet (fail)
              go_wp2_with fail
              go_ret
              exact ⟨false, rfl, ⟨fun h => absurd h (by decide), fun h => absurd h hne.out⟩, below_drewN KT.out.bel _⟩
          · have hcl : Hid (a.cl = b.cl) := Lib.hid (List.ext_getElem? fun j => by
              by_cases hj : j < a.cl.length
              · exact KN.out j (by omega)
              · rw [List.getElem?_eq_none (by omega), List.getElem?_eq_none (by rw [← E2.out]; omega)])
            go_wp2_with fail
            clear t1 t2 u1 u2
            obtain ⟨wo, rfl⟩ : ∃ wo : World, wo = wr := ⟨_, rfl⟩
            go_loopw [6] (fun v wr => ∃ k : Nat, v = .int .i64 k ∧ k ≤ a.pr.length ∧ Hid (TwoBlk w #[.string a.id, .slice A a.cl.length c, .slice D a.pr.length d] #[.string b.id, .slice A' b.cl.length c', .slice D' b.pr.length d'] wr) ∧ Hid (∀ j, j < k → a.pr[j]? = b.pr[j]?)) (fun v _ => a.pr.length - (intOf v).toNat)
            case atStart => exact ⟨0, rfl, by omega, KT, Lib.hid fun j hj => absurd hj (by omega)⟩
            case round =>
              clear KT KN
              obtain ⟨k, rfl, hk, KT, KN⟩ := hrel
              have t2 := KT.out.b1.cell 2
              have u2 := KT.out.b2.cell 2
              simp at t2 u2
              by_cases hlt : k < a.pr.length
              · have hlt' : k < b.pr.length := by rw [← E3.out]; exact hlt
                obtain ⟨b1, o1, rfl, l1, hcell⟩ := (HR.out.prs.below (KT.out.bel.mono HR.out.le)).row (by omega) (by omega)
                have hc1 := hcell _ _ (prs_at a.pr k hlt).1
                have hc2 := hcell _ _ (prs_at a.pr k hlt).2
                rw [← Nat.add_assoc] at hc2
                clear hcell
                obtain ⟨b2, o2, rfl, l2, hcell⟩ := (HR'.out.prs.below (KT.out.bel.mono HR'.out.le)).row (by omega) (by omega)
                have hc3 := hcell _ _ (prs_at b.pr k hlt').1
                have hc4 := hcell _ _ (prs_at b.pr k hlt').2
                rw [← Nat.add_assoc] at hc4
                clear hcell
                have i0 : (0 : Int) ≤ (k : Int) := Int.natCast_nonneg _
                have i1 : (k : Int) < (a.pr.length : Int) := by omega
                have i2 : (k : Int) < (b.pr.length : Int) := by omega
                have hak := Lib.hid (List.getElem?_eq_getElem hlt)
                have hbk := Lib.hid (List.getElem?_eq_getElem hlt')
                have hq := HQ.out a.pr[k].1 a.pr[k].2 b.pr[k].1 b.pr[k].2
                by_cases he : a.pr[k] = b.pr[k]
                · have y2 : (a.pr[k].1.toList == b.pr[k].1.toList) = true := (Lib.bytes_beq_iff _ _).2 (by rw [he])
                  have y3 : (a.pr[k].2.toList == b.pr[k].2.toList) = true := (Lib.bytes_beq_iff _ _).2 (by rw [he])
                  rw [y2, y3, Bool.and_self] at hq
                  have HE := Lib.hid he
                  clear he y2 y3
                  go_wp2_with fail
                  go_quiet (fail)
                  go_wp2_with fail
                  go_roundw
                  case rel =>
                    refine ⟨k + 1, by go_num, by omega, Lib.hid (KT.out.drewN _), Lib.hid fun j hj => ?_⟩
                    by_cases hj' : j < k
                    · exact KN.out j hj'
                    · obtain rfl : j = k := by omega
                      rw [hak.out, hbk.out, HE.out]
                  case measure => simp [intOf]; omega
                · have y2 : (a.pr[k].1.toList == b.pr[k].1.toList && a.pr[k].2.toList == b.pr[k].2.toList) = false := by
                    rw [← Bool.not_eq_true, Bool.and_eq_true, Lib.bytes_beq_iff, Lib.bytes_beq_iff]
                    intro h2; exact he (Prod.ext h2.1 h2.2)
                  rw [y2] at hq
                  have hne : Hid (a ≠ b) := Lib.hid fun e => he (by
                    have := hak.out.symm.trans ((congrArg (fun l : List (ByteArray × ByteArray) => l[k]?) (HI.out.1 e).2.2).trans hbk.out)
                    injection this)
                  clear he y2
                  go_wp2_with fail
                  go_quiet (fail)
                  go_wp2_with fail
                  go_ret
                  exact ⟨false, rfl, ⟨fun h => absurd h (by decide), fun h => absurd h hne.out⟩, below_drewN KT.out.bel _⟩
              · have hpr : Hid (a.pr = b.pr) := Lib.hid (List.ext_getElem? fun j => by
                  by_cases hj : j < a.pr.length
                  · exact KN.out j (by omega)
                  · rw [List.getElem?_eq_none (by omega), List.getElem?_eq_none (by rw [← E3.out]; omega)])
                go_wp2_with fail
                go_ret
                exact ⟨true, rfl, ⟨fun _ => HI.out.2 ⟨E1.out, hcl.out, hpr.out⟩, fun _ => rfl⟩, KT.out.bel⟩
      · have z3 : ((a.pr.length : Int) != (b.pr.length : Int)) = true := by simp; omega
        have z3' : (a.pr.length != b.pr.length) = true := by simp; omega
        have hne : Hid (a ≠ b) := Lib.hid fun e => e3 (by rw [(HI.out.1 e).2.2])
        clear e3
        go_enter Tryz.func11, Tryz.ntmps11
        go_wp2_with fail
        go_ret
        exact ⟨false, rfl, ⟨fun h => absurd h (by decide), fun h => absurd h hne.out⟩, HT0.out.bel⟩
    · have z2 : ((a.cl.length : Int) != (b.cl.length : Int)) = true := by simp; omega
      have z2' : (a.cl.length != b.cl.length) = true := by simp; omega
      have hne : Hid (a ≠ b) := Lib.hid fun e => e2 (by rw [(HI.out.1 e).2.1])
      clear e2
      go_enter Tryz.func11, Tryz.ntmps11
      go_wp2_with fail
      go_ret
      exact ⟨false, rfl, ⟨fun h => absurd h (by decide), fun h => absurd h hne.out⟩, HT0.out.bel⟩
  · have y1 : (a.id.toList == b.id.toList) = false := (Lib.bytes_beq_false_iff _ _).2 e1
    have hne : Hid (a ≠ b) := Lib.hid fun e => e1 (HI.out.1 e).1
    clear e1
    go_enter Tryz.func11, Tryz.ntmps11
    go_wp2_with fail
    go_ret
    exact ⟨false, rfl, ⟨fun h => absurd h (by decide), fun h => absurd h hne.out⟩, HT0.out.bel⟩
end Go.Proofs.YthfienjmigidbaaGreatDoor
namespace Go.Proofs.YthfienjmigidbaaGreatDoor
open Go.RowKit Go.Pub

def RItemPost (r : Nat × Nat × AttrL) (base : Nat) (w : World) (e : Ending) (w' : World) : Prop :=
  ∃ (v : Value) (t : Nat), e = .returned (.tuple #[v, .int .i64 t, .int .i64 r.2.1]) ∧ (r.2.1 = 0 → t = r.1) ∧ AttrVal w' base v r.2.2 ∧ Below base w w'

theorem item_ret {W : World} {g : Nat} {x y z a5 a6 : Value} {P : Ending → World → Prop} {act : Act} (hr : Blk W g 25 #[x, y, z]) (h4 : act.tmps.getD 6 undef = .pointer (some ⟨g, 0, none⟩))
    (h5 : act.tmps.getD 7 undef = a5) (h6 : act.tmps.getD 8 undef = a6) (hd : act.defers = []) (hP : P (.returned (.tuple #[.agg #[x, y, z], a5, a6])) W) : bodyPost Tryz.prog Tryz.f119 P Exit.ret act W := by
  have c0 : W.cell? ⟨g, 0, none⟩ = some x := hr.cell 0
  have c1 : W.cell? ⟨g, 1, none⟩ = some y := hr.cell 1
  have c2 : W.cell? ⟨g, 2, none⟩ = some z := hr.cell 2
  refine bodyPost_ret (v := .tuple #[.agg #[x, y, z], a5, a6]) ?_ hd hP
  rw [Array.getD_eq_getD_getElem?] at h4 h5 h6
  simp [results, Tryz.results119, go_sem, h4, h5, h6, c0, c1, c2]

theorem OwnA.setId {w : World} {base : Nat} {a : AttrL} {vC vP : Value} (h : OwnA w base a vC vP) (x : ByteArray) : OwnA w base { a with id := x } vC vP := ⟨h.cls, h.prs, h.le, h.c32, h.p32⟩
theorem ritem_fin {W : World} {base g2 : Nat} {a : AttrL} {vC vP x y z : Value} (h : OwnA W base a vC vP) (hb2 : Blk W g2 25 #[x, y, z]) (hg : base ≤ g2) :
    Blk (((W.setCell ⟨g2, 0, none⟩ (.string a.id)).setCell ⟨g2, 1, none⟩ vC).setCell ⟨g2, 2, none⟩ vP) g2 25 #[.string a.id, vC, vP] ∧
    OwnA (((W.setCell ⟨g2, 0, none⟩ (.string a.id)).setCell ⟨g2, 1, none⟩ vC).setCell ⟨g2, 2, none⟩ vP) base a vC vP ∧
    Below base W (((W.setCell ⟨g2, 0, none⟩ (.string a.id)).setCell ⟨g2, 1, none⟩ vC).setCell ⟨g2, 2, none⟩ vP) := by
  have o2 : ∀ k, vC.ownBlock = some k → g2 ≠ k := own_g h.cls hb2 (by decide)
  have o4 : ∀ k, vP.ownBlock = some k → g2 ≠ k := own_g h.prs hb2 (by decide)
  refine ⟨?_, ((h.setCell o2 o4 _).setCell o2 o4 _).setCell o2 o4 _, (((Below.refl _ _).setCell (by simpa using hg) _).setCell (by simpa using hg) _).setCell (by simpa using hg) _⟩
  have := ((hb2.set_ 0 (.string a.id)).set_ 1 vC).set_ 2 vP
  simpa using this

theorem rpair_done {w1 w2 : World} {g g2 base : Nat} {a : AttrL} {vC vP v' x y z : Value} {key val : ByteArray} (h : OwnA w1 base a vC vP) (hb : Blk w1 g 25 #[.string a.id, vC, vP]) (hb2 : Blk w1 g2 25 #[x, y, z]) (hg2 : g < g2) (hgb : base ≤ g)
    (hown : w2.ownsRow base 50 2 v' (a.pr.length + 1) (prs a.pr ++ [.string key, .string val])) (hg : (w1.alloc (.cells #[.string key, .string val] 50)).grownBy w2 vP.ownBlock) (hl : a.pr.length < 32) :
    (Blk w2 g 25 #[.string a.id, vC, vP] ∧ Blk w2 g2 25 #[x, y, z]) ∧
    Blk ((((w2.setCell ⟨g, 2, none⟩ v').setCell ⟨g2, 0, none⟩ (.string a.id)).setCell ⟨g2, 1, none⟩ vC).setCell ⟨g2, 2, none⟩ v') g2 25 #[.string a.id, vC, v'] ∧
    OwnA ((((w2.setCell ⟨g, 2, none⟩ v').setCell ⟨g2, 0, none⟩ (.string a.id)).setCell ⟨g2, 1, none⟩ vC).setCell ⟨g2, 2, none⟩ v') base { a with pr := a.pr ++ [(key, val)] } vC v' ∧
    Below base w1 ((((w2.setCell ⟨g, 2, none⟩ v').setCell ⟨g2, 0, none⟩ (.string a.id)).setCell ⟨g2, 1, none⟩ vC).setCell ⟨g2, 2, none⟩ v') := by
  have e1 : some g ≠ vP.ownBlock := fun e => own_g h.prs hb (by decide) g e.symm rfl
  have e2 : some g2 ≠ vP.ownBlock := fun e => own_g h.prs hb2 (by decide) g2 e.symm rfl
  have B1 := (hb.alloc (.cells #[.string key, .string val] 50)).grown hg e1
  have B2 := (hb2.alloc (.cells #[.string key, .string val] 50)).grown hg e2
  have B4 := B2.far (p := ⟨g, 2, none⟩) (by simp; omega) v'
  have hO : OwnA w2 base { a with pr := a.pr ++ [(key, val)] } vC v' := by
    refine ⟨(h.cls.alloc _).kept hg (own_ne h.cls h.prs (by decide)), ?_, by have := hg.size; have := h.le; simp at *; omega, h.c32, by simp; omega⟩
    show w2.ownsRow base 50 2 v' (a.pr ++ [(key, val)]).length (prs (a.pr ++ [(key, val)]))
    unfold prs at hown ⊢
    rw [List.length_append, List.flatMap_append]
    exact hown
  have o1 : ∀ k, v'.ownBlock = some k → g ≠ k := own_g hown B1 (by decide)
  have o3 : ∀ k, vC.ownBlock = some k → g ≠ k := own_g h.cls hb (by decide)
  have hO1 := hO.setCell (p := ⟨g, 2, none⟩) o3 o1 v'
  obtain ⟨f1, f2, f3⟩ := ritem_fin hO1 B4 (by omega)
  exact ⟨⟨B1, B2⟩, f1, f2, ((((Below.refl _ _).alloc h.le _).grown hg (by have := h.le; simp; omega) (fun k hk => (h.prs.lt k hk).1)).setCell (by simpa using hgb) _).trans f3⟩

set_option maxRecDepth 100000 in
set_option maxHeartbeats 2000000 in
theorem ritem_id (w : World) (base : Nat) (a : AttrL) (vC vP : Value) (s : ByteArray) (i : Nat) (h : OwnA w base a vC vP) (hs : s.size ≤ 1000000) (hi : i < s.size) (hb : bt s i = 35) :
    Calls Tryz.prog 119 #[.agg #[.string a.id, vC, vP], .string s, .int .i64 i] w (RItemPost (itemL a s i) base w) := by
  have HI : Hid (itemL a s i = (if nameB (nameAt s (i + 1)) = true then (if a.id = ⟨#[]⟩ then (wordAt s (i + 1), 0, { a with id := nameAt s (i + 1) }) else (0, 7, a)) else (0, 5, a))) := Lib.hid (by unfold itemL; rw [if_pos hb])
  have hlt : ((s[i].toNat : Nat) : Int) < 256 := by rw [get_bt s i hi]; omega
  have z1 : (((s[i].toNat : Nat) : Int) == 35) = true := by rw [get_bt s i hi, hb]; rfl
  clear hb
  have hwb := wEnd_bd s (s.size - (i + 1)) (i + 1)
  have hw1 : i + 1 ≤ wordAt s (i + 1) := hwb.1
  have hw2 : wordAt s (i + 1) ≤ s.size := hwb.2 hi
  clear hwb
  have HW : Hid (∀ W, Calls Tryz.prog 129 #[.string s, .int .i64 ((i : Int) + 1)] W fun e w' => e = .returned (.int .i64 (wordAt s (i + 1))) ∧ W = w') := Lib.hid fun W => by rw [← nat_succ]; exact word_any s (i + 1) W (by omega)
  have HN : Hid (∀ W, Calls Tryz.prog 95 #[.string (s.extract (i + 1) (wordAt s (i + 1)))] W fun e w' => e = .returned (.bool (nameB (nameAt s (i + 1)))) ∧ W = w') := Lib.hid fun W => rname_any _ W (by rw [extract_size s _ _ hw1 hw2]; omega)
  have HNA : Hid (nameAt s (i + 1) = s.extract (i + 1) (wordAt s (i + 1))) := Lib.hid rfl
  obtain ⟨AC, cC, rfl⟩ := own_slice h.cls
  obtain ⟨AP, cP, rfl⟩ := own_slice h.prs
  have hle := h.le
  have HT := Lib.hid (two_alloc a _ _ base h (.cells #[.string a.id, .slice AC a.cl.length cC, .slice AP a.pr.length cP] 25))
  have HT2 := Lib.hid (two_alloc { a with id := s.extract (i + 1) (wordAt s (i + 1)) } _ _ base (h.setId _) (.cells #[.string (s.extract (i + 1) (wordAt s (i + 1))), .slice AC a.cl.length cC, .slice AP a.pr.length cP] 25))
  clear h
  generalize itemL a s i = T at *
  generalize nameB (nameAt s (i + 1)) = nb at *
  generalize nameAt s (i + 1) = na at *
  generalize wordAt s (i + 1) = t at *
  cases nb
  · go_enter Tryz.func119, Tryz.ntmps119
    go_wp2_with fail
    ((with_reducible refine (HW.out _).mono ?_))
    rintro e w1 ⟨rfl, rfl⟩
    go_wp2_with fail
    ((with_reducible refine (HN.out _).mono ?_))
    rintro e w1 ⟨rfl, rfl⟩
    go_wp2_with fail
    refine item_ret HT.out.1 rfl rfl rfl rfl ?_
    rw [HI.out]
    exact ⟨_, 0, rfl, fun _ => rfl, HT.out.2.1.val, HT.out.2.2.mono hle⟩
  · by_cases hid : a.id = ⟨#[]⟩
    · have hT : Hid (T = (t, 0, { a with id := na })) := Lib.hid (by rw [HI.out, if_pos rfl, if_pos hid])
      have y1 : a.id.toList = [] := (toList_iff _).2 hid
      have y2 : a.id.toList.isEmpty = true := by rw [y1]; rfl
      clear hid
      go_enter Tryz.func119, Tryz.ntmps119
      go_wp2_with fail
      ((with_reducible refine (HW.out _).mono ?_))
      rintro e w1 ⟨rfl, rfl⟩
      go_wp2_with fail
      ((with_reducible refine (HN.out _).mono ?_))
      rintro e w1 ⟨rfl, rfl⟩
      go_wp2_with fail
      refine item_ret HT2.out.1 rfl rfl rfl rfl ?_
      rw [hT.out, HNA.out]
      exact ⟨_, t, rfl, fun _ => rfl, HT2.out.2.1.val, HT2.out.2.2.mono hle⟩
    · have hT : Hid (T = (0, 7, a)) := Lib.hid (by rw [HI.out, if_pos rfl, if_neg hid])
      have y1 : ¬ a.id.toList = [] := fun e => hid ((toList_iff _).1 e)
      have y2 : a.id.toList.isEmpty = false := by rw [List.isEmpty_eq_false_iff]; exact y1
      clear hid
      go_enter Tryz.func119, Tryz.ntmps119
      go_wp2_with fail
      ((with_reducible refine (HW.out _).mono ?_))
      rintro e w1 ⟨rfl, rfl⟩
      go_wp2_with fail
      ((with_reducible refine (HN.out _).mono ?_))
      rintro e w1 ⟨rfl, rfl⟩
      go_wp2_with fail
      refine item_ret HT.out.1 rfl rfl rfl rfl ?_
      rw [hT.out]
      exact ⟨_, 0, rfl, fun _ => rfl, HT.out.2.1.val, HT.out.2.2.mono hle⟩

set_option maxRecDepth 100000 in
set_option maxHeartbeats 2000000 in
theorem ritem_cl (w : World) (base : Nat) (a : AttrL) (vC vP : Value) (s : ByteArray) (i : Nat) (h : OwnA w base a vC vP) (hs : s.size ≤ 1000000) (hi : i < s.size) (hb : bt s i = 46) :
    Calls Tryz.prog 119 #[.agg #[.string a.id, vC, vP], .string s, .int .i64 i] w (RItemPost (itemL a s i) base w) := by
  have HI : Hid (itemL a s i = (if nameB (nameAt s (i + 1)) = true then (wordAt s (i + 1), classE a (nameAt s (i + 1)), classA a (nameAt s (i + 1))) else (0, 5, a))) := Lib.hid (by unfold itemL; rw [if_neg (by omega), if_pos hb])
  have hlt : ((s[i].toNat : Nat) : Int) < 256 := by rw [get_bt s i hi]; omega
  have z1 : (((s[i].toNat : Nat) : Int) == 35) = false := by rw [get_bt s i hi, hb]; rfl
  have z2 : (((s[i].toNat : Nat) : Int) == 46) = true := by rw [get_bt s i hi, hb]; rfl
  clear hb
  have hwb := wEnd_bd s (s.size - (i + 1)) (i + 1)
  have hw1 : i + 1 ≤ wordAt s (i + 1) := hwb.1
  have hw2 : wordAt s (i + 1) ≤ s.size := hwb.2 hi
  clear hwb
  have HW : Hid (∀ W, Calls Tryz.prog 129 #[.string s, .int .i64 ((i : Int) + 1)] W fun e w' => e = .returned (.int .i64 (wordAt s (i + 1))) ∧ W = w') := Lib.hid fun W => by rw [← nat_succ]; exact word_any s (i + 1) W (by omega)
  have HN : Hid (∀ W, Calls Tryz.prog 95 #[.string (s.extract (i + 1) (wordAt s (i + 1)))] W fun e w' => e = .returned (.bool (nameB (nameAt s (i + 1)))) ∧ W = w') := Lib.hid fun W => rname_any _ W (by rw [extract_size s _ _ hw1 hw2]; omega)
  obtain ⟨AC, cC, rfl⟩ := own_slice h.cls
  obtain ⟨AP, cP, rfl⟩ := own_slice h.prs
  have hle := h.le
  have HT := Lib.hid (two_alloc a _ _ base h (.cells #[.string a.id, .slice AC a.cl.length cC, .slice AP a.pr.length cP] 25))
  have KB := Lib.hid (((Below.refl _ w).alloc (Nat.le_refl _) (.cells #[.string a.id, .slice AC a.cl.length cC, .slice AP a.pr.length cP] 25)).alloc (by simp) (.cells #[.string ⟨#[]⟩, .slice none 0 0, .slice none 0 0] 25))
  have KO := Lib.hid (h.below KB.out)
  have K2 : Hid (Blk ((w.alloc (.cells #[.string a.id, .slice AC a.cl.length cC, .slice AP a.pr.length cP] 25)).alloc (.cells #[.string ⟨#[]⟩, .slice none 0 0, .slice none 0 0] 25)) (w.heap.size + 1) 25 #[.string ⟨#[]⟩, .slice none 0 0, .slice none 0 0]) := Lib.hid (by
    have := Blk.new (w.alloc (.cells #[.string a.id, .slice AC a.cl.length cC, .slice AP a.pr.length cP] 25)) 25 #[.string ⟨#[]⟩, .slice none 0 0, .slice none 0 0]
    simpa using this)
  have HC : Hid (Calls Tryz.prog 146 #[.agg #[.string a.id, .slice AC a.cl.length cC, .slice AP a.pr.length cP], .string (s.extract (i + 1) (wordAt s (i + 1)))] ((w.alloc (.cells #[.string a.id, .slice AC a.cl.length cC, .slice AP a.pr.length cP] 25)).alloc (.cells #[.string ⟨#[]⟩, .slice none 0 0, .slice none 0 0] 25)) (ClassPost (classE a (nameAt s (i + 1))) (classA a (nameAt s (i + 1))) base (Value.slice AC a.cl.length cC).ownBlock ((w.alloc (.cells #[.string a.id, .slice AC a.cl.length cC, .slice AP a.pr.length cP] 25)).alloc (.cells #[.string ⟨#[]⟩, .slice none 0 0, .slice none 0 0] 25)))) := Lib.hid (rclass_any _ base a _ _ (nameAt s (i + 1)) KO.out)
  clear h
  generalize itemL a s i = T at *
  generalize nameB (nameAt s (i + 1)) = nb at *
  generalize classE a (nameAt s (i + 1)) = E1 at *
  generalize classA a (nameAt s (i + 1)) = A1 at *
  generalize wordAt s (i + 1) = t at *
  cases nb
  · go_enter Tryz.func119, Tryz.ntmps119
    go_wp2_with fail
    ((with_reducible refine (HW.out _).mono ?_))
    rintro e w1 ⟨rfl, rfl⟩
    go_wp2_with fail
    ((with_reducible refine (HN.out _).mono ?_))
    rintro e w1 ⟨rfl, rfl⟩
    go_wp2_with fail
    refine item_ret HT.out.1 rfl rfl rfl rfl ?_
    rw [HI.out]
    exact ⟨_, 0, rfl, fun _ => rfl, HT.out.2.1.val, HT.out.2.2.mono hle⟩
  · go_enter Tryz.func119, Tryz.ntmps119
    go_wp2_with fail
    ((with_reducible refine (HW.out _).mono ?_))
    rintro e w1 ⟨rfl, rfl⟩
    go_wp2_with fail
    ((with_reducible refine (HN.out _).mono ?_))
    rintro e w1 ⟨rfl, rfl⟩
    go_wp2_with fail
    ((with_reducible refine HC.out.mono ?_))
    rintro e w1 ⟨v, rfl, hv, hg⟩
    obtain ⟨⟨vC1, vP1, rfl, hc1, hp1⟩, h32, p32⟩ := hv
    obtain ⟨A2, c2, rfl⟩ := own_slice hc1
    obtain ⟨A3, c3, rfl⟩ := own_slice hp1
    have B2 := K2.out.grown hg (fun e => own_g KO.out.cls K2.out (by decide) _ e.symm rfl)
    have hz1 := hg.size
    simp only [heap_alloc_size] at hz1
    have hO1 : OwnA w1 base A1 (.slice A2 A1.cl.length c2) (.slice A3 A1.pr.length c3) := ⟨hc1, hp1, by omega, h32, p32⟩
    have HF := Lib.hid (ritem_fin hO1 B2 (by omega))
    have HBB := Lib.hid ((KB.out.mono hle).grown hg (by simp; omega) (fun k hk => (KO.out.cls.lt k hk).1))
    have k0 := B2.cell 0
    have k1 := B2.cell 1
    have k2 := B2.cell 2
    simp at k0 k1 k2
    have m0 := B2.frozen 0
    have m1 := B2.frozen 1
    have m2 := B2.frozen 2
    have hlt1 : w.heap.size + 1 < w1.heap.size := by omega
    clear B2 hO1 hg hc1 hp1
    go_wp2_with fail
    refine item_ret (HF.out.1.alloc _) rfl rfl rfl rfl ?_
    rw [HI.out]
    exact ⟨_, t, rfl, fun _ => rfl, (HF.out.2.1.below ((Below.refl _ _).alloc (Nat.le_refl _) _)).val, (HBB.out.trans HF.out.2.2).alloc HF.out.2.1.le _⟩

set_option maxRecDepth 100000 in
set_option maxHeartbeats 4000000 in
theorem ritem_pr (w : World) (base : Nat) (a : AttrL) (vC vP : Value) (s : ByteArray) (i : Nat) (h : OwnA w base a vC vP) (hs : s.size ≤ 1000000) (hi : i < s.size) (hb1 : bt s i ≠ 35) (hb2 : bt s i ≠ 46) :
    Calls Tryz.prog 119 #[.agg #[.string a.id, vC, vP], .string s, .int .i64 i] w (RItemPost (itemL a s i) base w) := by
  have HI : Hid (itemL a s i = if nameB (nameAt s i) = true then pairItem a s (nameAt s i) (wordAt s i) else (0, 5, a)) := Lib.hid (by unfold itemL; rw [if_neg hb1, if_neg hb2])
  have hlt : ((s[i].toNat : Nat) : Int) < 256 := by rw [get_bt s i hi]; have := bt_lt s i; omega
  have z1 : (((s[i].toNat : Nat) : Int) == 35) = false := by rw [get_bt s i hi, beq_eq_false_iff_ne]; omega
  have z2 : (((s[i].toNat : Nat) : Int) == 46) = false := by rw [get_bt s i hi, beq_eq_false_iff_ne]; omega
  clear hb1 hb2
  have hwb := wEnd_bd s (s.size - i) i
  have hw1 : i ≤ wordAt s i := hwb.1
  have hw2 : wordAt s i ≤ s.size := hwb.2 (by omega)
  clear hwb
  have HW := Lib.hid (fun W => word_any s i W (by omega))
  have HN : Hid (∀ W, Calls Tryz.prog 95 #[.string (s.extract i (wordAt s i))] W fun e w' => e = .returned (.bool (nameB (nameAt s i))) ∧ W = w') := Lib.hid fun W => rname_any _ W (by rw [extract_size s _ _ hw1 hw2]; omega)
  have HNA : Hid (nameAt s i = s.extract i (wordAt s i)) := Lib.hid rfl
  obtain ⟨AC, cC, rfl⟩ := own_slice h.cls
  obtain ⟨AP, cP, rfl⟩ := own_slice h.prs
  obtain ⟨i0, hi0, hz0, hz1, hz2⟩ := info_parts pair_info
  have hle := h.le
  have HT := Lib.hid (two_alloc a _ _ base h (.cells #[.string a.id, .slice AC a.cl.length cC, .slice AP a.pr.length cP] 25))
  have KB := Lib.hid (((Below.refl _ w).alloc (Nat.le_refl _) (.cells #[.string a.id, .slice AC a.cl.length cC, .slice AP a.pr.length cP] 25)).alloc (by simp) (.cells #[.string ⟨#[]⟩, .slice none 0 0, .slice none 0 0] 25))
  have KO := Lib.hid (h.below KB.out)
  have K1 := Lib.hid ((Blk.new w 25 #[.string a.id, .slice AC a.cl.length cC, .slice AP a.pr.length cP]).alloc (.cells #[.string ⟨#[]⟩, .slice none 0 0, .slice none 0 0] 25))
  have K2 : Hid (Blk ((w.alloc (.cells #[.string a.id, .slice AC a.cl.length cC, .slice AP a.pr.length cP] 25)).alloc (.cells #[.string ⟨#[]⟩, .slice none 0 0, .slice none 0 0] 25)) (w.heap.size + 1) 25 #[.string ⟨#[]⟩, .slice none 0 0, .slice none 0 0]) := Lib.hid (by
    have := Blk.new (w.alloc (.cells #[.string a.id, .slice AC a.cl.length cC, .slice AP a.pr.length cP] 25)) 25 #[.string ⟨#[]⟩, .slice none 0 0, .slice none 0 0]
    simpa using this)
  have HPI : Hid (pairItem a s (nameAt s i) (wordAt s i) = if wordAt s i < s.size ∧ bt s (wordAt s i) = 61 then (if (valL s (wordAt s i + 1)).2.2 = true then ((valL s (wordAt s i + 1)).2.1, pairE a (nameAt s i), pairA a (nameAt s i) (valL s (wordAt s i + 1)).1) else (0, 5, a)) else (0, 5, a)) := Lib.hid rfl
  have HPE : Hid (pairE a (nameAt s i) = if hasKeyL a.pr (nameAt s i) = true then 7 else if 32 ≤ a.pr.length then 3 else 0) := Lib.hid rfl
  have HPA : Hid (∀ v, pairA a (nameAt s i) v = if pairE a (nameAt s i) = 0 then { a with pr := a.pr ++ [(nameAt s i, v)] } else a) := Lib.hid fun _ => rfl
  have HK : Hid (∀ W, Reads W W.heap.size 2 AP a.pr.length (prs a.pr) → Calls Tryz.prog 148 #[.slice AP a.pr.length cP, .string (s.extract i (wordAt s i))] W fun e w' => e = .returned (.bool (hasKeyL a.pr (nameAt s i))) ∧ W = w') := Lib.hid fun W hr => hasKey_any AP cP _ a.pr (nameAt s i) W hr (by have := h.p32; omega)
  clear h
  generalize pairItem a s (nameAt s i) (wordAt s i) = PI at *
  generalize itemL a s i = T at *
  generalize nameB (nameAt s i) = nb at *
  generalize pairA a (nameAt s i) = A1 at *
  generalize pairE a (nameAt s i) = E1 at *
  generalize hasKeyL a.pr (nameAt s i) = hk at *
  generalize nameAt s i = na at *
  generalize wordAt s i = t at *
  cases nb
  · go_enter Tryz.func119, Tryz.ntmps119
    go_wp2_with fail
    ((with_reducible refine (HW.out _).mono ?_))
    rintro e w1 ⟨rfl, rfl⟩
    go_wp2_with fail
    ((with_reducible refine (HN.out _).mono ?_))
    rintro e w1 ⟨rfl, rfl⟩
    go_wp2_with fail
    refine item_ret HT.out.1 rfl rfl rfl rfl ?_
    rw [HI.out]
    exact ⟨_, 0, rfl, fun _ => rfl, HT.out.2.1.val, HT.out.2.2.mono hle⟩
  · by_cases ht : t < s.size
    · have htl : ((s[t].toNat : Nat) : Int) < 256 := by rw [get_bt s t ht]; have := bt_lt s t; omega
      by_cases h61 : bt s t = 61
      · have z3 : (((s[t].toNat : Nat) : Int) != 61) = false := by rw [get_bt s t ht, h61]; rfl
        have hT : Hid (T = if (valL s (t + 1)).2.2 = true then ((valL s (t + 1)).2.1, E1, A1 (valL s (t + 1)).1) else (0, 5, a)) := Lib.hid (by rw [HI.out, if_pos rfl, HPI.out, if_pos ⟨ht, h61⟩])
        have d1 : decide (s.size ≤ t) = false := decide_eq_false (by omega)
        clear h61
        have HV : Hid (∀ W, Calls Tryz.prog 147 #[.string s, .int .i64 ((t : Int) + 1)] W (TripleBelow (strictV (valL s (t + 1))) W)) := Lib.hid fun W => by rw [← nat_succ]; exact rvalue_any s (t + 1) W hs (by omega)
        generalize valL s (t + 1) = V at *
        obtain ⟨v, t2, ok⟩ := V
        cases ok
        · go_enter Tryz.func119, Tryz.ntmps119
          go_wp2_with fail
          ((with_reducible refine (HW.out _).mono ?_))
          rintro e w1 ⟨rfl, rfl⟩
          go_wp2_with fail
          ((with_reducible refine (HN.out _).mono ?_))
          rintro e w1 ⟨rfl, rfl⟩
          go_wp2_with fail
          ((with_reducible refine (HV.out _).mono ?_))
          rintro e w1 ⟨rfl, b1⟩
          have hz1 := b1.size
          simp only [heap_alloc_size] at hz1
          have B1 := K1.out.below b1 (by simp; omega)
          have B2 := K2.out.below b1 (by simp)
          have KF := Lib.hid (ritem_fin (KO.out.below b1) B2 (by omega))
          have j0 := B1.cell 0
          have j1 := B1.cell 1
          have j2 := B1.cell 2
          have k0 := B2.cell 0
          have k1 := B2.cell 1
          have k2 := B2.cell 2
          simp at j0 j1 j2 k0 k1 k2
          have m0 := B2.frozen 0
          have m1 := B2.frozen 1
          have m2 := B2.frozen 2
          have KB1 := Lib.hid b1
          clear B1 B2 b1
          go_wp2_with fail
          refine item_ret KF.out.1 rfl rfl rfl rfl ?_
          rw [hT.out]
          exact ⟨_, 0, rfl, fun _ => rfl, KF.out.2.1.val, ((KB.out.mono hle).trans (KB1.out.mono (by simp; omega))).trans KF.out.2.2⟩
        · have hT2 : Hid (T = (t2, E1, A1 v)) := hT
          clear hT
          have HV2 : Hid (∀ W, Calls Tryz.prog 147 #[.string s, .int .i64 ((t : Int) + 1)] W (TripleBelow (v, t2, true) W)) := Lib.hid fun W => HV.out W
          clear HV
          have HV := HV2
          clear HV2
          have common : ∀ (w1 : World), Below ((w.alloc (.cells #[.string a.id, .slice AC a.cl.length cC, .slice AP a.pr.length cP] 25)).alloc (.cells #[.string ⟨#[]⟩, .slice none 0 0, .slice none 0 0] 25)).heap.size ((w.alloc (.cells #[.string a.id, .slice AC a.cl.length cC, .slice AP a.pr.length cP] 25)).alloc (.cells #[.string ⟨#[]⟩, .slice none 0 0, .slice none 0 0] 25)) w1 →
              w.heap.size + 1 < w1.heap.size ∧ Blk w1 w.heap.size 25 #[.string a.id, .slice AC a.cl.length cC, .slice AP a.pr.length cP] ∧ Blk w1 (w.heap.size + 1) 25 #[.string ⟨#[]⟩, .slice none 0 0, .slice none 0 0] ∧ OwnA w1 base a (.slice AC a.cl.length cC) (.slice AP a.pr.length cP) ∧ Below base w w1 := fun w1 b1 => by
            have hzz := b1.size
            simp only [heap_alloc_size] at hzz
            exact ⟨by omega, K1.out.below b1 (by simp; omega), K2.out.below b1 (by simp), KO.out.below b1, (KB.out.mono hle).trans (b1.mono (by simp; omega))⟩
          have KC := Lib.hid common
          clear common
          cases hk
          · by_cases hl : 32 ≤ a.pr.length
            · have hE : Hid (E1 = 3) := Lib.hid (by rw [HPE.out, if_neg (by decide), if_pos hl])
              go_enter Tryz.func119, Tryz.ntmps119
              go_wp2_with fail
              ((with_reducible refine (HW.out _).mono ?_))
              rintro e w1 ⟨rfl, rfl⟩
              go_wp2_with fail
              ((with_reducible refine (HN.out _).mono ?_))
              rintro e w1 ⟨rfl, rfl⟩
              go_wp2_with fail
              ((with_reducible refine (HV.out _).mono ?_))
              rintro e w1 ⟨rfl, b1⟩
              obtain ⟨hzz, B1, B2, O1, b2⟩ := KC.out w1 b1
              have KF := Lib.hid (ritem_fin O1 B2 (by omega))
              have KO1 := Lib.hid O1
              have KB2 := Lib.hid b2
              have j0 := B1.cell 0
              have j1 := B1.cell 1
              have j2 := B1.cell 2
              have k0 := B2.cell 0
              have k1 := B2.cell 1
              have k2 := B2.cell 2
              simp at j0 j1 j2 k0 k1 k2
              have m0 := B2.frozen 0
              have m1 := B2.frozen 1
              have m2 := B2.frozen 2
              clear B1 B2 b1 O1 b2
              go_wp2_with fail
              ((with_reducible refine (HK.out _ (Reads.of_own KO1.out.prs)).mono ?_))
              rintro e w4 ⟨rfl, rfl⟩
              go_wp2_with fail
              refine item_ret KF.out.1 rfl rfl rfl rfl ?_
              rw [hT2.out, HPA.out, hE.out, if_neg (by decide)]
              exact ⟨_, 0, rfl, fun h => absurd h (by simp), KF.out.2.1.val, KB2.out.trans KF.out.2.2⟩
            · have hE : Hid (E1 = 0) := Lib.hid (by rw [HPE.out, if_neg (by decide), if_neg hl])
              have hl' : a.pr.length < 32 := by omega
              go_enter Tryz.func119, Tryz.ntmps119
              go_wp2_with fail
              ((with_reducible refine (HW.out _).mono ?_))
              rintro e w1 ⟨rfl, rfl⟩
              go_wp2_with fail
              ((with_reducible refine (HN.out _).mono ?_))
              rintro e w1 ⟨rfl, rfl⟩
              go_wp2_with fail
              ((with_reducible refine (HV.out _).mono ?_))
              rintro e w1 ⟨rfl, b1⟩
              obtain ⟨hzz, B1, B2, O1, b2⟩ := KC.out w1 b1
              have KO1 := Lib.hid O1
              have KB2 := Lib.hid b2
              have K11 := Lib.hid B1
              have K12 := Lib.hid B2
              have j0 := B1.cell 0
              have j1 := B1.cell 1
              have j2 := B1.cell 2
              simp at j0 j1 j2
              clear B1 B2 b1 O1 b2
              go_wp2_with fail
              ((with_reducible refine (HK.out _ (Reads.of_own KO1.out.prs)).mono ?_))
              rintro e w4 ⟨rfl, rfl⟩
              go_wp2_with (at_builtin; refine wpList_append_own _ rfl _ _ 23 rfl base 50 i0 _ 2 32 Tryz.underlying23 hi0 hz0 hz1 hz2 rfl (by decide) _ _ _ rfl (KO1.out.prs.alloc _) ⟨w1.heap.size, 0, none⟩ 1 1 [.string (s.extract i t), .string v] rfl rfl ?c1 ?c2 ?c3 ?c4 ?c5 ?_)
              case c1 =>
                intro j u hj
                match j, hj with
                | 0, hj => simp at hj; subst hj; simp [Addr.add]
                | 1, hj => simp at hj; subst hj; simp [Addr.add]
              case c2 => intro u hu; simp at hu; rcases hu with rfl | rfl <;> rfl
              case c3 => unfold maxLen; omega
              case c4 => omega
              case c5 => simp; omega
              intro v' w2 hown2 hgrow _
              obtain ⟨A2, c2, rfl⟩ := own_slice hown2
              obtain ⟨⟨B1, B2⟩, hd⟩ := rpair_done KO1.out K11.out K12.out (by omega) hle hown2 hgrow hl'
              have HD := Lib.hid hd
              clear hd hown2 hgrow
              have f2 := B1.frozen 2
              have m2 := B2.frozen 0
              have m3 := B2.frozen 1
              have m4 := B2.frozen 2
              have j0 := B1.cell 0
              have j1 := B1.cell 1
              have j2 := B1.cell 2
              have j3 := B2.cell 0
              have j4 := B2.cell 1
              have j5 := B2.cell 2
              simp at j0 j1 j2 j3 j4 j5
              clear B1 B2
              go_wp2
              refine item_ret HD.out.1 rfl rfl rfl rfl ?_
              rw [hT2.out, HPA.out, hE.out, if_pos rfl, HNA.out]
              exact ⟨_, t2, rfl, fun _ => rfl, HD.out.2.1.val, KB2.out.trans HD.out.2.2⟩
          · have hE : Hid (E1 = 7) := Lib.hid (by rw [HPE.out, if_pos rfl])
            go_enter Tryz.func119, Tryz.ntmps119
            go_wp2_with fail
            ((with_reducible refine (HW.out _).mono ?_))
            rintro e w1 ⟨rfl, rfl⟩
            go_wp2_with fail
            ((with_reducible refine (HN.out _).mono ?_))
            rintro e w1 ⟨rfl, rfl⟩
            go_wp2_with fail
            ((with_reducible refine (HV.out _).mono ?_))
            rintro e w1 ⟨rfl, b1⟩
            obtain ⟨hzz, B1, B2, O1, b2⟩ := KC.out w1 b1
            have KF := Lib.hid (ritem_fin O1 B2 (by omega))
            have KO1 := Lib.hid O1
            have KB2 := Lib.hid b2
            have j0 := B1.cell 0
            have j1 := B1.cell 1
            have j2 := B1.cell 2
            have k0 := B2.cell 0
            have k1 := B2.cell 1
            have k2 := B2.cell 2
            simp at j0 j1 j2 k0 k1 k2
            have m0 := B2.frozen 0
            have m1 := B2.frozen 1
            have m2 := B2.frozen 2
            clear B1 B2 b1 O1 b2
            go_wp2_with fail
            ((with_reducible refine (HK.out _ (Reads.of_own KO1.out.prs)).mono ?_))
            rintro e w4 ⟨rfl, rfl⟩
            go_wp2_with fail
            refine item_ret KF.out.1 rfl rfl rfl rfl ?_
            rw [hT2.out, HPA.out, hE.out, if_neg (by decide)]
            exact ⟨_, 0, rfl, fun h => absurd h (by simp), KF.out.2.1.val, KB2.out.trans KF.out.2.2⟩
      · have z3 : (((s[t].toNat : Nat) : Int) != 61) = true := by rw [get_bt s t ht]; simp; omega
        have d1 : decide (s.size ≤ t) = false := decide_eq_false (by omega)
        have hT : Hid (T = (0, 5, a)) := Lib.hid (by rw [HI.out, if_pos rfl, HPI.out, if_neg (fun h => h61 h.2)])
        clear h61
        go_enter Tryz.func119, Tryz.ntmps119
        go_wp2_with fail
        ((with_reducible refine (HW.out _).mono ?_))
        rintro e w1 ⟨rfl, rfl⟩
        go_wp2_with fail
        ((with_reducible refine (HN.out _).mono ?_))
        rintro e w1 ⟨rfl, rfl⟩
        go_wp2_with fail
        refine item_ret HT.out.1 rfl rfl rfl rfl ?_
        rw [hT.out]
        exact ⟨_, 0, rfl, fun _ => rfl, HT.out.2.1.val, HT.out.2.2.mono hle⟩
    · have d1 : decide (s.size ≤ t) = true := decide_eq_true (by omega)
      have hT : Hid (T = (0, 5, a)) := Lib.hid (by rw [HI.out, if_pos rfl, HPI.out, if_neg (fun h => ht h.1)])
      go_enter Tryz.func119, Tryz.ntmps119
      go_wp2_with fail
      ((with_reducible refine (HW.out _).mono ?_))
      rintro e w1 ⟨rfl, rfl⟩
      go_wp2_with fail
      ((with_reducible refine (HN.out _).mono ?_))
      rintro e w1 ⟨rfl, rfl⟩
      go_wp2_with fail
      refine item_ret HT.out.1 rfl rfl rfl rfl ?_
      rw [hT.out]
      exact ⟨_, 0, rfl, fun _ => rfl, HT.out.2.1.val, HT.out.2.2.mono hle⟩

theorem ritem_any (w : World) (base : Nat) (a : AttrL) (vC vP : Value) (s : ByteArray) (i : Nat) (h : OwnA w base a vC vP) (hs : s.size ≤ 1000000) (hi : i < s.size) :
    Calls Tryz.prog 119 #[.agg #[.string a.id, vC, vP], .string s, .int .i64 i] w (RItemPost (itemL a s i) base w) := by
  by_cases h1 : bt s i = 35
  · exact ritem_id w base a vC vP s i h hs hi h1
  · by_cases h2 : bt s i = 46
    · exact ritem_cl w base a vC vP s i h hs hi h2
    · exact ritem_pr w base a vC vP s i h hs hi h1 h2
end Go.Proofs.YthfienjmigidbaaGreatDoor
