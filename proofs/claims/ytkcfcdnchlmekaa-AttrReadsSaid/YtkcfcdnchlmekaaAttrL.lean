/-
  attr.Check.
-/
import Derived.Test.YtkcfcdnchlmekaaSetMap
import Derived.Test.YtkcfcdnchlmekaaAttrF
set_option linter.unusedVariables false
set_option linter.unusedSimpArgs false
namespace Go.Proofs.Ytkcfcdnchlmekaa
open Go.RowKit Go.Pub

def clsE : List ByteArray → List ByteArray → Nat
  | _, [] => 0
  | seen, c :: r => if nameB c = false then 6 else if Lib.containsS seen c = true then 7 else clsE (seen ++ [c]) r
def prsE : List ByteArray → List (ByteArray × ByteArray) → Nat
  | _, [] => 0
  | seen, p :: r => if nameB p.1 = false then 6 else if lineB p.2 = false then 17 else if Lib.containsS seen p.1 = true then 7 else prsE (seen ++ [p.1]) r
def limE (a : AttrL) : Nat := if 32 < a.cl.length ∨ 32 < a.pr.length then 3 else 0
def restE (a : AttrL) : Nat := if clsE [] a.cl = 0 then (if prsE [] a.pr = 0 then limE a else prsE [] a.pr) else clsE [] a.cl
/-- The first error of attributes. -/
def checkE (a : AttrL) : Nat := if a.id = ⟨#[]⟩ then restE a else if nameB a.id = true then restE a else 6

theorem clsE_at (l : List ByteArray) (k : Nat) (h : k < l.length) : clsE (l.take k) (l.drop k) = if nameB l[k] = false then 6 else if Lib.containsS (l.take k) l[k] = true then 7 else clsE (l.take (k + 1)) (l.drop (k + 1)) := by
  rw [List.drop_eq_getElem_cons h, clsE, List.take_succ_eq_append_getElem h]
theorem clsE_end (l : List ByteArray) (k : Nat) (h : l.length ≤ k) : clsE (l.take k) (l.drop k) = 0 := by
  rw [List.drop_eq_nil_of_le h]; rfl
def keysOf (l : List (ByteArray × ByteArray)) : List ByteArray := l.map (·.1)
theorem prsE_at (l : List (ByteArray × ByteArray)) (k : Nat) (h : k < l.length) : prsE (keysOf (l.take k)) (l.drop k) = if nameB l[k].1 = false then 6 else if lineB l[k].2 = false then 17 else if Lib.containsS (keysOf (l.take k)) l[k].1 = true then 7 else prsE (keysOf (l.take (k + 1))) (l.drop (k + 1)) := by
  rw [List.drop_eq_getElem_cons h, prsE, List.take_succ_eq_append_getElem h]
  unfold keysOf
  rw [List.map_append]; rfl
theorem prsE_end (l : List (ByteArray × ByteArray)) (k : Nat) (h : l.length ≤ k) : prsE (keysOf (l.take k)) (l.drop k) = 0 := by
  rw [List.drop_eq_nil_of_le h]; rfl

/-- Attributes that are read alone. -/
structure ReadA (w : World) (B : Nat) (a : AttrL) (A : Option Addr) (c : Nat) (D : Option Addr) (d : Nat) : Prop where
  cls : Reads w B 1 A a.cl.length (strs a.cl)
  prs : Reads w B 2 D a.pr.length (prs a.pr)
  le : B ≤ w.heap.size
  nc : a.cl.length ≤ 1000000
  np : a.pr.length ≤ 1000000
  sid : a.id.size ≤ 1000000
  scl : ∀ x ∈ a.cl, x.size ≤ 1000000
  spr : ∀ x ∈ a.pr, x.1.size ≤ 1000000 ∧ x.2.size ≤ 1000000
theorem ReadA.below {w w' : World} {B : Nat} {a : AttrL} {A : Option Addr} {c : Nat} {D : Option Addr} {d : Nat} (h : ReadA w B a A c D d) (hb : Below w.heap.size w w') : ReadA w' B a A c D d :=
  ⟨h.cls.below (hb.mono h.le), h.prs.below (hb.mono h.le), Nat.le_trans h.le hb.size, h.nc, h.np, h.sid, h.scl, h.spr⟩

theorem zero_bool (w : World) : (zeroValue 4).run Try.prog w = .ok (.bool false) w := by kernel_rfl

/-- What stands in memory in Check's loops. -/
structure CInv (w : World) (a : AttrL) (A : Option Addr) (c : Nat) (D : Option Addr) (d : Nat) (keys : List ByteArray) (wr : World) : Prop where
  blk : Blk wr w.heap.size 27 #[.string a.id, .slice A a.cl.length c, .slice D a.pr.length d]
  map : SetMap wr (w.heap.size + 1) keys
  bel : Below w.heap.size w wr
theorem CInv.put {w : World} {a : AttrL} {A : Option Addr} {c : Nat} {D : Option Addr} {d : Nat} {keys keys' : List ByteArray} {wr w1 : World} (h : CInv w a A c D d keys wr) (hm : SetMap w1 (w.heap.size + 1) keys') (hg : wr.grownBy w1 (some (w.heap.size + 1))) : CInv w a A c D d keys' w1 :=
  ⟨h.blk.grown hg (by simp), hm, h.bel.grown hg h.bel.size (fun k hk => by injection hk with hk; omega)⟩
theorem CInv.below {w : World} {a : AttrL} {A : Option Addr} {c : Nat} {D : Option Addr} {d : Nat} {keys : List ByteArray} {wr w1 : World} (h : CInv w a A c D d keys wr) (hb : Below wr.heap.size wr w1) : CInv w a A c D d keys w1 :=
  ⟨h.blk.below hb h.blk.lt, h.map.below hb, h.bel.trans (hb.mono h.bel.size)⟩

set_option maxRecDepth 100000 in
set_option maxHeartbeats 4000000 in
theorem check_rest (w : World) (a : AttrL) (A : Option Addr) (c : Nat) (D : Option Addr) (d B : Nat) (h : ReadA w B a A c D d) (hid : a.id = ⟨#[]⟩ ∨ (a.id ≠ ⟨#[]⟩ ∧ nameB a.id = true)) :
    Calls Try.prog 14 #[.agg #[.string a.id, .slice A a.cl.length c, .slice D a.pr.length d]] w fun e w' => e = .returned (.int .i64 (restE a)) ∧ Below w.heap.size w w' := by
  have hnc := h.nc
  have hnp := h.np
  have HRd := Lib.hid h
  have HE : Hid (restE a = if clsE (a.cl.take 0) (a.cl.drop 0) = 0 then (if prsE (keysOf (a.pr.take 0)) (a.pr.drop 0) = 0 then limE a else prsE (keysOf (a.pr.take 0)) (a.pr.drop 0)) else clsE (a.cl.take 0) (a.cl.drop 0)) := Lib.hid rfl
  have HL : Hid (limE a = if 32 < a.cl.length ∨ 32 < a.pr.length then 3 else 0) := Lib.hid rfl
  have hmm := @run_makeMap Try.prog
  have HI0 : Hid (CInv w a A c D d [] ((w.alloc (.cells #[.string a.id, .slice A a.cl.length c, .slice D a.pr.length d] 27)).alloc (.map #[] 0))) := Lib.hid ⟨(Blk.new _ _ _).alloc _, by
      have := SetMap.new (w.alloc (.cells #[.string a.id, .slice A a.cl.length c, .slice D a.pr.length d] 27))
      simpa using this, ((Below.refl _ _).alloc (Nat.le_refl _) _).alloc (by simp) _⟩
  have HN0 : Hid (∀ W, a.id ≠ ⟨#[]⟩ ∧ nameB a.id = true → Calls Try.prog 11 #[.string a.id] W fun e w' => e = .returned (.bool true) ∧ W = w') := Lib.hid fun W hh => by rw [← hh.2]; exact name_any _ W (by have := h.sid; omega)
  clear h
  generalize restE a = R at *
  generalize limE a = L at *
  generalize hC0 : clsE (a.cl.take 0) (a.cl.drop 0) = C at *
  generalize hP0 : prsE (keysOf (a.pr.take 0)) (a.pr.drop 0) = PP at *
  have HC0 := Lib.hid hC0
  have HP0 := Lib.hid hP0
  clear hC0 hP0
  have KEY : Hid (∀ (K : Prop), K → K) := Lib.hid fun _ h => h
  rcases hid with hid | hid
  case' inl =>
    have y1 : a.id.toList = [] := (toList_iff _).2 hid
    have y2 : a.id.toList.isEmpty = true := by rw [y1]; rfl
    clear hid HN0
    go_enter Try.func14, Try.ntmps14
    go_wp2_with fail
  case' inr =>
    have y1 : ¬ a.id.toList = [] := fun e => hid.1 ((toList_iff _).1 e)
    have y2 : a.id.toList.isEmpty = false := by rw [List.isEmpty_eq_false_iff]; exact y1
    have HN1 := Lib.hid fun W => HN0.out W hid
    clear hid HN0
    go_enter Try.func14, Try.ntmps14
    go_wp2_with fail
    ((with_reducible refine (HN1.out _).mono ?_))
    rintro e w1 ⟨rfl, rfl⟩
    go_wp2_with fail
  all_goals
    go_loopw [21] (fun v wr => ∃ k : Nat, v = .int .i64 k ∧ k ≤ a.cl.length ∧ Hid (CInv w a A c D d (a.cl.take k) wr) ∧ Hid (clsE (a.cl.take k) (a.cl.drop k) = C)) (fun v _ => a.cl.length - (intOf v).toNat)
    case atStart => exact ⟨0, rfl, by omega, HI0, HC0⟩
    case round =>
      obtain ⟨k, rfl, hk, KI, KC⟩ := hrel
      have hml := KI.out.map.lt
      by_cases hlt : k < a.cl.length
      · obtain ⟨b, off, rfl, hb, hcell⟩ := (HRd.out.cls.below (KI.out.bel.mono HRd.out.le)).row (by omega) (by omega)
        have hc := hcell k _ (strs_at a.cl k hlt)
        clear hcell
        have hsz := HRd.out.scl _ (List.getElem_mem hlt)
        have hat := Lib.hid ((clsE_at a.cl k hlt).symm.trans KC.out)
        have HN := Lib.hid (name_any a.cl[k] wr (by omega))
        have HLk := KI.out.map.look Try.underlying45 Try.underlying9 (zero_bool wr) a.cl[k] (by unfold maxLen; omega)
        have HPt := Lib.hid (KI.out.map.put Try.underlying45 Try.underlying9 a.cl[k] (by unfold maxLen; omega))
        have htk := Lib.hid (List.take_succ_eq_append_getElem hlt)
        generalize nameB a.cl[k] = nb at *
        generalize Lib.containsS (a.cl.take k) a.cl[k] = cs at *
        cases nb
        · have hR : Hid (R = 6) := Lib.hid (by rw [HE.out, ← hat.out]; rfl)
          clear HLk
          go_wp2_with fail
          ((with_reducible refine HN.out.mono ?_))
          rintro e w1 ⟨rfl, rfl⟩
          go_wp2
          go_ret
          exact ⟨ret_int (by rw [hR.out]; rfl), KI.out.bel⟩
        · cases cs
          · obtain ⟨w1, hrun, hm1, hg1, hsz1⟩ := HPt.out rfl
            have HM1 := Lib.hid hm1
            have HG1 := Lib.hid hg1
            have HZ1 := Lib.hid hsz1
            clear hm1 hg1 hsz1
            go_wp2_with fail
            ((with_reducible refine HN.out.mono ?_))
            rintro e w2 ⟨rfl, rfl⟩
            go_wp2_with fail
            go_roundw
            case rel => exact ⟨k + 1, by go_num, by omega, Lib.hid (KI.out.put (by rw [htk.out]; exact HM1.out) HG1.out), Lib.hid (by rw [← hat.out]; rfl)⟩
            case measure => simp [intOf]; omega
          · have hR : Hid (R = 7) := Lib.hid (by rw [HE.out, ← hat.out]; rfl)
            go_wp2_with fail
            ((with_reducible refine HN.out.mono ?_))
            rintro e w2 ⟨rfl, rfl⟩
            go_wp2_with fail
            go_ret
            exact ⟨ret_int (by rw [hR.out]; rfl), KI.out.bel⟩
      · have hC : Hid (C = 0) := Lib.hid (by rw [← KC.out, clsE_end _ _ (by omega)])
        have hbc := KI.out.blk.cell 2
        simp at hbc
        obtain ⟨w1, hrun, hm1, hg1, hsz1⟩ := KI.out.map.clear Try.underlying45
        have KI1 := Lib.hid (KI.out.put hm1 hg1)
        have hbd := KI1.out.blk.cell 2
        simp at hbd
        clear hm1 hg1 hsz1
        go_wp2_with fail
        clear hrun hbc hbd
        obtain ⟨wo, rfl⟩ : ∃ wo : World, wo = w1 := ⟨_, rfl⟩
        go_loopw [38] (fun v wr => ∃ k : Nat, v = .int .i64 k ∧ k ≤ a.pr.length ∧ Hid (CInv w a A c D d (keysOf (a.pr.take k)) wr) ∧ Hid (prsE (keysOf (a.pr.take k)) (a.pr.drop k) = PP)) (fun v _ => a.pr.length - (intOf v).toNat)
        case atStart => exact ⟨0, rfl, by omega, KI1, HP0⟩
        case round =>
          obtain ⟨k2, rfl, hk2, KJ, KP⟩ := hrel
          have hml2 := KJ.out.map.lt
          by_cases hlt2 : k2 < a.pr.length
          · obtain ⟨b2, off2, rfl, hb2, hcell⟩ := (HRd.out.prs.below (KJ.out.bel.mono HRd.out.le)).row (by omega) (by omega)
            have hc1 := hcell _ _ (prs_at a.pr k2 hlt2).1
            have hc2 := hcell _ _ (prs_at a.pr k2 hlt2).2
            rw [← Nat.add_assoc] at hc2
            clear hcell
            have hs1 := (HRd.out.spr _ (List.getElem_mem hlt2)).1
            have hs2 := (HRd.out.spr _ (List.getElem_mem hlt2)).2
            have hat := Lib.hid ((prsE_at a.pr k2 hlt2).symm.trans KP.out)
            have HN := Lib.hid fun W => name_any a.pr[k2].1 W (by omega)
            have HV := Lib.hid fun W => cleanLine_any a.pr[k2].2 W (by omega)
            have HLk : Hid (∀ W, SetMap W (w.heap.size + 1) (keysOf (a.pr.take k2)) → (Instr.lookup 45 (.map (some (w.heap.size + 1))) (.string a.pr[k2].1) false).run Try.prog W = .ok (.bool (Lib.containsS (keysOf (a.pr.take k2)) a.pr[k2].1)) W) := Lib.hid fun W hW => hW.look Try.underlying45 Try.underlying9 (zero_bool W) a.pr[k2].1 (by unfold maxLen; omega)
            have HPt : Hid (∀ W, SetMap W (w.heap.size + 1) (keysOf (a.pr.take k2)) → Lib.containsS (keysOf (a.pr.take k2)) a.pr[k2].1 = false → ∃ w1, (Instr.mapUpdate 45 (.map (some (w.heap.size + 1))) (.string a.pr[k2].1) (.bool true)).run Try.prog W = .ok () w1 ∧ SetMap w1 (w.heap.size + 1) (keysOf (a.pr.take k2) ++ [a.pr[k2].1]) ∧ W.grownBy w1 (some (w.heap.size + 1)) ∧ w1.heap.size = W.heap.size) := Lib.hid fun W hW hh => hW.put Try.underlying45 Try.underlying9 a.pr[k2].1 (by unfold maxLen; omega) hh
            have htk : Hid (keysOf (a.pr.take (k2 + 1)) = keysOf (a.pr.take k2) ++ [a.pr[k2].1]) := Lib.hid (by unfold keysOf; rw [List.take_succ_eq_append_getElem hlt2, List.map_append]; rfl)
            have KA := Lib.hid (KJ.out.below ((Below.refl _ _).alloc (Nat.le_refl _) (.cells #[.string a.pr[k2].1, .string a.pr[k2].2] 42)))
            generalize nameB a.pr[k2].1 = nb at *
            generalize lineB a.pr[k2].2 = lb at *
            generalize Lib.containsS (keysOf (a.pr.take k2)) a.pr[k2].1 = cs at *
            cases nb
            · have hR : Hid (R = 6) := Lib.hid (by rw [HE.out, hC.out, ← hat.out]; rfl)
              go_wp2_with fail
              ((with_reducible refine (HN.out _).mono ?_))
              rintro e w3 ⟨rfl, rfl⟩
              go_wp2_with fail
              go_ret
              exact ⟨ret_int (by rw [hR.out]; rfl), KA.out.bel⟩
            · cases lb
              · have hR : Hid (R = 17) := Lib.hid (by rw [HE.out, hC.out, ← hat.out]; rfl)
                go_wp2_with fail
                ((with_reducible refine (HN.out _).mono ?_))
                rintro e w3 ⟨rfl, rfl⟩
                go_wp2_with fail
                ((with_reducible refine (HV.out _).mono ?_))
                rintro e w3 ⟨rfl, b3⟩
                go_wp2_with fail
                go_ret
                exact ⟨ret_int (by rw [hR.out]; rfl), (KA.out.below b3).bel⟩
              · cases cs
                · go_wp2_with fail
                  ((with_reducible refine (HN.out _).mono ?_))
                  rintro e w3 ⟨rfl, rfl⟩
                  go_wp2_with fail
                  ((with_reducible refine (HV.out _).mono ?_))
                  rintro e w3 ⟨rfl, b3⟩
                  have KB := Lib.hid (KA.out.below b3)
                  have q0 : w3.cell? ⟨wr.heap.size, 0, none⟩ = some (.string a.pr[k2].1) := by
                    rw [b3.cell (by simp)]; simp [go_sem]
                  have hlk := HLk.out w3 KB.out.map
                  obtain ⟨w4, hrun4, hm4, hg4, hz4⟩ := HPt.out w3 KB.out.map (by first | rfl | trivial)
                  have KC4 := Lib.hid (KB.out.put (keys' := keysOf (a.pr.take (k2 + 1))) (by rw [htk.out]; exact hm4) hg4)
                  clear hm4 hg4 hz4 b3
                  go_wp2_with fail
                  go_roundw
                  case rel => exact ⟨k2 + 1, by go_num, by omega, KC4, Lib.hid (by rw [← hat.out]; rfl)⟩
                  case measure => simp [intOf]; omega
                · have hR : Hid (R = 7) := Lib.hid (by rw [HE.out, hC.out, ← hat.out]; rfl)
                  go_wp2_with fail
                  ((with_reducible refine (HN.out _).mono ?_))
                  rintro e w3 ⟨rfl, rfl⟩
                  go_wp2_with fail
                  ((with_reducible refine (HV.out _).mono ?_))
                  rintro e w3 ⟨rfl, b3⟩
                  have KB := Lib.hid (KA.out.below b3)
                  have q0 : w3.cell? ⟨wr.heap.size, 0, none⟩ = some (.string a.pr[k2].1) := by
                    rw [b3.cell (by simp)]; simp [go_sem]
                  have hlk := HLk.out w3 KB.out.map
                  clear b3
                  go_wp2_with fail
                  go_ret
                  exact ⟨ret_int (by rw [hR.out]; rfl), KB.out.bel⟩
          · have hP : Hid (PP = 0) := Lib.hid (by rw [← KP.out, prsE_end _ _ (by omega)])
            have j1 := KJ.out.blk.cell 1
            have j2 := KJ.out.blk.cell 2
            simp at j1 j2
            have hR : Hid (R = L) := Lib.hid (by rw [HE.out, hC.out, hP.out]; rfl)
            by_cases l1 : 32 < a.cl.length
            · have e1 : decide (32 < a.cl.length) = true := decide_eq_true l1
              go_wp2_with fail
              go_ret
              exact ⟨ret_int (by rw [hR.out, HL.out, if_pos (Or.inl l1)]; rfl), KJ.out.bel⟩
            · have e1 : decide (32 < a.cl.length) = false := decide_eq_false l1
              by_cases l2 : 32 < a.pr.length
              · have e2 : decide (32 < a.pr.length) = true := decide_eq_true l2
                go_wp2_with fail
                go_ret
                exact ⟨ret_int (by rw [hR.out, HL.out, if_pos (Or.inr l2)]; rfl), KJ.out.bel⟩
              · have e2 : decide (32 < a.pr.length) = false := decide_eq_false l2
                go_wp2_with fail
                go_ret
                exact ⟨ret_int (by rw [hR.out, HL.out, if_neg (by omega)]; rfl), KJ.out.bel⟩

set_option maxRecDepth 100000 in
set_option maxHeartbeats 1000000 in
theorem check_name (w : World) (a : AttrL) (v1 v2 : Value) (hs : a.id.size ≤ 1000000) (h1 : a.id ≠ ⟨#[]⟩) (h2 : nameB a.id = false) :
    Calls Try.prog 14 #[.agg #[.string a.id, v1, v2]] w fun e w' => e = .returned (.int .i64 6) ∧ Below w.heap.size w w' := by
  have HN0 : Hid (∀ W, Calls Try.prog 11 #[.string a.id] W fun e w' => e = .returned (.bool false) ∧ W = w') := Lib.hid fun W => by rw [← h2]; exact name_any _ W (by omega)
  have y1 : ¬ a.id.toList = [] := fun e => h1 ((toList_iff _).1 e)
  have y2 : a.id.toList.isEmpty = false := by rw [List.isEmpty_eq_false_iff]; exact y1
  clear h1 h2
  go_enter Try.func14, Try.ntmps14
  go_wp2_with fail
  ((with_reducible refine (HN0.out _).mono ?_))
  rintro e w1 ⟨rfl, rfl⟩
  go_wp2_with fail
  go_ret
  exact ⟨rfl, (Below.refl _ _).alloc (Nat.le_refl _) _⟩

theorem check_any (w : World) (a : AttrL) (A : Option Addr) (c : Nat) (D : Option Addr) (d B : Nat) (h : ReadA w B a A c D d) :
    Calls Try.prog 14 #[.agg #[.string a.id, .slice A a.cl.length c, .slice D a.pr.length d]] w fun e w' => e = .returned (.int .i64 (checkE a)) ∧ Below w.heap.size w w' := by
  unfold checkE
  by_cases h1 : a.id = ⟨#[]⟩
  · rw [if_pos h1]; exact check_rest w a A c D d B h (Or.inl h1)
  · rw [if_neg h1]
    by_cases h2 : nameB a.id = true
    · rw [if_pos h2]; exact check_rest w a A c D d B h (Or.inr ⟨h1, h2⟩)
    · rw [if_neg h2]; exact check_name w a _ _ h.sid h1 (by simpa using h2)
end Go.Proofs.Ytkcfcdnchlmekaa
