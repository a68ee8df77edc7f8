/-
  The reference's Check.
-/
import Derived.Test.YtkcfcdnchlmekaaAttrL
import Derived.Deep.QuietTactic
import Derived.BigQuiet
set_option linter.unusedVariables false
set_option linter.unusedSimpArgs false
namespace Go.Pub
open Go.RowKit
theorem quiet_add_left {P : Program} {f : FuncId} {args : Array Value} {w : World} {a n : Nat} {v : Value}
    (h : Calls P f args (w.drewN (a + n)) fun e w' => e = .returned v ∧ w.drewN (a + n) = w') :
    Calls P f args (w.drewN (a + n)) fun e w'' => e = .returned v ∧ ∃ m, w'' = w.drewN (a + m) :=
  h.mono fun _ _ ⟨he, hm⟩ => ⟨he, n, hm.symm⟩
theorem quiet_left {P : Program} {f : FuncId} {args : Array Value} {w : World} {n : Nat} {v : Value}
    (h : Calls P f args (w.drewN n) fun e w' => e = .returned v ∧ w.drewN n = w') : Calls P f args (w.drewN n) fun e w'' => e = .returned v ∧ ∃ m, w'' = w.drewN m :=
  h.mono fun _ _ ⟨he, hm⟩ => ⟨he, n, hm.symm⟩
theorem Reads.take {w : World} {B size n k : Nat} {A : Option Addr} {xs : List Value} (h : Reads w B size A n xs) (hk : k ≤ n) : Reads w B size A k (xs.take (k * size)) := by
  refine ⟨by rw [List.length_take, h.1]; exact Nat.min_eq_left (Nat.mul_le_mul_right _ hk), fun h0 => ?_⟩
  obtain ⟨ad, e, hb, hc⟩ := h.2 (by omega)
  refine ⟨ad, e, hb, fun j u hu => hc j u ?_⟩
  rw [List.getElem?_take] at hu
  split at hu
  · exact hu
  · cases hu
theorem strs_take (l : List ByteArray) (k : Nat) : strs (l.take k) = (strs l).take (k * 1) := by unfold strs; rw [Nat.mul_one, List.map_take]
theorem prs_take (l : List (ByteArray × ByteArray)) (k : Nat) : prs (l.take k) = (prs l).take (k * 2) := by
  induction l generalizing k with
  | nil => simp [prs]
  | cons p l ih =>
    cases k with
    | zero => simp [prs]
    | succ k =>
      have := ih k
      unfold prs at this ⊢
      rw [List.take_succ_cons, List.flatMap_cons, List.flatMap_cons, this]
      rw [show (k + 1) * 2 = (k * 2) + 2 by omega]
      rfl
end Go.Pub
namespace Go.Proofs.Ytkcfcdnchlmekaa
open Go.RowKit Go.Pub

theorem hasText_take (A : Option Addr) (c B k : Nat) (zs : List ByteArray) (x : ByteArray) (w : World) (hr : Reads w B 1 A zs.length (strs zs)) (hk : k ≤ zs.length) (hn : zs.length ≤ 1000000) :
    Calls Try.prog 33 #[.slice A k c, .string x] w fun e w' => e = .returned (.bool (Lib.containsS (zs.take k) x)) ∧ w = w' := by
  have e : (zs.take k).length = k := by rw [List.length_take]; omega
  have h := hasText_any A c B (zs.take k) x w (by rw [e, strs_take]; exact hr.take hk) (by omega)
  rw [e] at h
  exact h
theorem contains_keys (zs : List (ByteArray × ByteArray)) (x : ByteArray) : hasKeyL zs x = Lib.containsS (keysOf zs) x := by
  rw [Bool.eq_iff_iff, Lib.containsS_iff]
  unfold hasKeyL keysOf
  induction zs with
  | nil => simp [getL]
  | cons p l ih =>
    unfold getL
    by_cases h : p.1 = x
    · rw [if_pos h]; simp [h]
    · rw [if_neg h, ih]; simp; intro e; exact absurd e.symm h
theorem hasKey_take (A : Option Addr) (c B k : Nat) (zs : List (ByteArray × ByteArray)) (x : ByteArray) (w : World) (hr : Reads w B 2 A zs.length (prs zs)) (hk : k ≤ zs.length) (hn : zs.length ≤ 1000000) :
    Calls Try.prog 35 #[.slice A k c, .string x] w fun e w' => e = .returned (.bool (Lib.containsS (keysOf (zs.take k)) x)) ∧ w = w' := by
  have e : (zs.take k).length = k := by rw [List.length_take]; omega
  have h := hasKey_any A c B (zs.take k) x w (by rw [e, prs_take]; exact hr.take hk) (by omega)
  rw [e, contains_keys] at h
  exact h

structure BInv (w : World) (a : AttrL) (A : Option Addr) (c : Nat) (D : Option Addr) (d : Nat) (wr : World) : Prop where
  blk : Blk wr w.heap.size 27 #[.string a.id, .slice A a.cl.length c, .slice D a.pr.length d]
  bel : Below w.heap.size w wr
theorem BInv.below {w : World} {a : AttrL} {A : Option Addr} {c : Nat} {D : Option Addr} {d : Nat} {wr w1 : World} (h : BInv w a A c D d wr) (hb : Below wr.heap.size wr w1) : BInv w a A c D d w1 :=
  ⟨h.blk.below hb h.blk.lt, h.bel.trans (hb.mono h.bel.size)⟩
theorem BInv.drewN {w : World} {a : AttrL} {A : Option Addr} {c : Nat} {D : Option Addr} {d : Nat} {wr : World} (h : BInv w a A c D d wr) (n : Nat) : BInv w a A c D d (wr.drewN n) := ⟨h.blk, below_drewN h.bel n⟩

set_option maxRecDepth 100000 in
set_option maxHeartbeats 4000000 in
theorem rcheck_rest (w : World) (a : AttrL) (A : Option Addr) (c : Nat) (D : Option Addr) (d B : Nat) (h : ReadA w B a A c D d) (hca : a.cl.length ≤ c) (hda : a.pr.length ≤ d) (hid : a.id = ⟨#[]⟩ ∨ (a.id ≠ ⟨#[]⟩ ∧ nameB a.id = true)) :
    Calls Try.prog 15 #[.agg #[.string a.id, .slice A a.cl.length c, .slice D a.pr.length d]] w fun e w' => e = .returned (.int .i64 (restE a)) ∧ Below w.heap.size w w' := by
  have hnc := h.nc
  have hnp := h.np
  have HRd := Lib.hid h
  have HE : Hid (restE a = if clsE (a.cl.take 0) (a.cl.drop 0) = 0 then (if prsE (keysOf (a.pr.take 0)) (a.pr.drop 0) = 0 then limE a else prsE (keysOf (a.pr.take 0)) (a.pr.drop 0)) else clsE (a.cl.take 0) (a.cl.drop 0)) := Lib.hid rfl
  have HL : Hid (limE a = if 32 < a.cl.length ∨ 32 < a.pr.length then 3 else 0) := Lib.hid rfl
  have HI0 : Hid (BInv w a A c D d (w.alloc (.cells #[.string a.id, .slice A a.cl.length c, .slice D a.pr.length d] 27))) := Lib.hid ⟨Blk.new _ _ _, (Below.refl _ _).alloc (Nat.le_refl _) _⟩
  have HN0 : Hid (∀ W, a.id ≠ ⟨#[]⟩ ∧ nameB a.id = true → Calls Try.prog 12 #[.string a.id] W fun e w' => e = .returned (.bool true) ∧ W = w') := Lib.hid fun W hh => by rw [← hh.2]; exact rname_any _ W (by have := h.sid; omega)
  clear h
  generalize restE a = R at *
  generalize limE a = L at *
  generalize hC0 : clsE (a.cl.take 0) (a.cl.drop 0) = C at *
  generalize hP0 : prsE (keysOf (a.pr.take 0)) (a.pr.drop 0) = PP at *
  have HC0 := Lib.hid hC0
  have HP0 := Lib.hid hP0
  clear hC0 hP0
  rcases hid with hid | hid
  case' inl =>
    have y1 : a.id.toList = [] := (toList_iff _).2 hid
    have y2 : a.id.toList.isEmpty = true := by rw [y1]; rfl
    clear hid HN0
    go_enter Try.func15, Try.ntmps15
    go_wp2_with fail
  case' inr =>
    have y1 : ¬ a.id.toList = [] := fun e => hid.1 ((toList_iff _).1 e)
    have y2 : a.id.toList.isEmpty = false := by rw [List.isEmpty_eq_false_iff]; exact y1
    have HN1 := Lib.hid fun W => HN0.out W hid
    clear hid HN0
    go_enter Try.func15, Try.ntmps15
    go_wp2_with fail
    ((with_reducible refine (HN1.out _).mono ?_))
    rintro e w1 ⟨rfl, rfl⟩
    go_wp2_with fail
  all_goals
    go_loopw [3] (fun v wr => ∃ k : Nat, v = .int .i64 k ∧ k ≤ a.cl.length ∧ Hid (BInv w a A c D d wr) ∧ Hid (clsE (a.cl.take k) (a.cl.drop k) = C)) (fun v _ => a.cl.length - (intOf v).toNat)
    case atStart => exact ⟨0, rfl, by omega, HI0, HC0⟩
    case round =>
      obtain ⟨k, rfl, hk, KI, KC⟩ := hrel
      have hb1 := KI.out.blk.cell 1
      have hb2 := KI.out.blk.cell 2
      simp at hb1 hb2
      by_cases hlt : k < a.cl.length
      · have hrd := HRd.out.cls.below (KI.out.bel.mono HRd.out.le)
        have KRd := Lib.hid hrd
        obtain ⟨b, off, rfl, hb, hcell⟩ := hrd.row (by omega) (by omega)
        have hc := hcell k _ (strs_at a.cl k hlt)
        clear hcell hrd
        have hsz := HRd.out.scl _ (List.getElem_mem hlt)
        have hat := Lib.hid ((clsE_at a.cl k hlt).symm.trans KC.out)
        have HN := Lib.hid (rname_any a.cl[k] wr (by omega))
        have HT : Hid (∀ n, Calls Try.prog 33 #[.slice (some ⟨b, off, none⟩) k c, .string a.cl[k]] (wr.drewN n) fun e w' => e = .returned (.bool (Lib.containsS (a.cl.take k) a.cl[k])) ∧ wr.drewN n = w') := Lib.hid fun n => hasText_take _ c _ k a.cl a.cl[k] _ (KRd.out.drewN n) hk hnc
        generalize nameB a.cl[k] = nb at *
        generalize Lib.containsS (a.cl.take k) a.cl[k] = cs at *
        cases nb
        · have hR : Hid (R = 6) := Lib.hid (by rw [HE.out, ← hat.out]; rfl)
          go_wp2_with fail
          ((with_reducible refine HN.out.mono ?_))
          rintro e w1 ⟨rfl, rfl⟩
          go_wp2
          go_ret
          exact ⟨ret_int (by rw [hR.out]; rfl), KI.out.bel⟩
        · go_wp2_with fail
          ((with_reducible refine HN.out.mono ?_))
          rintro e w2 ⟨rfl, rfl⟩
          go_wp2_with fail
          go_quiet ((go_at_call 33; exact quiet_left (HT.out _)))
          cases cs
          · go_wp2_with fail
            go_roundw
            case rel => exact ⟨k + 1, by go_num, by omega, Lib.hid (KI.out.drewN _), Lib.hid (by rw [← hat.out]; rfl)⟩
            case measure => simp [intOf]; omega
          · have hR : Hid (R = 7) := Lib.hid (by rw [HE.out, ← hat.out]; rfl)
            go_wp2_with fail
            go_ret
            exact ⟨ret_int (by rw [hR.out]; rfl), below_drewN KI.out.bel _⟩
      · have hC : Hid (C = 0) := Lib.hid (by rw [← KC.out, clsE_end _ _ (by omega)])
        go_wp2_with fail
        clear hb1 hb2
        obtain ⟨wo, rfl⟩ : ∃ wo : World, wo = wr := ⟨_, rfl⟩
        go_loopw [4] (fun v wr => ∃ k : Nat, v = .int .i64 k ∧ k ≤ a.pr.length ∧ Hid (BInv w a A c D d wr) ∧ Hid (prsE (keysOf (a.pr.take k)) (a.pr.drop k) = PP)) (fun v _ => a.pr.length - (intOf v).toNat)
        case atStart => exact ⟨0, rfl, by omega, KI, HP0⟩
        case round =>
          obtain ⟨k2, rfl, hk2, KJ, KP⟩ := hrel
          have hb1 := KJ.out.blk.cell 1
          have hb2 := KJ.out.blk.cell 2
          simp at hb1 hb2
          by_cases hlt2 : k2 < a.pr.length
          · have hrd := HRd.out.prs.below (KJ.out.bel.mono HRd.out.le)
            have KRd := Lib.hid hrd
            have hle2 := Nat.le_trans HRd.out.le KJ.out.bel.size
            obtain ⟨b2, off2, rfl, hbb, hcell⟩ := hrd.row (by omega) (by omega)
            have hc1 := hcell _ _ (prs_at a.pr k2 hlt2).1
            have hc2 := hcell _ _ (prs_at a.pr k2 hlt2).2
            rw [← Nat.add_assoc] at hc2
            clear hcell hrd
            have hs1 := (HRd.out.spr _ (List.getElem_mem hlt2)).1
            have hs2 := (HRd.out.spr _ (List.getElem_mem hlt2)).2
            have hat := Lib.hid ((prsE_at a.pr k2 hlt2).symm.trans KP.out)
            have HN := Lib.hid fun W => rname_any a.pr[k2].1 W (by omega)
            have HV := Lib.hid fun W => rline_any a.pr[k2].2 W hs2
            have HT : Hid (∀ W n, Below wr.heap.size wr W → Calls Try.prog 35 #[.slice (some ⟨b2, off2, none⟩) k2 d, .string a.pr[k2].1] (W.drewN n) fun e w' => e = .returned (.bool (Lib.containsS (keysOf (a.pr.take k2)) a.pr[k2].1)) ∧ W.drewN n = w') := Lib.hid fun W n hW => hasKey_take _ d _ k2 a.pr a.pr[k2].1 _ ((KRd.out.below (hW.mono hle2)).drewN n) hk2 hnp
            generalize nameB a.pr[k2].1 = nb at *
            generalize lineB a.pr[k2].2 = lb at *
            generalize Lib.containsS (keysOf (a.pr.take k2)) a.pr[k2].1 = cs at *
            cases nb
            · have hR : Hid (R = 6) := Lib.hid (by rw [HE.out, hC.out, ← hat.out]; rfl)
              go_wp2_with fail
              ((with_reducible refine (HN.out _).mono ?_))
              rintro e w3 ⟨rfl, rfl⟩
              go_wp2_with fail
              go_ret
              exact ⟨ret_int (by rw [hR.out]; rfl), KJ.out.bel⟩
            · cases lb
              · have hR : Hid (R = 17) := Lib.hid (by rw [HE.out, hC.out, ← hat.out]; rfl)
                go_wp2_with fail
                ((with_reducible refine (HN.out _).mono ?_))
                rintro e w3 ⟨rfl, rfl⟩
                go_wp2_with fail
                ((with_reducible refine (HV.out _).mono ?_))
                rintro e w3 ⟨rfl, b3⟩
                go_wp2_with fail
                go_ret
                exact ⟨ret_int (by rw [hR.out]; rfl), (KJ.out.below b3).bel⟩
              · go_wp2_with fail
                ((with_reducible refine (HN.out _).mono ?_))
                rintro e w3 ⟨rfl, rfl⟩
                go_wp2_with fail
                ((with_reducible refine (HV.out _).mono ?_))
                rintro e w3 ⟨rfl, b3⟩
                have KB := Lib.hid (KJ.out.below b3)
                have KB3 := Lib.hid b3
                have q1 := KB.out.blk.cell 2
                simp at q1
                have q2 : w3.cell? ⟨b2, off2 + k2 * 2, none⟩ = some (.string a.pr[k2].1) := (b3.cell (p := ⟨b2, off2 + k2 * 2, none⟩) (by show b2 < _; omega)).trans hc1
                have HT3 := Lib.hid fun n => HT.out w3 n b3
                clear b3
                go_wp2_with fail
                go_quiet ((go_at_call 35; exact quiet_left (HT3.out _)))
                cases cs
                · go_wp2_with fail
                  go_roundw
                  case rel => exact ⟨k2 + 1, by go_num, by omega, Lib.hid (KB.out.drewN _), Lib.hid (by rw [← hat.out]; rfl)⟩
                  case measure => simp [intOf]; omega
                · have hR : Hid (R = 7) := Lib.hid (by rw [HE.out, hC.out, ← hat.out]; rfl)
                  go_wp2_with fail
                  go_ret
                  exact ⟨ret_int (by rw [hR.out]; rfl), below_drewN KB.out.bel _⟩
          · have hP : Hid (PP = 0) := Lib.hid (by rw [← KP.out, prsE_end _ _ (by omega)])
            have hR : Hid (R = L) := Lib.hid (by rw [HE.out, hC.out, hP.out]; rfl)
            by_cases l1 : 32 < a.cl.length
            · have e1 : decide (32 < a.cl.length) = true := decide_eq_true l1
              go_wp2_with fail
              go_ret
              exact ⟨ret_int (by rw [hR.out, HL.out, if_pos (Or.inl l1)]; rfl), KJ.out.bel⟩
            · have e1 : decide (32 < a.cl.length) = false := decide_eq_false l1
              by_cases l2 : 32 < a.pr.length
              · have e2 : decide (32 < a.pr.length) = true := decide_eq_true l2
                go_wp2_with fail
                go_ret
                exact ⟨ret_int (by rw [hR.out, HL.out, if_pos (Or.inr l2)]; rfl), KJ.out.bel⟩
              · have e2 : decide (32 < a.pr.length) = false := decide_eq_false l2
                go_wp2_with fail
                go_ret
                exact ⟨ret_int (by rw [hR.out, HL.out, if_neg (by omega)]; rfl), KJ.out.bel⟩

set_option maxRecDepth 100000 in
set_option maxHeartbeats 1000000 in
theorem rcheck_name (w : World) (a : AttrL) (v1 v2 : Value) (hs : a.id.size ≤ 1000000) (h1 : a.id ≠ ⟨#[]⟩) (h2 : nameB a.id = false) :
    Calls Try.prog 15 #[.agg #[.string a.id, v1, v2]] w fun e w' => e = .returned (.int .i64 6) ∧ Below w.heap.size w w' := by
  have HN0 : Hid (∀ W, Calls Try.prog 12 #[.string a.id] W fun e w' => e = .returned (.bool false) ∧ W = w') := Lib.hid fun W => by rw [← h2]; exact rname_any _ W (by omega)
  have y1 : ¬ a.id.toList = [] := fun e => h1 ((toList_iff _).1 e)
  have y2 : a.id.toList.isEmpty = false := by rw [List.isEmpty_eq_false_iff]; exact y1
  clear h1 h2
  go_enter Try.func15, Try.ntmps15
  go_wp2_with fail
  ((with_reducible refine (HN0.out _).mono ?_))
  rintro e w1 ⟨rfl, rfl⟩
  go_wp2_with fail
  go_ret
  exact ⟨rfl, (Below.refl _ _).alloc (Nat.le_refl _) _⟩

theorem rcheck_any (w : World) (a : AttrL) (A : Option Addr) (c : Nat) (D : Option Addr) (d B : Nat) (h : ReadA w B a A c D d) (hca : a.cl.length ≤ c) (hda : a.pr.length ≤ d) :
    Calls Try.prog 15 #[.agg #[.string a.id, .slice A a.cl.length c, .slice D a.pr.length d]] w fun e w' => e = .returned (.int .i64 (checkE a)) ∧ Below w.heap.size w w' := by
  unfold checkE
  by_cases h1 : a.id = ⟨#[]⟩
  · rw [if_pos h1]; exact rcheck_rest w a A c D d B h hca hda (Or.inl h1)
  · rw [if_neg h1]
    by_cases h2 : nameB a.id = true
    · rw [if_pos h2]; exact rcheck_rest w a A c D d B h hca hda (Or.inr ⟨h1, h2⟩)
    · rw [if_neg h2]; exact rcheck_name w a _ _ h.sid h1 (by simpa using h2)
end Go.Proofs.Ytkcfcdnchlmekaa
