/-
  Texts of the proof, put together: MkQ.
-/
import Derived.Test.YthfienjmigidbaaGreatDoorB30
import Derived.Deep.RegionHeld3
import Derived.StillTailTactics
import Derived.StillTail
set_option linter.unusedVariables false
set_option linter.unusedSimpArgs false
namespace Go.Proofs.YthfienjmigidbaaGreatDoor
open Go.RowKit Go.Pub

set_option maxRecDepth 100000 in
set_option maxHeartbeats 4000000 in
theorem r_markSame (a b : MkL) (A1 A2 A3 A4 : Option Addr) (n1 c1 n2 c2 n3 c3 n4 c4 : Nat) (w : World) (ha : a.off ≤ 2000000) (hb : b.off ≤ 2000000) (hi : b.kind = 6 → b.info.size ≤ 1000000) :
    Calls Tryz.prog 14 #[.agg (a.cells (.slice A1 n1 c1) (.slice A2 n2 c2)), .agg (b.cells (.slice A3 n3 c3) (.slice A4 n4 c4))] w fun e w' => e = .returned (.bool (sameR a b)) ∧ Below w.heap.size w w' := by
  have HR : Hid (sameR a b = decide (a.kind = b.kind ∧ a.ch = b.ch ∧ (b.kind = 6 ∧ (b.off : Int) - 2 - (b.info.size : Int) < (a.off : Int) ∨ b.kind = 5 ∧ (b.off : Int) - 2 < (a.off : Int)))) := Lib.hid rfl
  generalize sameR a b = R at *
  obtain ⟨ka, na, ca, oa, ia, ra, da, ta, aa⟩ := a
  obtain ⟨kb, nb, cb, ob, ib, rb, db, tb, ab⟩ := b
  simp only [MkL.cells] at *
  by_cases hk : ka = kb
  case neg =>
    have z1 : (((ka : Nat) : Int) == (kb : Int)) = false := by rw [beq_eq_false_iff_ne]; omega
    have HF : Hid (R = false) := Lib.hid (by rw [HR.out, decide_eq_false (fun h => hk h.1)])
    clear HR
    go_enter Tryz.func14, Tryz.ntmps14
    go_wp2_with fail
    have HA1 : Blk (w.alloc (.cells #[.int .i64 (ka : Nat), .int .i64 (na : Nat), .string ca, .int .i64 (oa : Nat), .string ia, .string ra, .string da, .string ta, .string aa.id, .slice A1 n1 c1, .slice A2 n2 c2] 27)) w.heap.size 27 #[.int .i64 (ka : Nat), .int .i64 (na : Nat), .string ca, .int .i64 (oa : Nat), .string ia, .string ra, .string da, .string ta, .string aa.id, .slice A1 n1 c1, .slice A2 n2 c2] := Blk.new w _ _
    have HB1 := Blk.new (w.alloc (.cells #[.int .i64 (ka : Nat), .int .i64 (na : Nat), .string ca, .int .i64 (oa : Nat), .string ia, .string ra, .string da, .string ta, .string aa.id, .slice A1 n1 c1, .slice A2 n2 c2] 27)) 27 #[.int .i64 (kb : Nat), .int .i64 (nb : Nat), .string cb, .int .i64 (ob : Nat), .string ib, .string rb, .string db, .string tb, .string ab.id, .slice A3 n3 c3, .slice A4 n4 c4]
    have HA2 := Blk.below HA1 ((Below.refl _ (w.alloc (.cells #[.int .i64 (ka : Nat), .int .i64 (na : Nat), .string ca, .int .i64 (oa : Nat), .string ia, .string ra, .string da, .string ta, .string aa.id, .slice A1 n1 c1, .slice A2 n2 c2] 27))).alloc (Nat.le_refl _) (.cells #[.int .i64 (kb : Nat), .int .i64 (nb : Nat), .string cb, .int .i64 (ob : Nat), .string ib, .string rb, .string db, .string tb, .string ab.id, .slice A3 n3 c3, .slice A4 n4 c4] 27)) (Blk.lt HA1)
    have hz : (w.alloc (.cells #[.int .i64 (ka : Nat), .int .i64 (na : Nat), .string ca, .int .i64 (oa : Nat), .string ia, .string ra, .string da, .string ta, .string aa.id, .slice A1 n1 c1, .slice A2 n2 c2] 27)).heap.size = w.heap.size + 1 := by simp
    rw [hz] at HB1
    have HBW : Below w.heap.size w ((w.alloc (.cells #[.int .i64 (ka : Nat), .int .i64 (na : Nat), .string ca, .int .i64 (oa : Nat), .string ia, .string ra, .string da, .string ta, .string aa.id, .slice A1 n1 c1, .slice A2 n2 c2] 27)).alloc (.cells #[.int .i64 (kb : Nat), .int .i64 (nb : Nat), .string cb, .int .i64 (ob : Nat), .string ib, .string rb, .string db, .string tb, .string ab.id, .slice A3 n3 c3, .slice A4 n4 c4] 27)) := ((Below.refl _ w).alloc (Nat.le_refl _) _).alloc (by simp) _
    have hzW : ((w.alloc (.cells #[.int .i64 (ka : Nat), .int .i64 (na : Nat), .string ca, .int .i64 (oa : Nat), .string ia, .string ra, .string da, .string ta, .string aa.id, .slice A1 n1 c1, .slice A2 n2 c2] 27)).alloc (.cells #[.int .i64 (kb : Nat), .int .i64 (nb : Nat), .string cb, .int .i64 (ob : Nat), .string ib, .string rb, .string db, .string tb, .string ab.id, .slice A3 n3 c3, .slice A4 n4 c4] 27)).heap.size = w.heap.size + 2 := by simp
    generalize (w.alloc (.cells #[.int .i64 (ka : Nat), .int .i64 (na : Nat), .string ca, .int .i64 (oa : Nat), .string ia, .string ra, .string da, .string ta, .string aa.id, .slice A1 n1 c1, .slice A2 n2 c2] 27)).alloc (.cells #[.int .i64 (kb : Nat), .int .i64 (nb : Nat), .string cb, .int .i64 (ob : Nat), .string ib, .string rb, .string db, .string tb, .string ab.id, .slice A3 n3 c3, .slice A4 n4 c4] 27) = W at *
    have a0 := HA2.cell 0
    have a2 := HA2.cell 2
    have a3 := HA2.cell 3
    have b0 := HB1.cell 0
    have b2 := HB1.cell 2
    simp only [List.getElem?_toArray, List.getElem?_cons_succ, List.getElem?_cons_zero] at a0 a2 a3 b0 b2
    clear HA1 HA2 HB1 hz hzW
    go_quiet (fail)
    go_wp2_with fail
    go_ret
    exact ⟨ret_bool (by rw [HF.out]), below_drewN HBW _⟩
  subst hk
  have z0 : (((ka : Nat) : Int) == (ka : Int)) = true := by rw [beq_iff_eq]
  by_cases h5 : ka = 5
  · have z1 : (((ka : Nat) : Int) == 5) = true := by rw [h5]; rfl
    by_cases hc : ca = cb
    · subst hc
      have y1 : (ca.toList == ca.toList) = true := (Lib.bytes_beq_iff _ _).2 rfl
      have HF : Hid (R = decide (indentR { kind := ka, n := nb, ch := ca, off := ob, info := ib, rest := rb, dest := db, title := tb, att := ab } < (oa : Int))) := Lib.hid (by rw [HR.out]; unfold indentR; simp [h5])
      have HI := Lib.hid fun W => r_markIndent { kind := ka, n := nb, ch := ca, off := ob, info := ib, rest := rb, dest := db, title := tb, att := ab } A3 A4 n3 c3 n4 c4 W hb hi
      simp only [MkL.cells] at HI
      generalize indentR _ = I at *
      clear HR h5
      go_enter Tryz.func14, Tryz.ntmps14
      go_wp2_with fail
      have HA1 : Blk (w.alloc (.cells #[.int .i64 (ka : Nat), .int .i64 (na : Nat), .string ca, .int .i64 (oa : Nat), .string ia, .string ra, .string da, .string ta, .string aa.id, .slice A1 n1 c1, .slice A2 n2 c2] 27)) w.heap.size 27 #[.int .i64 (ka : Nat), .int .i64 (na : Nat), .string ca, .int .i64 (oa : Nat), .string ia, .string ra, .string da, .string ta, .string aa.id, .slice A1 n1 c1, .slice A2 n2 c2] := Blk.new w _ _
      have HB1 := Blk.new (w.alloc (.cells #[.int .i64 (ka : Nat), .int .i64 (na : Nat), .string ca, .int .i64 (oa : Nat), .string ia, .string ra, .string da, .string ta, .string aa.id, .slice A1 n1 c1, .slice A2 n2 c2] 27)) 27 #[.int .i64 (ka : Nat), .int .i64 (nb : Nat), .string ca, .int .i64 (ob : Nat), .string ib, .string rb, .string db, .string tb, .string ab.id, .slice A3 n3 c3, .slice A4 n4 c4]
      have HA2 := Blk.below HA1 ((Below.refl _ (w.alloc (.cells #[.int .i64 (ka : Nat), .int .i64 (na : Nat), .string ca, .int .i64 (oa : Nat), .string ia, .string ra, .string da, .string ta, .string aa.id, .slice A1 n1 c1, .slice A2 n2 c2] 27))).alloc (Nat.le_refl _) (.cells #[.int .i64 (ka : Nat), .int .i64 (nb : Nat), .string ca, .int .i64 (ob : Nat), .string ib, .string rb, .string db, .string tb, .string ab.id, .slice A3 n3 c3, .slice A4 n4 c4] 27)) (Blk.lt HA1)
      have hz : (w.alloc (.cells #[.int .i64 (ka : Nat), .int .i64 (na : Nat), .string ca, .int .i64 (oa : Nat), .string ia, .string ra, .string da, .string ta, .string aa.id, .slice A1 n1 c1, .slice A2 n2 c2] 27)).heap.size = w.heap.size + 1 := by simp
      rw [hz] at HB1
      have HBW : Below w.heap.size w ((w.alloc (.cells #[.int .i64 (ka : Nat), .int .i64 (na : Nat), .string ca, .int .i64 (oa : Nat), .string ia, .string ra, .string da, .string ta, .string aa.id, .slice A1 n1 c1, .slice A2 n2 c2] 27)).alloc (.cells #[.int .i64 (ka : Nat), .int .i64 (nb : Nat), .string ca, .int .i64 (ob : Nat), .string ib, .string rb, .string db, .string tb, .string ab.id, .slice A3 n3 c3, .slice A4 n4 c4] 27)) := ((Below.refl _ w).alloc (Nat.le_refl _) _).alloc (by simp) _
      have hzW : ((w.alloc (.cells #[.int .i64 (ka : Nat), .int .i64 (na : Nat), .string ca, .int .i64 (oa : Nat), .string ia, .string ra, .string da, .string ta, .string aa.id, .slice A1 n1 c1, .slice A2 n2 c2] 27)).alloc (.cells #[.int .i64 (ka : Nat), .int .i64 (nb : Nat), .string ca, .int .i64 (ob : Nat), .string ib, .string rb, .string db, .string tb, .string ab.id, .slice A3 n3 c3, .slice A4 n4 c4] 27)).heap.size = w.heap.size + 2 := by simp
      generalize (w.alloc (.cells #[.int .i64 (ka : Nat), .int .i64 (na : Nat), .string ca, .int .i64 (oa : Nat), .string ia, .string ra, .string da, .string ta, .string aa.id, .slice A1 n1 c1, .slice A2 n2 c2] 27)).alloc (.cells #[.int .i64 (ka : Nat), .int .i64 (nb : Nat), .string ca, .int .i64 (ob : Nat), .string ib, .string rb, .string db, .string tb, .string ab.id, .slice A3 n3 c3, .slice A4 n4 c4] 27) = W at *
      have HS : Hid (∀ V, Below (w.heap.size + 2) W V → V.cell? ⟨w.heap.size, 0, none⟩ = some (.int .i64 (ka : Nat)) ∧ V.cell? ⟨w.heap.size, 2, none⟩ = some (.string ca) ∧ V.cell? ⟨w.heap.size, 3, none⟩ = some (.int .i64 (oa : Nat)) ∧ V.cell? ⟨w.heap.size + 1, 0, none⟩ = some (.int .i64 (ka : Nat)) ∧ V.cell? ⟨w.heap.size + 1, 1, none⟩ = some (.int .i64 (nb : Nat)) ∧ V.cell? ⟨w.heap.size + 1, 2, none⟩ = some (.string ca) ∧ V.cell? ⟨w.heap.size + 1, 3, none⟩ = some (.int .i64 (ob : Nat)) ∧ V.cell? ⟨w.heap.size + 1, 4, none⟩ = some (.string ib) ∧ V.cell? ⟨w.heap.size + 1, 5, none⟩ = some (.string rb) ∧ V.cell? ⟨w.heap.size + 1, 6, none⟩ = some (.string db) ∧ V.cell? ⟨w.heap.size + 1, 7, none⟩ = some (.string tb) ∧ V.cell? ⟨w.heap.size + 1, 8, none⟩ = some (.string ab.id) ∧ V.cell? ⟨w.heap.size + 1, 9, none⟩ = some (.slice A3 n3 c3) ∧ V.cell? ⟨w.heap.size + 1, 10, none⟩ = some (.slice A4 n4 c4) ∧ Below (w.heap.size + 2) W V) := Lib.hid fun V hV => by
        have p := HA2.below hV (by omega)
        have q := HB1.below hV (by omega)
        exact ⟨p.cell 0, p.cell 2, p.cell 3, q.cell 0, q.cell 1, q.cell 2, q.cell 3, q.cell 4, q.cell 5, q.cell 6, q.cell 7, q.cell 8, q.cell 9, q.cell 10, hV⟩
      have HI2 : Hid (∀ V, Below (w.heap.size + 2) W V → Calls Tryz.prog 43 #[.agg #[.int .i64 (ka : Nat), .int .i64 (nb : Nat), .string ca, .int .i64 (ob : Nat), .string ib, .string rb, .string db, .string tb, .string ab.id, .slice A3 n3 c3, .slice A4 n4 c4]] V fun e w' => e = .returned (.int .i64 I) ∧ Below (w.heap.size + 2) W w') := Lib.hid fun V hV => (HI.out V).mono fun e w' h => ⟨h.1, hV.trans (h.2.mono (by have := hV.size; omega))⟩
      have HB0 : Hid (Below (w.heap.size + 2) W W) := Lib.hid (Below.refl _ _)
      have HEND : Hid (∀ V, Below (w.heap.size + 2) W V → Below w.heap.size w V) := Lib.hid fun V hV => HBW.trans (hV.mono (by omega))
      obtain ⟨s0, s1, s2, s3, s4, s5, s6, s7, s8, s9, s10, s11, s12, s13, -⟩ := HS.out W HB0.out
      clear HA1 HB1 HA2 hz HBW HI hzW
      have hu : undef = Value.tuple #[] := rfl
      first
      | go_region_with ((go_at_call 43; (with_reducible refine (HI2.out _ HB0.out.drew).mono ?_); rintro e W9 ⟨rfl, b9⟩; obtain ⟨u0, u1, u2, u3, u4, u5, u6, u7, u8, u9, u10, u11, u12, u13, -⟩ := HS.out _ b9))
      | fail
      all_goals
        go_wp2_with fail
        go_ret
        exact ⟨ret_bool (by rw [HF.out]), HEND.out _ b9⟩
    · have y1 : (ca.toList == cb.toList) = false := (Lib.bytes_beq_false_iff _ _).2 hc
      have HF : Hid (R = false) := Lib.hid (by rw [HR.out, decide_eq_false (fun h => hc h.2.1)])
      clear HR h5
      go_enter Tryz.func14, Tryz.ntmps14
      go_wp2_with fail
      have HA1 : Blk (w.alloc (.cells #[.int .i64 (ka : Nat), .int .i64 (na : Nat), .string ca, .int .i64 (oa : Nat), .string ia, .string ra, .string da, .string ta, .string aa.id, .slice A1 n1 c1, .slice A2 n2 c2] 27)) w.heap.size 27 #[.int .i64 (ka : Nat), .int .i64 (na : Nat), .string ca, .int .i64 (oa : Nat), .string ia, .string ra, .string da, .string ta, .string aa.id, .slice A1 n1 c1, .slice A2 n2 c2] := Blk.new w _ _
      have HB1 := Blk.new (w.alloc (.cells #[.int .i64 (ka : Nat), .int .i64 (na : Nat), .string ca, .int .i64 (oa : Nat), .string ia, .string ra, .string da, .string ta, .string aa.id, .slice A1 n1 c1, .slice A2 n2 c2] 27)) 27 #[.int .i64 (ka : Nat), .int .i64 (nb : Nat), .string cb, .int .i64 (ob : Nat), .string ib, .string rb, .string db, .string tb, .string ab.id, .slice A3 n3 c3, .slice A4 n4 c4]
      have HA2 := Blk.below HA1 ((Below.refl _ (w.alloc (.cells #[.int .i64 (ka : Nat), .int .i64 (na : Nat), .string ca, .int .i64 (oa : Nat), .string ia, .string ra, .string da, .string ta, .string aa.id, .slice A1 n1 c1, .slice A2 n2 c2] 27))).alloc (Nat.le_refl _) (.cells #[.int .i64 (ka : Nat), .int .i64 (nb : Nat), .string cb, .int .i64 (ob : Nat), .string ib, .string rb, .string db, .string tb, .string ab.id, .slice A3 n3 c3, .slice A4 n4 c4] 27)) (Blk.lt HA1)
      have hz : (w.alloc (.cells #[.int .i64 (ka : Nat), .int .i64 (na : Nat), .string ca, .int .i64 (oa : Nat), .string ia, .string ra, .string da, .string ta, .string aa.id, .slice A1 n1 c1, .slice A2 n2 c2] 27)).heap.size = w.heap.size + 1 := by simp
      rw [hz] at HB1
      have HBW : Below w.heap.size w ((w.alloc (.cells #[.int .i64 (ka : Nat), .int .i64 (na : Nat), .string ca, .int .i64 (oa : Nat), .string ia, .string ra, .string da, .string ta, .string aa.id, .slice A1 n1 c1, .slice A2 n2 c2] 27)).alloc (.cells #[.int .i64 (ka : Nat), .int .i64 (nb : Nat), .string cb, .int .i64 (ob : Nat), .string ib, .string rb, .string db, .string tb, .string ab.id, .slice A3 n3 c3, .slice A4 n4 c4] 27)) := ((Below.refl _ w).alloc (Nat.le_refl _) _).alloc (by simp) _
      have hzW : ((w.alloc (.cells #[.int .i64 (ka : Nat), .int .i64 (na : Nat), .string ca, .int .i64 (oa : Nat), .string ia, .string ra, .string da, .string ta, .string aa.id, .slice A1 n1 c1, .slice A2 n2 c2] 27)).alloc (.cells #[.int .i64 (ka : Nat), .int .i64 (nb : Nat), .string cb, .int .i64 (ob : Nat), .string ib, .string rb, .string db, .string tb, .string ab.id, .slice A3 n3 c3, .slice A4 n4 c4] 27)).heap.size = w.heap.size + 2 := by simp
      generalize (w.alloc (.cells #[.int .i64 (ka : Nat), .int .i64 (na : Nat), .string ca, .int .i64 (oa : Nat), .string ia, .string ra, .string da, .string ta, .string aa.id, .slice A1 n1 c1, .slice A2 n2 c2] 27)).alloc (.cells #[.int .i64 (ka : Nat), .int .i64 (nb : Nat), .string cb, .int .i64 (ob : Nat), .string ib, .string rb, .string db, .string tb, .string ab.id, .slice A3 n3 c3, .slice A4 n4 c4] 27) = W at *
      have a0 := HA2.cell 0
      have a2 := HA2.cell 2
      have a3 := HA2.cell 3
      have b0 := HB1.cell 0
      have b2 := HB1.cell 2
      simp only [List.getElem?_toArray, List.getElem?_cons_succ, List.getElem?_cons_zero] at a0 a2 a3 b0 b2
      clear HA1 HA2 HB1 hz hzW
      go_quiet (fail)
      go_wp2_with fail
      go_ret
      exact ⟨ret_bool (by rw [HF.out]), below_drewN HBW _⟩
  by_cases h6 : ka = 6
  · have z1 : (((ka : Nat) : Int) == 5) = false := by rw [h6]; rfl
    have z2 : (((ka : Nat) : Int) == 6) = true := by rw [h6]; rfl
    by_cases hc : ca = cb
    · subst hc
      have y1 : (ca.toList == ca.toList) = true := (Lib.bytes_beq_iff _ _).2 rfl
      have HF : Hid (R = decide (indentR { kind := ka, n := nb, ch := ca, off := ob, info := ib, rest := rb, dest := db, title := tb, att := ab } < (oa : Int))) := Lib.hid (by rw [HR.out]; unfold indentR; simp [h6])
      have HI := Lib.hid fun W => r_markIndent { kind := ka, n := nb, ch := ca, off := ob, info := ib, rest := rb, dest := db, title := tb, att := ab } A3 A4 n3 c3 n4 c4 W hb hi
      simp only [MkL.cells] at HI
      generalize indentR _ = I at *
      clear HR h6 h5
      go_enter Tryz.func14, Tryz.ntmps14
      go_wp2_with fail
      have HA1 : Blk (w.alloc (.cells #[.int .i64 (ka : Nat), .int .i64 (na : Nat), .string ca, .int .i64 (oa : Nat), .string ia, .string ra, .string da, .string ta, .string aa.id, .slice A1 n1 c1, .slice A2 n2 c2] 27)) w.heap.size 27 #[.int .i64 (ka : Nat), .int .i64 (na : Nat), .string ca, .int .i64 (oa : Nat), .string ia, .string ra, .string da, .string ta, .string aa.id, .slice A1 n1 c1, .slice A2 n2 c2] := Blk.new w _ _
      have HB1 := Blk.new (w.alloc (.cells #[.int .i64 (ka : Nat), .int .i64 (na : Nat), .string ca, .int .i64 (oa : Nat), .string ia, .string ra, .string da, .string ta, .string aa.id, .slice A1 n1 c1, .slice A2 n2 c2] 27)) 27 #[.int .i64 (ka : Nat), .int .i64 (nb : Nat), .string ca, .int .i64 (ob : Nat), .string ib, .string rb, .string db, .string tb, .string ab.id, .slice A3 n3 c3, .slice A4 n4 c4]
      have HA2 := Blk.below HA1 ((Below.refl _ (w.alloc (.cells #[.int .i64 (ka : Nat), .int .i64 (na : Nat), .string ca, .int .i64 (oa : Nat), .string ia, .string ra, .string da, .string ta, .string aa.id, .slice A1 n1 c1, .slice A2 n2 c2] 27))).alloc (Nat.le_refl _) (.cells #[.int .i64 (ka : Nat), .int .i64 (nb : Nat), .string ca, .int .i64 (ob : Nat), .string ib, .string rb, .string db, .string tb, .string ab.id, .slice A3 n3 c3, .slice A4 n4 c4] 27)) (Blk.lt HA1)
      have hz : (w.alloc (.cells #[.int .i64 (ka : Nat), .int .i64 (na : Nat), .string ca, .int .i64 (oa : Nat), .string ia, .string ra, .string da, .string ta, .string aa.id, .slice A1 n1 c1, .slice A2 n2 c2] 27)).heap.size = w.heap.size + 1 := by simp
      rw [hz] at HB1
      have HBW : Below w.heap.size w ((w.alloc (.cells #[.int .i64 (ka : Nat), .int .i64 (na : Nat), .string ca, .int .i64 (oa : Nat), .string ia, .string ra, .string da, .string ta, .string aa.id, .slice A1 n1 c1, .slice A2 n2 c2] 27)).alloc (.cells #[.int .i64 (ka : Nat), .int .i64 (nb : Nat), .string ca, .int .i64 (ob : Nat), .string ib, .string rb, .string db, .string tb, .string ab.id, .slice A3 n3 c3, .slice A4 n4 c4] 27)) := ((Below.refl _ w).alloc (Nat.le_refl _) _).alloc (by simp) _
      have hzW : ((w.alloc (.cells #[.int .i64 (ka : Nat), .int .i64 (na : Nat), .string ca, .int .i64 (oa : Nat), .string ia, .string ra, .string da, .string ta, .string aa.id, .slice A1 n1 c1, .slice A2 n2 c2] 27)).alloc (.cells #[.int .i64 (ka : Nat), .int .i64 (nb : Nat), .string ca, .int .i64 (ob : Nat), .string ib, .string rb, .string db, .string tb, .string ab.id, .slice A3 n3 c3, .slice A4 n4 c4] 27)).heap.size = w.heap.size + 2 := by simp
      generalize (w.alloc (.cells #[.int .i64 (ka : Nat), .int .i64 (na : Nat), .string ca, .int .i64 (oa : Nat), .string ia, .string ra, .string da, .string ta, .string aa.id, .slice A1 n1 c1, .slice A2 n2 c2] 27)).alloc (.cells #[.int .i64 (ka : Nat), .int .i64 (nb : Nat), .string ca, .int .i64 (ob : Nat), .string ib, .string rb, .string db, .string tb, .string ab.id, .slice A3 n3 c3, .slice A4 n4 c4] 27) = W at *
      have HS : Hid (∀ V, Below (w.heap.size + 2) W V → V.cell? ⟨w.heap.size, 0, none⟩ = some (.int .i64 (ka : Nat)) ∧ V.cell? ⟨w.heap.size, 2, none⟩ = some (.string ca) ∧ V.cell? ⟨w.heap.size, 3, none⟩ = some (.int .i64 (oa : Nat)) ∧ V.cell? ⟨w.heap.size + 1, 0, none⟩ = some (.int .i64 (ka : Nat)) ∧ V.cell? ⟨w.heap.size + 1, 1, none⟩ = some (.int .i64 (nb : Nat)) ∧ V.cell? ⟨w.heap.size + 1, 2, none⟩ = some (.string ca) ∧ V.cell? ⟨w.heap.size + 1, 3, none⟩ = some (.int .i64 (ob : Nat)) ∧ V.cell? ⟨w.heap.size + 1, 4, none⟩ = some (.string ib) ∧ V.cell? ⟨w.heap.size + 1, 5, none⟩ = some (.string rb) ∧ V.cell? ⟨w.heap.size + 1, 6, none⟩ = some (.string db) ∧ V.cell? ⟨w.heap.size + 1, 7, none⟩ = some (.string tb) ∧ V.cell? ⟨w.heap.size + 1, 8, none⟩ = some (.string ab.id) ∧ V.cell? ⟨w.heap.size + 1, 9, none⟩ = some (.slice A3 n3 c3) ∧ V.cell? ⟨w.heap.size + 1, 10, none⟩ = some (.slice A4 n4 c4) ∧ Below (w.heap.size + 2) W V) := Lib.hid fun V hV => by
        have p := HA2.below hV (by omega)
        have q := HB1.below hV (by omega)
        exact ⟨p.cell 0, p.cell 2, p.cell 3, q.cell 0, q.cell 1, q.cell 2, q.cell 3, q.cell 4, q.cell 5, q.cell 6, q.cell 7, q.cell 8, q.cell 9, q.cell 10, hV⟩
      have HI2 : Hid (∀ V, Below (w.heap.size + 2) W V → Calls Tryz.prog 43 #[.agg #[.int .i64 (ka : Nat), .int .i64 (nb : Nat), .string ca, .int .i64 (ob : Nat), .string ib, .string rb, .string db, .string tb, .string ab.id, .slice A3 n3 c3, .slice A4 n4 c4]] V fun e w' => e = .returned (.int .i64 I) ∧ Below (w.heap.size + 2) W w') := Lib.hid fun V hV => (HI.out V).mono fun e w' h => ⟨h.1, hV.trans (h.2.mono (by have := hV.size; omega))⟩
      have HB0 : Hid (Below (w.heap.size + 2) W W) := Lib.hid (Below.refl _ _)
      have HEND : Hid (∀ V, Below (w.heap.size + 2) W V → Below w.heap.size w V) := Lib.hid fun V hV => HBW.trans (hV.mono (by omega))
      have s0 := HS.out W HB0.out
      clear HA1 HB1 HA2 hz HBW HI hzW
      have hu : undef = Value.tuple #[] := rfl
      first
      | (go_region_held3 (fun w' => w'.cell? ⟨w.heap.size, 0, none⟩ = some (.int .i64 (ka : Nat)) ∧ w'.cell? ⟨w.heap.size, 2, none⟩ = some (.string ca) ∧ w'.cell? ⟨w.heap.size, 3, none⟩ = some (.int .i64 (oa : Nat)) ∧ w'.cell? ⟨w.heap.size + 1, 0, none⟩ = some (.int .i64 (ka : Nat)) ∧ w'.cell? ⟨w.heap.size + 1, 1, none⟩ = some (.int .i64 (nb : Nat)) ∧ w'.cell? ⟨w.heap.size + 1, 2, none⟩ = some (.string ca) ∧ w'.cell? ⟨w.heap.size + 1, 3, none⟩ = some (.int .i64 (ob : Nat)) ∧ w'.cell? ⟨w.heap.size + 1, 4, none⟩ = some (.string ib) ∧ w'.cell? ⟨w.heap.size + 1, 5, none⟩ = some (.string rb) ∧ w'.cell? ⟨w.heap.size + 1, 6, none⟩ = some (.string db) ∧ w'.cell? ⟨w.heap.size + 1, 7, none⟩ = some (.string tb) ∧ w'.cell? ⟨w.heap.size + 1, 8, none⟩ = some (.string ab.id) ∧ w'.cell? ⟨w.heap.size + 1, 9, none⟩ = some (.slice A3 n3 c3) ∧ w'.cell? ⟨w.heap.size + 1, 10, none⟩ = some (.slice A4 n4 c4) ∧ Below (w.heap.size + 2) W w')
        (first | exact HS.out _ b9 | exact HS.out _ HB0.out.drew | go_keep)
        (first
          | (go_at_call 43; (with_reducible refine (HI2.out _ (by assumption : _ ∧ _ ∧ _ ∧ _ ∧ _ ∧ _ ∧ _ ∧ _ ∧ _ ∧ _ ∧ _ ∧ _ ∧ _ ∧ _ ∧ Below (w.heap.size + 2) W _).2.2.2.2.2.2.2.2.2.2.2.2.2.2).mono ?_); rintro e W9 ⟨rfl, b9⟩)))
      | fail
      all_goals
        go_wp2_with fail
        go_ret
        exact ⟨ret_bool (by rw [HF.out]), HEND.out _ b9⟩
    · have y1 : (ca.toList == cb.toList) = false := (Lib.bytes_beq_false_iff _ _).2 hc
      have HF : Hid (R = false) := Lib.hid (by rw [HR.out, decide_eq_false (fun h => hc h.2.1)])
      clear HR h6 h5
      go_enter Tryz.func14, Tryz.ntmps14
      go_wp2_with fail
      have HA1 : Blk (w.alloc (.cells #[.int .i64 (ka : Nat), .int .i64 (na : Nat), .string ca, .int .i64 (oa : Nat), .string ia, .string ra, .string da, .string ta, .string aa.id, .slice A1 n1 c1, .slice A2 n2 c2] 27)) w.heap.size 27 #[.int .i64 (ka : Nat), .int .i64 (na : Nat), .string ca, .int .i64 (oa : Nat), .string ia, .string ra, .string da, .string ta, .string aa.id, .slice A1 n1 c1, .slice A2 n2 c2] := Blk.new w _ _
      have HB1 := Blk.new (w.alloc (.cells #[.int .i64 (ka : Nat), .int .i64 (na : Nat), .string ca, .int .i64 (oa : Nat), .string ia, .string ra, .string da, .string ta, .string aa.id, .slice A1 n1 c1, .slice A2 n2 c2] 27)) 27 #[.int .i64 (ka : Nat), .int .i64 (nb : Nat), .string cb, .int .i64 (ob : Nat), .string ib, .string rb, .string db, .string tb, .string ab.id, .slice A3 n3 c3, .slice A4 n4 c4]
      have HA2 := Blk.below HA1 ((Below.refl _ (w.alloc (.cells #[.int .i64 (ka : Nat), .int .i64 (na : Nat), .string ca, .int .i64 (oa : Nat), .string ia, .string ra, .string da, .string ta, .string aa.id, .slice A1 n1 c1, .slice A2 n2 c2] 27))).alloc (Nat.le_refl _) (.cells #[.int .i64 (ka : Nat), .int .i64 (nb : Nat), .string cb, .int .i64 (ob : Nat), .string ib, .string rb, .string db, .string tb, .string ab.id, .slice A3 n3 c3, .slice A4 n4 c4] 27)) (Blk.lt HA1)
      have hz : (w.alloc (.cells #[.int .i64 (ka : Nat), .int .i64 (na : Nat), .string ca, .int .i64 (oa : Nat), .string ia, .string ra, .string da, .string ta, .string aa.id, .slice A1 n1 c1, .slice A2 n2 c2] 27)).heap.size = w.heap.size + 1 := by simp
      rw [hz] at HB1
      have HBW : Below w.heap.size w ((w.alloc (.cells #[.int .i64 (ka : Nat), .int .i64 (na : Nat), .string ca, .int .i64 (oa : Nat), .string ia, .string ra, .string da, .string ta, .string aa.id, .slice A1 n1 c1, .slice A2 n2 c2] 27)).alloc (.cells #[.int .i64 (ka : Nat), .int .i64 (nb : Nat), .string cb, .int .i64 (ob : Nat), .string ib, .string rb, .string db, .string tb, .string ab.id, .slice A3 n3 c3, .slice A4 n4 c4] 27)) := ((Below.refl _ w).alloc (Nat.le_refl _) _).alloc (by simp) _
      have hzW : ((w.alloc (.cells #[.int .i64 (ka : Nat), .int .i64 (na : Nat), .string ca, .int .i64 (oa : Nat), .string ia, .string ra, .string da, .string ta, .string aa.id, .slice A1 n1 c1, .slice A2 n2 c2] 27)).alloc (.cells #[.int .i64 (ka : Nat), .int .i64 (nb : Nat), .string cb, .int .i64 (ob : Nat), .string ib, .string rb, .string db, .string tb, .string ab.id, .slice A3 n3 c3, .slice A4 n4 c4] 27)).heap.size = w.heap.size + 2 := by simp
      generalize (w.alloc (.cells #[.int .i64 (ka : Nat), .int .i64 (na : Nat), .string ca, .int .i64 (oa : Nat), .string ia, .string ra, .string da, .string ta, .string aa.id, .slice A1 n1 c1, .slice A2 n2 c2] 27)).alloc (.cells #[.int .i64 (ka : Nat), .int .i64 (nb : Nat), .string cb, .int .i64 (ob : Nat), .string ib, .string rb, .string db, .string tb, .string ab.id, .slice A3 n3 c3, .slice A4 n4 c4] 27) = W at *
      have a0 := HA2.cell 0
      have a2 := HA2.cell 2
      have a3 := HA2.cell 3
      have b0 := HB1.cell 0
      have b2 := HB1.cell 2
      simp only [List.getElem?_toArray, List.getElem?_cons_succ, List.getElem?_cons_zero] at a0 a2 a3 b0 b2
      clear HA1 HA2 HB1 hz hzW
      go_quiet (fail)
      go_wp2_with fail
      go_ret
      exact ⟨ret_bool (by rw [HF.out]), below_drewN HBW _⟩
  have z1 : (((ka : Nat) : Int) == 5) = false := by rw [beq_eq_false_iff_ne]; omega
  have z2 : (((ka : Nat) : Int) == 6) = false := by rw [beq_eq_false_iff_ne]; omega
  have HF : Hid (R = false) := Lib.hid (by rw [HR.out, decide_eq_false (fun h => by rcases h.2.2 with e | e <;> omega)])
  clear HR
  go_enter Tryz.func14, Tryz.ntmps14
  go_wp2_with fail
  have HA1 : Blk (w.alloc (.cells #[.int .i64 (ka : Nat), .int .i64 (na : Nat), .string ca, .int .i64 (oa : Nat), .string ia, .string ra, .string da, .string ta, .string aa.id, .slice A1 n1 c1, .slice A2 n2 c2] 27)) w.heap.size 27 #[.int .i64 (ka : Nat), .int .i64 (na : Nat), .string ca, .int .i64 (oa : Nat), .string ia, .string ra, .string da, .string ta, .string aa.id, .slice A1 n1 c1, .slice A2 n2 c2] := Blk.new w _ _
  have HB1 := Blk.new (w.alloc (.cells #[.int .i64 (ka : Nat), .int .i64 (na : Nat), .string ca, .int .i64 (oa : Nat), .string ia, .string ra, .string da, .string ta, .string aa.id, .slice A1 n1 c1, .slice A2 n2 c2] 27)) 27 #[.int .i64 (ka : Nat), .int .i64 (nb : Nat), .string cb, .int .i64 (ob : Nat), .string ib, .string rb, .string db, .string tb, .string ab.id, .slice A3 n3 c3, .slice A4 n4 c4]
  have HA2 := Blk.below HA1 ((Below.refl _ (w.alloc (.cells #[.int .i64 (ka : Nat), .int .i64 (na : Nat), .string ca, .int .i64 (oa : Nat), .string ia, .string ra, .string da, .string ta, .string aa.id, .slice A1 n1 c1, .slice A2 n2 c2] 27))).alloc (Nat.le_refl _) (.cells #[.int .i64 (ka : Nat), .int .i64 (nb : Nat), .string cb, .int .i64 (ob : Nat), .string ib, .string rb, .string db, .string tb, .string ab.id, .slice A3 n3 c3, .slice A4 n4 c4] 27)) (Blk.lt HA1)
  have hz : (w.alloc (.cells #[.int .i64 (ka : Nat), .int .i64 (na : Nat), .string ca, .int .i64 (oa : Nat), .string ia, .string ra, .string da, .string ta, .string aa.id, .slice A1 n1 c1, .slice A2 n2 c2] 27)).heap.size = w.heap.size + 1 := by simp
  rw [hz] at HB1
  have HBW : Below w.heap.size w ((w.alloc (.cells #[.int .i64 (ka : Nat), .int .i64 (na : Nat), .string ca, .int .i64 (oa : Nat), .string ia, .string ra, .string da, .string ta, .string aa.id, .slice A1 n1 c1, .slice A2 n2 c2] 27)).alloc (.cells #[.int .i64 (ka : Nat), .int .i64 (nb : Nat), .string cb, .int .i64 (ob : Nat), .string ib, .string rb, .string db, .string tb, .string ab.id, .slice A3 n3 c3, .slice A4 n4 c4] 27)) := ((Below.refl _ w).alloc (Nat.le_refl _) _).alloc (by simp) _
  have hzW : ((w.alloc (.cells #[.int .i64 (ka : Nat), .int .i64 (na : Nat), .string ca, .int .i64 (oa : Nat), .string ia, .string ra, .string da, .string ta, .string aa.id, .slice A1 n1 c1, .slice A2 n2 c2] 27)).alloc (.cells #[.int .i64 (ka : Nat), .int .i64 (nb : Nat), .string cb, .int .i64 (ob : Nat), .string ib, .string rb, .string db, .string tb, .string ab.id, .slice A3 n3 c3, .slice A4 n4 c4] 27)).heap.size = w.heap.size + 2 := by simp
  generalize (w.alloc (.cells #[.int .i64 (ka : Nat), .int .i64 (na : Nat), .string ca, .int .i64 (oa : Nat), .string ia, .string ra, .string da, .string ta, .string aa.id, .slice A1 n1 c1, .slice A2 n2 c2] 27)).alloc (.cells #[.int .i64 (ka : Nat), .int .i64 (nb : Nat), .string cb, .int .i64 (ob : Nat), .string ib, .string rb, .string db, .string tb, .string ab.id, .slice A3 n3 c3, .slice A4 n4 c4] 27) = W at *
  have a0 := HA2.cell 0
  have a2 := HA2.cell 2
  have a3 := HA2.cell 3
  have b0 := HB1.cell 0
  have b2 := HB1.cell 2
  simp only [List.getElem?_toArray, List.getElem?_cons_succ, List.getElem?_cons_zero] at a0 a2 a3 b0 b2
  clear HA1 HA2 HB1 hz hzW
  go_quiet (fail)
  go_wp2_with fail
  go_ret
  exact ⟨ret_bool (by rw [HF.out]), below_drewN HBW _⟩

end Go.Proofs.YthfienjmigidbaaGreatDoor
