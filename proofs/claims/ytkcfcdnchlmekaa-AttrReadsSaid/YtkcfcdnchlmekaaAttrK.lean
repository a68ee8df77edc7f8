/-
  The reference's Parse.
-/
import Derived.Test.YtkcfcdnchlmekaaAttrJ
set_option linter.unusedVariables false
set_option linter.unusedSimpArgs false
namespace Go.Proofs.Ytkcfcdnchlmekaa
open Go.RowKit Go.Pub

theorem rparse_ret {W : World} {g : Nat} {x y z a5 a6 : Value} {P : Ending → World → Prop} {act : Act} (hr : Blk W g 27 #[x, y, z]) (h4 : act.tmps.getD 4 undef = .pointer (some ⟨g, 0, none⟩))
    (h5 : act.tmps.getD 5 undef = a5) (h6 : act.tmps.getD 6 undef = a6) (hd : act.defers = []) (hP : P (.returned (.tuple #[.agg #[x, y, z], a5, a6])) W) : bodyPost Try.prog Try.f19 P Exit.ret act W := by
  have c0 : W.cell? ⟨g, 0, none⟩ = some x := hr.cell 0
  have c1 : W.cell? ⟨g, 1, none⟩ = some y := hr.cell 1
  have c2 : W.cell? ⟨g, 2, none⟩ = some z := hr.cell 2
  refine bodyPost_ret (v := .tuple #[.agg #[x, y, z], a5, a6]) ?_ hd hP
  rw [Array.getD_eq_getD_getElem?] at h4 h5 h6
  simp [results, Try.results19, go_sem, h4, h5, h6, c0, c1, c2]

/-- What stands in memory at the head of the reference's loop. -/
structure RInv (w : World) (a : AttrL) (wr : World) : Prop where
  res : Blk wr w.heap.size 27 #[.string ⟨#[]⟩, .slice none 0 0, .slice none 0 0]
  att : AttrAt wr (w.heap.size + 1) (w.heap.size + 1 + 1) a
  bel : Below w.heap.size w wr

theorem rinv_start (w : World) : RInv w emptyA ((w.alloc (.cells #[.string ⟨#[]⟩, .slice none 0 0, .slice none 0 0] 27)).alloc (.cells #[.string ⟨#[]⟩, .slice none 0 0, .slice none 0 0] 27)) := by
  refine ⟨(Blk.new _ _ _).alloc _, ⟨.slice none 0 0, .slice none 0 0, ?_, World.ownsRow_nil _ _ _ _, World.ownsRow_nil _ _ _ _, by omega, by simp, by decide, by decide⟩, ((Below.refl _ _).alloc (Nat.le_refl _) _).alloc (by simp) _⟩
  have := Blk.new (w.alloc (.cells #[.string ⟨#[]⟩, .slice none 0 0, .slice none 0 0] 27)) 27 #[.string ⟨#[]⟩, .slice none 0 0, .slice none 0 0]
  show Blk _ _ _ #[.string ⟨#[]⟩, .slice none 0 0, .slice none 0 0]
  simpa using this

theorem rinv_fail {w wr : World} (hr : Blk wr w.heap.size 27 #[.string ⟨#[]⟩, .slice none 0 0, .slice none 0 0]) (hb : Below w.heap.size w wr) :
    Blk (((wr.setCell ⟨w.heap.size, 0, none⟩ (.string ⟨#[]⟩)).setCell ⟨w.heap.size, 1, none⟩ (.slice none 0 0)).setCell ⟨w.heap.size, 2, none⟩ (.slice none 0 0)) w.heap.size 27 #[.string ⟨#[]⟩, .slice none 0 0, .slice none 0 0] ∧
    AttrVal (((wr.setCell ⟨w.heap.size, 0, none⟩ (.string ⟨#[]⟩)).setCell ⟨w.heap.size, 1, none⟩ (.slice none 0 0)).setCell ⟨w.heap.size, 2, none⟩ (.slice none 0 0)) w.heap.size (.agg #[.string ⟨#[]⟩, .slice none 0 0, .slice none 0 0]) emptyA ∧
    Below w.heap.size w (((wr.setCell ⟨w.heap.size, 0, none⟩ (.string ⟨#[]⟩)).setCell ⟨w.heap.size, 1, none⟩ (.slice none 0 0)).setCell ⟨w.heap.size, 2, none⟩ (.slice none 0 0)) := by
  refine ⟨?_, ⟨⟨_, _, rfl, World.ownsRow_nil _ _ _ _, World.ownsRow_nil _ _ _ _⟩, by decide, by decide⟩, ((hb.setCell (by simp) _).setCell (by simp) _).setCell (by simp) _⟩
  have := ((hr.set_ 0 (.string ⟨#[]⟩)).set_ 1 (.slice none 0 0)).set_ 2 (.slice none 0 0)
  simpa using this

theorem rinv_done {w wr : World} {a : AttrL} {vC vP : Value} (h : RInv w a wr) (hA : AttrCells wr (w.heap.size + 1) (w.heap.size + 1 + 1) a vC vP) :
    Blk (((wr.setCell ⟨w.heap.size, 0, none⟩ (.string a.id)).setCell ⟨w.heap.size, 1, none⟩ vC).setCell ⟨w.heap.size, 2, none⟩ vP) w.heap.size 27 #[.string a.id, vC, vP] ∧
    AttrVal (((wr.setCell ⟨w.heap.size, 0, none⟩ (.string a.id)).setCell ⟨w.heap.size, 1, none⟩ vC).setCell ⟨w.heap.size, 2, none⟩ vP) w.heap.size (.agg #[.string a.id, vC, vP]) a ∧
    Below w.heap.size w (((wr.setCell ⟨w.heap.size, 0, none⟩ (.string a.id)).setCell ⟨w.heap.size, 1, none⟩ vC).setCell ⟨w.heap.size, 2, none⟩ vP) := by
  refine ⟨?_, ⟨⟨_, _, rfl, ?_, ?_⟩, hA.c32, hA.p32⟩, ((h.bel.setCell (by simp) _).setCell (by simp) _).setCell (by simp) _⟩
  · have := ((h.res.set_ 0 (.string a.id)).set_ 1 vC).set_ 2 vP
    simpa using this
  · exact own_base (ownsRow_setCell_below (ownsRow_setCell_below (ownsRow_setCell_below hA.cls (by simp; omega) _) (by simp; omega) _) (by simp; omega) _) (by omega)
  · exact own_base (ownsRow_setCell_below (ownsRow_setCell_below (ownsRow_setCell_below hA.prs (by simp; omega) _) (by simp; omega) _) (by simp; omega) _) (by omega)

/-- Behind an item: the attributes are stored in their block. -/
theorem rinv_next {w wr w1 : World} {a a1 : AttrL} {vC vP : Value} (h : RInv w a wr) (hb : Below (w.heap.size + 1 + 1) wr w1) (h1 : w1.ownsRow (w.heap.size + 1 + 1) 9 1 vC a1.cl.length (strs a1.cl)) (h2 : w1.ownsRow (w.heap.size + 1 + 1) 42 2 vP a1.pr.length (prs a1.pr)) (h3 : a1.cl.length ≤ 32) (h4 : a1.pr.length ≤ 32) (o : Obj) :
    (w.heap.size + 1 < w1.heap.size ∧ Blk w1 w.heap.size 27 #[.string ⟨#[]⟩, .slice none 0 0, .slice none 0 0] ∧ ∃ x y z, Blk w1 (w.heap.size + 1) 27 #[x, y, z]) ∧ Below w.heap.size w w1 ∧
    RInv w a1 ((((w1.setCell ⟨w.heap.size + 1, 0, none⟩ (.string a1.id)).setCell ⟨w.heap.size + 1, 1, none⟩ vC).setCell ⟨w.heap.size + 1, 2, none⟩ vP).alloc o) := by
  obtain ⟨uC, uP, hA⟩ := h.att
  have B1 := h.res.below hb (by omega)
  have B2 := hA.blk.below hb (by omega)
  have hbb := h.bel.trans (hb.mono (B' := w.heap.size) (by omega))
  have hsz : w.heap.size + 1 + 1 ≤ w1.heap.size := Nat.le_trans hA.le hb.size
  refine ⟨⟨by omega, B1, _, _, _, B2⟩, hbb, ?_⟩
  refine ⟨(((B1.far (by simp) _).far (by simp) _).far (by simp) _).alloc _, ⟨vC, vP, ?_, ?_, ?_, by omega, by simp [World.setCell]; omega, h3, h4⟩, ?_⟩
  · have := (((B2.set_ 0 (.string a1.id)).set_ 1 vC).set_ 2 vP).alloc o
    simpa using this
  · exact (ownsRow_setCell_below (ownsRow_setCell_below (ownsRow_setCell_below h1 (by simp) _) (by simp) _) (by simp) _).alloc _
  · exact (ownsRow_setCell_below (ownsRow_setCell_below (ownsRow_setCell_below h2 (by simp) _) (by simp) _) (by simp) _).alloc _
  · exact (((hbb.setCell (by simp) _).setCell (by simp) _).setCell (by simp) _).alloc (by simp [World.setCell]; omega) _

set_option maxRecDepth 100000 in
set_option maxHeartbeats 4000000 in
theorem rparse_in (w : World) (s : ByteArray) (n : Nat) (hs : s.size ≤ 1000000) (hn : n < s.size) (hb : bt s n = 123) :
    Calls Try.prog 19 #[.string s, .int .i64 n] w (ParsePost (parseF s (s.size + 1) (spAt s (n + 1)) true emptyA) w) := by
  have hlt : ((s[n].toNat : Nat) : Int) < 256 := by rw [get_bt s n hn]; have := bt_lt s n; omega
  have z1 : (((s[n].toNat : Nat) : Int) != 123) = false := by rw [get_bt s n hn, hb]; rfl
  have d1 : decide (s.size ≤ n) = false := decide_eq_false (by omega)
  clear hb
  have HS := Lib.hid (rinv_start w)
  generalize hR : parseF s (s.size + 1) (spAt s (n + 1)) true emptyA = R at *
  have HR := Lib.hid hR
  clear hR
  go_enter Try.func19, Try.ntmps19
  go_wp2_with fail
  go_loopw [8, 9] (fun p m wr => ∃ (k c f : Nat) (b : Bool) (a : AttrL), p = .int .i64 k ∧ m = .int .i64 c ∧ Hid (b = (c == 0 || decide (k < spAt s k))) ∧ Hid (RInv w a wr) ∧ Hid (parseF s f (spAt s k) b a = R) ∧ s.size < spAt s k + f ∧ k ≤ s.size ∧ c < k) (fun p _ _ => s.size - (intOf p).toNat)
  case atStart => exact ⟨n + 1, 0, s.size + 1, true, emptyA, by go_num, rfl, Lib.hid rfl, HS, HR, by omega, by omega, by omega⟩
  case round =>
    obtain ⟨k, c, f, b, a, rfl, rfl, Kb, KI, KR, hkf, hks, hck⟩ := hrel
    have hsp := spEnd_bd s (s.size - k) k
    have hsp1 : k ≤ spAt s k := hsp.1
    have hsp2 : spAt s k ≤ s.size := hsp.2 hks
    clear hsp
    have HSP : Hid (spEnd s (s.size - k) k = spAt s k) := Lib.hid rfl
    have hcs : c ≤ s.size := by omega
    go_wp2_with fail
    generalize spAt s k = Q at *
    obtain ⟨wo, rfl⟩ : ∃ wo : World, wo = wr := ⟨_, rfl⟩
    go_loop [10] (fun q => ∃ i f2 : Nat, q = .int .i64 i ∧ Hid (spEnd s f2 i = Q) ∧ s.size - i ≤ f2 ∧ i ≤ s.size ∧ k ≤ i) (fun q => s.size - (intOf q).toNat)
    case atStart => exact ⟨k, s.size - k, rfl, HSP, Nat.le_refl _, hks, Nat.le_refl _⟩
    case round =>
      obtain ⟨i, f2, rfl, K2, hf2, hi, hki⟩ := hrel
      have c0 := KI.out.res.cell 0
      have c1 := KI.out.res.cell 1
      have c2 := KI.out.res.cell 2
      simp at c0 c1 c2
      have q0 := KI.out.res.frozen 0
      have q1 := KI.out.res.frozen 1
      have q2 := KI.out.res.frozen 2
      have HF := Lib.hid (rinv_fail KI.out.res KI.out.bel)
      obtain ⟨vC, vP, hA⟩ := KI.out.att
      have KA := Lib.hid hA
      have a0 := hA.blk.cell 0
      have a1 := hA.blk.cell 1
      have a2 := hA.blk.cell 2
      have b0 := hA.blk.frozen 0
      have b1 := hA.blk.frozen 1
      have b2 := hA.blk.frozen 2
      obtain ⟨AC, cC, rfl⟩ := own_slice hA.cls
      obtain ⟨AP, cP, rfl⟩ := own_slice hA.prs
      simp at a0 a1 a2
      clear hA
      by_cases hil : i < s.size
      · have hli : ((s[i].toNat : Nat) : Int) < 256 := by rw [get_bt s i hil]; have := bt_lt s i; omega
        by_cases h32 : bt s i = 32
        · have z2 : (((s[i].toNat : Nat) : Int) == 32) = true := by rw [get_bt s i hil, h32]; rfl
          have hst := Lib.hid (spEnd_step s f2 i hil h32 hf2)
          clear h32
          go_wp2
          go_round
          case rel => exact ⟨i + 1, f2 - 1, by go_num, Lib.hid (by rw [← K2.out, hst.out]), by omega, by omega, by omega⟩
          case measure => simp [intOf]; omega
        · have z2 : (((s[i].toNat : Nat) : Int) == 32) = false := by rw [get_bt s i hil, beq_eq_false_iff_ne]; omega
          have hQ : Q = i := by rw [← K2.out, spEnd_stop s f2 i (fun h => h32 h.2)]
          clear h32
          subst hQ
          have dQ : decide (s.size ≤ Q) = false := decide_eq_false (by omega)
          by_cases h125 : bt s Q = 125
          · have z3 : (((s[Q].toNat : Nat) : Int) == 125) = true := by rw [get_bt s Q hil, h125]; rfl
            have hT : Hid (R = (a, Q + 1, 0)) := Lib.hid (by rw [← KR.out, parseF_close s f Q b a hil hkf h125])
            have hfin := Lib.hid (rinv_done KI.out KA.out)
            clear h125
            go_wp2
            refine rparse_ret hfin.out.1 rfl rfl rfl rfl ?_
            rw [hT.out]
            exact ⟨_, rfl, hfin.out.2.1, hfin.out.2.2⟩
          · have z3 : (((s[Q].toNat : Nat) : Int) == 125) = false := by rw [get_bt s Q hil, beq_eq_false_iff_ne]; omega
            have HI := Lib.hid (ritem_any wo (w.heap.size + 1 + 1) a (.slice AC a.cl.length cC) (.slice AP a.pr.length cP) s Q ⟨KA.out.cls, KA.out.prs, KA.out.le, KA.out.c32, KA.out.p32⟩ hs hil)
            have hbd := Lib.hid (itemL_bd a s Q hil)
            have htight := Lib.hid (parseF_tight s f Q a hil h125)
            have hbad := Lib.hid (parseF_bad s f Q a hil hkf h125)
            have hnxt := Lib.hid (parseF_next s f Q a hil hkf h125)
            clear h125
            by_cases hc0 : 0 < c
            · have dc : decide (0 < c) = true := decide_eq_true hc0
              by_cases hqk : k = Q
              · have z4 : ((Q : Int) == (k : Int)) = true := by rw [hqk]; exact beq_self_eq_true _
                have z5 : (Q == k) = true := by rw [hqk]; exact beq_self_eq_true _
                have hT : Hid (R = (emptyA, 0, 5)) := Lib.hid (by rw [← KR.out, Kb.out, show (c == 0) = false by simp; omega, show decide (k < Q) = false by simp; omega, ← htight.out]; rfl)
                clear hqk hnxt hbad hbd
                go_wp2
                refine rparse_ret HF.out.1 rfl rfl rfl rfl ?_
                rw [hT.out]
                exact ⟨_, rfl, HF.out.2.1, HF.out.2.2⟩
              · have z4 : ((Q : Int) == (k : Int)) = false := by rw [beq_eq_false_iff_ne]; omega
                have z5 : (Q == k) = false := by rw [beq_eq_false_iff_ne]; omega
                have HB : Hid (b = true) := Lib.hid (by rw [Kb.out, show decide (k < Q) = true by simp; omega]; simp)
                clear hqk
                generalize itemL a s Q = T at *
                obtain ⟨t, en, a1⟩ := T
                clear htight
                by_cases he : en = 0
                · obtain ⟨hb1, hb2⟩ := hbd.out he
                  have hN := Lib.hid (hnxt.out he)
                  clear hnxt hbad
                  subst he
                  have hsq := spEnd_bd s (s.size - t) t
                  have hsq1 : t ≤ spAt s t := hsq.1
                  have hsq2 : spAt s t ≤ s.size := hsq.2 hb2
                  clear hsq
                  go_wp2_with fail
                  ((with_reducible refine HI.out.mono ?_))
                  rintro e w2 ⟨v, t2, rfl, ht2, ⟨⟨vC1, vP1, rfl, hc1, hp1⟩, h32, p32⟩, hbel⟩
                  obtain rfl : t2 = t := ht2 rfl
                  clear ht2
                  obtain ⟨A2, e2, rfl⟩ := own_slice hc1
                  obtain ⟨A3, e3, rfl⟩ := own_slice hp1
                  obtain ⟨⟨hz, R1, x, y, z, R2⟩, hbe, hin⟩ := rinv_next KI.out hbel hc1 hp1 h32 p32 (.cells #[.string a1.id, .slice A2 a1.cl.length e2, .slice A3 a1.pr.length e3] 27)
                  have KIN := Lib.hid hin
                  have k0 := R2.cell 0
                  have k1 := R2.cell 1
                  have k2 := R2.cell 2
                  simp at k0 k1 k2
                  have m0 := R2.frozen 0
                  have m1 := R2.frozen 1
                  have m2 := R2.frozen 2
                  clear hin R1 R2 hbel hc1 hp1
                  go_wp2
                  go_roundw
                  case rel => exact ⟨t2, c + 1, f - 1, decide (t2 < spAt s t2), a1, rfl, by go_num, Lib.hid (by simp), KIN, Lib.hid (by rw [← KR.out, HB.out, hN.out]), by omega, hb2, by omega⟩
                  case measure => simp [intOf]; omega
                · have hT : Hid (R = (emptyA, 0, en)) := Lib.hid (by rw [← KR.out, HB.out, hbad.out he])
                  have z5 : ((en : Int) != 0) = true := by simp; exact he
                  clear hnxt hbad hbd
                  go_wp2_with fail
                  ((with_reducible refine HI.out.mono ?_))
                  rintro e w2 ⟨v, t2, rfl, ht2, ⟨⟨vC1, vP1, rfl, hc1, hp1⟩, h32, p32⟩, hbel⟩
                  obtain ⟨A2, e2, rfl⟩ := own_slice hc1
                  obtain ⟨A3, e3, rfl⟩ := own_slice hp1
                  obtain ⟨⟨hz, R1, x, y, z, R2⟩, hbe, hin⟩ := rinv_next KI.out hbel hc1 hp1 h32 p32 (.cells #[.string a1.id, .slice A2 a1.cl.length e2, .slice A3 a1.pr.length e3] 27)
                  have hz0 : w.heap.size < w2.heap.size := by omega
                  have HFF := Lib.hid (rinv_fail R1 hbe)
                  have k0 := R1.cell 0
                  have k1 := R1.cell 1
                  have k2 := R1.cell 2
                  simp at k0 k1 k2
                  have m0 := R1.frozen 0
                  have m1 := R1.frozen 1
                  have m2 := R1.frozen 2
                  clear hin R1 R2 hbel hc1 hp1 ht2
                  go_wp2
                  refine rparse_ret (HFF.out.1.alloc _) rfl rfl rfl rfl ?_
                  rw [hT.out]
                  exact ⟨_, rfl, ⟨⟨_, _, rfl, World.ownsRow_nil _ _ _ _, World.ownsRow_nil _ _ _ _⟩, Nat.zero_le 32, Nat.zero_le 32⟩, HFF.out.2.2.alloc (by have := HFF.out.2.2.size; omega) _⟩

            · have dc : decide (0 < c) = false := decide_eq_false hc0
              have HB : Hid (b = true) := Lib.hid (by rw [Kb.out, show (c == 0) = true by simp; omega]; rfl)
              generalize itemL a s Q = T at *
              obtain ⟨t, en, a1⟩ := T
              clear htight
              by_cases he : en = 0
              · obtain ⟨hb1, hb2⟩ := hbd.out he
                have hN := Lib.hid (hnxt.out he)
                clear hnxt hbad
                subst he
                have hsq := spEnd_bd s (s.size - t) t
                have hsq1 : t ≤ spAt s t := hsq.1
                have hsq2 : spAt s t ≤ s.size := hsq.2 hb2
                clear hsq
                go_wp2_with fail
                ((with_reducible refine HI.out.mono ?_))
                rintro e w2 ⟨v, t2, rfl, ht2, ⟨⟨vC1, vP1, rfl, hc1, hp1⟩, h32, p32⟩, hbel⟩
                obtain rfl : t2 = t := ht2 rfl
                clear ht2
                obtain ⟨A2, e2, rfl⟩ := own_slice hc1
                obtain ⟨A3, e3, rfl⟩ := own_slice hp1
                obtain ⟨⟨hz, R1, x, y, z, R2⟩, hbe, hin⟩ := rinv_next KI.out hbel hc1 hp1 h32 p32 (.cells #[.string a1.id, .slice A2 a1.cl.length e2, .slice A3 a1.pr.length e3] 27)
                have KIN := Lib.hid hin
                have k0 := R2.cell 0
                have k1 := R2.cell 1
                have k2 := R2.cell 2
                simp at k0 k1 k2
                have m0 := R2.frozen 0
                have m1 := R2.frozen 1
                have m2 := R2.frozen 2
                clear hin R1 R2 hbel hc1 hp1
                go_wp2
                go_roundw
                case rel => exact ⟨t2, c + 1, f - 1, decide (t2 < spAt s t2), a1, rfl, by go_num, Lib.hid (by simp), KIN, Lib.hid (by rw [← KR.out, HB.out, hN.out]), by omega, hb2, by omega⟩
                case measure => simp [intOf]; omega
              · have hT : Hid (R = (emptyA, 0, en)) := Lib.hid (by rw [← KR.out, HB.out, hbad.out he])
                have z5 : ((en : Int) != 0) = true := by simp; exact he
                clear hnxt hbad hbd
                go_wp2_with fail
                ((with_reducible refine HI.out.mono ?_))
                rintro e w2 ⟨v, t2, rfl, ht2, ⟨⟨vC1, vP1, rfl, hc1, hp1⟩, h32, p32⟩, hbel⟩
                obtain ⟨A2, e2, rfl⟩ := own_slice hc1
                obtain ⟨A3, e3, rfl⟩ := own_slice hp1
                obtain ⟨⟨hz, R1, x, y, z, R2⟩, hbe, hin⟩ := rinv_next KI.out hbel hc1 hp1 h32 p32 (.cells #[.string a1.id, .slice A2 a1.cl.length e2, .slice A3 a1.pr.length e3] 27)
                have hz0 : w.heap.size < w2.heap.size := by omega
                have HFF := Lib.hid (rinv_fail R1 hbe)
                have k0 := R1.cell 0
                have k1 := R1.cell 1
                have k2 := R1.cell 2
                simp at k0 k1 k2
                have m0 := R1.frozen 0
                have m1 := R1.frozen 1
                have m2 := R1.frozen 2
                clear hin R1 R2 hbel hc1 hp1 ht2
                go_wp2
                refine rparse_ret (HFF.out.1.alloc _) rfl rfl rfl rfl ?_
                rw [hT.out]
                exact ⟨_, rfl, ⟨⟨_, _, rfl, World.ownsRow_nil _ _ _ _, World.ownsRow_nil _ _ _ _⟩, Nat.zero_le 32, Nat.zero_le 32⟩, HFF.out.2.2.alloc (by have := HFF.out.2.2.size; omega) _⟩

      · have hQ : Q = i := by rw [← K2.out, spEnd_stop s f2 i (fun h => hil h.1)]
        subst hQ
        have dQ : decide (s.size ≤ Q) = true := decide_eq_true (by omega)
        have hT : Hid (R = (emptyA, 0, 5)) := Lib.hid (by rw [← KR.out, parseF_end s f Q b a hil])
        go_wp2
        refine rparse_ret HF.out.1 rfl rfl rfl rfl ?_
        rw [hT.out]
        exact ⟨_, rfl, HF.out.2.1, HF.out.2.2⟩

theorem rfail_ok (w : World) : Blk (w.alloc (.cells #[.string ⟨#[]⟩, .slice none 0 0, .slice none 0 0] 27)) w.heap.size 27 #[.string ⟨#[]⟩, .slice none 0 0, .slice none 0 0] ∧ AttrVal (w.alloc (.cells #[.string ⟨#[]⟩, .slice none 0 0, .slice none 0 0] 27)) w.heap.size (.agg #[.string ⟨#[]⟩, .slice none 0 0, .slice none 0 0]) emptyA ∧ Below w.heap.size w (w.alloc (.cells #[.string ⟨#[]⟩, .slice none 0 0, .slice none 0 0] 27)) :=
  ⟨Blk.new _ _ _, ⟨⟨_, _, rfl, World.ownsRow_nil _ _ _ _, World.ownsRow_nil _ _ _ _⟩, by decide, by decide⟩, (Below.refl _ _).alloc (Nat.le_refl _) _⟩

set_option maxRecDepth 100000 in
set_option maxHeartbeats 2000000 in
theorem rparse_out (w : World) (s : ByteArray) (i : Int) (hs : s.size ≤ 1000000) (h : i < 0 ∨ (0 ≤ i ∧ (s.size : Int) ≤ i) ∨ (∃ n : Nat, i = n ∧ n < s.size ∧ bt s n ≠ 123)) :
    Calls Try.prog 19 #[.string s, .int .i64 i] w (ParsePost (emptyA, 0, 5) w) := by
  have hfin := Lib.hid (rfail_ok w)
  rcases h with h | ⟨h0, h⟩ | ⟨n, rfl, hn, hb⟩
  · have d0 : decide (i < 0) = true := decide_eq_true h
    go_enter Try.func19, Try.ntmps19
    go_wp2
    refine rparse_ret hfin.out.1 rfl rfl rfl rfl ?_
    exact ⟨_, rfl, hfin.out.2.1, hfin.out.2.2⟩
  · have d0 : decide (i < 0) = false := decide_eq_false (by omega)
    have d1 : decide ((s.size : Int) ≤ i) = true := decide_eq_true h
    go_enter Try.func19, Try.ntmps19
    go_wp2
    refine rparse_ret hfin.out.1 rfl rfl rfl rfl ?_
    exact ⟨_, rfl, hfin.out.2.1, hfin.out.2.2⟩
  · have hlt : ((s[n].toNat : Nat) : Int) < 256 := by rw [get_bt s n hn]; have := bt_lt s n; omega
    have z1 : (((s[n].toNat : Nat) : Int) != 123) = true := by rw [get_bt s n hn]; simp; omega
    have d1 : decide (s.size ≤ n) = false := decide_eq_false (by omega)
    clear hb
    go_enter Try.func19, Try.ntmps19
    go_wp2
    refine rparse_ret hfin.out.1 rfl rfl rfl rfl ?_
    exact ⟨_, rfl, hfin.out.2.1, hfin.out.2.2⟩

theorem rparse_any (w : World) (s : ByteArray) (i : Int) (hs : s.size ≤ 1000000) : Calls Try.prog 19 #[.string s, .int .i64 i] w (ParsePost (parseL s i) w) := by
  unfold parseL
  by_cases h : 0 ≤ i ∧ i < s.size ∧ bt s i.toNat = 123
  · rw [if_pos h]
    obtain ⟨n, rfl⟩ : ∃ n : Nat, i = n := ⟨i.toNat, by omega⟩
    exact rparse_in w s n hs (by omega) h.2.2
  · rw [if_neg h]
    refine rparse_out w s i hs ?_
    by_cases h0 : i < 0
    · exact Or.inl h0
    · by_cases h1 : (s.size : Int) ≤ i
      · exact Or.inr (Or.inl ⟨by omega, h1⟩)
      · refine Or.inr (Or.inr ⟨i.toNat, by omega, by omega, fun hb => h ⟨by omega, by omega, hb⟩⟩)
end Go.Proofs.Ytkcfcdnchlmekaa
