/-
  Texts of the proof, put together: AttrK, AttrSA, MkT, MkM.
-/
import Derived.Test.YthfienjmigidbaaGreatDoorB22
import Derived.Test.YthfienjmigidbaaGreatDoorB21
set_option linter.unusedVariables false
set_option linter.unusedSimpArgs false
namespace Go.Proofs.YthfienjmigidbaaGreatDoor
open Go.RowKit Go.Pub

theorem rparse_ret {W : World} {g : Nat} {x y z a5 a6 : Value} {P : Ending → World → Prop} {act : Act} (hr : Blk W g 25 #[x, y, z]) (h4 : act.tmps.getD 4 undef = .pointer (some ⟨g, 0, none⟩))
    (h5 : act.tmps.getD 5 undef = a5) (h6 : act.tmps.getD 6 undef = a6) (hd : act.defers = []) (hP : P (.returned (.tuple #[.agg #[x, y, z], a5, a6])) W) : bodyPost Tryz.prog Tryz.f79 P Exit.ret act W := by
  have c0 : W.cell? ⟨g, 0, none⟩ = some x := hr.cell 0
  have c1 : W.cell? ⟨g, 1, none⟩ = some y := hr.cell 1
  have c2 : W.cell? ⟨g, 2, none⟩ = some z := hr.cell 2
  refine bodyPost_ret (v := .tuple #[.agg #[x, y, z], a5, a6]) ?_ hd hP
  rw [Array.getD_eq_getD_getElem?] at h4 h5 h6
  simp [results, Tryz.results79, go_sem, h4, h5, h6, c0, c1, c2]

/-- What stands in memory at the head of the reference's loop. -/
structure RInv (w : World) (a : AttrL) (wr : World) : Prop where
  res : Blk wr w.heap.size 25 #[.string ⟨#[]⟩, .slice none 0 0, .slice none 0 0]
  att : AttrAt wr (w.heap.size + 1) (w.heap.size + 1 + 1) a
  bel : Below w.heap.size w wr

theorem rinv_start (w : World) : RInv w emptyA ((w.alloc (.cells #[.string ⟨#[]⟩, .slice none 0 0, .slice none 0 0] 25)).alloc (.cells #[.string ⟨#[]⟩, .slice none 0 0, .slice none 0 0] 25)) := by
  refine ⟨(Blk.new _ _ _).alloc _, ⟨.slice none 0 0, .slice none 0 0, ?_, World.ownsRow_nil _ _ _ _, World.ownsRow_nil _ _ _ _, by omega, by simp, by decide, by decide⟩, ((Below.refl _ _).alloc (Nat.le_refl _) _).alloc (by simp) _⟩
  have := Blk.new (w.alloc (.cells #[.string ⟨#[]⟩, .slice none 0 0, .slice none 0 0] 25)) 25 #[.string ⟨#[]⟩, .slice none 0 0, .slice none 0 0]
  show Blk _ _ _ #[.string ⟨#[]⟩, .slice none 0 0, .slice none 0 0]
  simpa using this

theorem rinv_fail {w wr : World} (hr : Blk wr w.heap.size 25 #[.string ⟨#[]⟩, .slice none 0 0, .slice none 0 0]) (hb : Below w.heap.size w wr) :
    Blk (((wr.setCell ⟨w.heap.size, 0, none⟩ (.string ⟨#[]⟩)).setCell ⟨w.heap.size, 1, none⟩ (.slice none 0 0)).setCell ⟨w.heap.size, 2, none⟩ (.slice none 0 0)) w.heap.size 25 #[.string ⟨#[]⟩, .slice none 0 0, .slice none 0 0] ∧
    AttrVal (((wr.setCell ⟨w.heap.size, 0, none⟩ (.string ⟨#[]⟩)).setCell ⟨w.heap.size, 1, none⟩ (.slice none 0 0)).setCell ⟨w.heap.size, 2, none⟩ (.slice none 0 0)) w.heap.size (.agg #[.string ⟨#[]⟩, .slice none 0 0, .slice none 0 0]) emptyA ∧
    Below w.heap.size w (((wr.setCell ⟨w.heap.size, 0, none⟩ (.string ⟨#[]⟩)).setCell ⟨w.heap.size, 1, none⟩ (.slice none 0 0)).setCell ⟨w.heap.size, 2, none⟩ (.slice none 0 0)) := by
  refine ⟨?_, ⟨⟨_, _, rfl, World.ownsRow_nil _ _ _ _, World.ownsRow_nil _ _ _ _⟩, by decide, by decide⟩, ((hb.setCell (by simp) _).setCell (by simp) _).setCell (by simp) _⟩
  have := ((hr.set_ 0 (.string ⟨#[]⟩)).set_ 1 (.slice none 0 0)).set_ 2 (.slice none 0 0)
  simpa using this

theorem rinv_done {w wr : World} {a : AttrL} {vC vP : Value} (h : RInv w a wr) (hA : AttrCells wr (w.heap.size + 1) (w.heap.size + 1 + 1) a vC vP) :
    Blk (((wr.setCell ⟨w.heap.size, 0, none⟩ (.string a.id)).setCell ⟨w.heap.size, 1, none⟩ vC).setCell ⟨w.heap.size, 2, none⟩ vP) w.heap.size 25 #[.string a.id, vC, vP] ∧
    AttrVal (((wr.setCell ⟨w.heap.size, 0, none⟩ (.string a.id)).setCell ⟨w.heap.size, 1, none⟩ vC).setCell ⟨w.heap.size, 2, none⟩ vP) w.heap.size (.agg #[.string a.id, vC, vP]) a ∧
    Below w.heap.size w (((wr.setCell ⟨w.heap.size, 0, none⟩ (.string a.id)).setCell ⟨w.heap.size, 1, none⟩ vC).setCell ⟨w.heap.size, 2, none⟩ vP) := by
  refine ⟨?_, ⟨⟨_, _, rfl, ?_, ?_⟩, hA.c32, hA.p32⟩, ((h.bel.setCell (by simp) _).setCell (by simp) _).setCell (by simp) _⟩
  · have := ((h.res.set_ 0 (.string a.id)).set_ 1 vC).set_ 2 vP
    simpa using this
  · exact own_base (ownsRow_setCell_below (ownsRow_setCell_below (ownsRow_setCell_below hA.cls (by simp; omega) _) (by simp; omega) _) (by simp; omega) _) (by omega)
  · exact own_base (ownsRow_setCell_below (ownsRow_setCell_below (ownsRow_setCell_below hA.prs (by simp; omega) _) (by simp; omega) _) (by simp; omega) _) (by omega)

/-- Behind an item: the attributes are stored in their block. -/
theorem rinv_next {w wr w1 : World} {a a1 : AttrL} {vC vP : Value} (h : RInv w a wr) (hb : Below (w.heap.size + 1 + 1) wr w1) (h1 : w1.ownsRow (w.heap.size + 1 + 1) 9 1 vC a1.cl.length (strs a1.cl)) (h2 : w1.ownsRow (w.heap.size + 1 + 1) 50 2 vP a1.pr.length (prs a1.pr)) (h3 : a1.cl.length ≤ 32) (h4 : a1.pr.length ≤ 32) (o : Obj) :
    (w.heap.size + 1 < w1.heap.size ∧ Blk w1 w.heap.size 25 #[.string ⟨#[]⟩, .slice none 0 0, .slice none 0 0] ∧ ∃ x y z, Blk w1 (w.heap.size + 1) 25 #[x, y, z]) ∧ Below w.heap.size w w1 ∧
    RInv w a1 ((((w1.setCell ⟨w.heap.size + 1, 0, none⟩ (.string a1.id)).setCell ⟨w.heap.size + 1, 1, none⟩ vC).setCell ⟨w.heap.size + 1, 2, none⟩ vP).alloc o) := by
  obtain ⟨uC, uP, hA⟩ := h.att
  have B1 := h.res.below hb (by omega)
  have B2 := hA.blk.below hb (by omega)
  have hbb := h.bel.trans (hb.mono (B' := w.heap.size) (by omega))
  have hsz : w.heap.size + 1 + 1 ≤ w1.heap.size := Nat.le_trans hA.le hb.size
  refine ⟨⟨by omega, B1, _, _, _, B2⟩, hbb, ?_⟩
  refine ⟨(((B1.far (by simp) _).far (by simp) _).far (by simp) _).alloc _, ⟨vC, vP, ?_, ?_, ?_, by omega, by simp [World.setCell]; omega, h3, h4⟩, ?_⟩
  · have := (((B2.set_ 0 (.string a1.id)).set_ 1 vC).set_ 2 vP).alloc o
    simpa using this
  · exact (ownsRow_setCell_below (ownsRow_setCell_below (ownsRow_setCell_below h1 (by simp) _) (by simp) _) (by simp) _).alloc _
  · exact (ownsRow_setCell_below (ownsRow_setCell_below (ownsRow_setCell_below h2 (by simp) _) (by simp) _) (by simp) _).alloc _
  · exact (((hbb.setCell (by simp) _).setCell (by simp) _).setCell (by simp) _).alloc (by simp [World.setCell]; omega) _

set_option maxRecDepth 100000 in
set_option maxHeartbeats 4000000 in
theorem rparse_in (w : World) (s : ByteArray) (n : Nat) (hs : s.size ≤ 1000000) (hn : n < s.size) (hb : bt s n = 123) :
    Calls Tryz.prog 79 #[.string s, .int .i64 n] w (ParsePost (parseF s (s.size + 1) (spAt s (n + 1)) true emptyA) w) := by
  have hlt : ((s[n].toNat : Nat) : Int) < 256 := by rw [get_bt s n hn]; have := bt_lt s n; omega
  have z1 : (((s[n].toNat : Nat) : Int) != 123) = false := by rw [get_bt s n hn, hb]; rfl
  have d1 : decide (s.size ≤ n) = false := decide_eq_false (by omega)
  clear hb
  have HS := Lib.hid (rinv_start w)
  generalize hR : parseF s (s.size + 1) (spAt s (n + 1)) true emptyA = R at *
  have HR := Lib.hid hR
  clear hR
  go_enter Tryz.func79, Tryz.ntmps79
  go_wp2_with fail
  go_loopw [8, 9] (fun p m wr => ∃ (k c f : Nat) (b : Bool) (a : AttrL), p = .int .i64 k ∧ m = .int .i64 c ∧ Hid (b = (c == 0 || decide (k < spAt s k))) ∧ Hid (RInv w a wr) ∧ Hid (parseF s f (spAt s k) b a = R) ∧ s.size < spAt s k + f ∧ k ≤ s.size ∧ c < k) (fun p _ _ => s.size - (intOf p).toNat)
  case atStart => exact ⟨n + 1, 0, s.size + 1, true, emptyA, by go_num, rfl, Lib.hid rfl, HS, HR, by omega, by omega, by omega⟩
  case round =>
    obtain ⟨k, c, f, b, a, rfl, rfl, Kb, KI, KR, hkf, hks, hck⟩ := hrel
    have hsp := spEnd_bd s (s.size - k) k
    have hsp1 : k ≤ spAt s k := hsp.1
    have hsp2 : spAt s k ≤ s.size := hsp.2 hks
    clear hsp
    have HSP : Hid (spEnd s (s.size - k) k = spAt s k) := Lib.hid rfl
    have hcs : c ≤ s.size := by omega
    go_wp2_with fail
    generalize spAt s k = Q at *
    obtain ⟨wo, rfl⟩ : ∃ wo : World, wo = wr := ⟨_, rfl⟩
    go_loop [10] (fun q => ∃ i f2 : Nat, q = .int .i64 i ∧ Hid (spEnd s f2 i = Q) ∧ s.size - i ≤ f2 ∧ i ≤ s.size ∧ k ≤ i) (fun q => s.size - (intOf q).toNat)
    case atStart => exact ⟨k, s.size - k, rfl, HSP, Nat.le_refl _, hks, Nat.le_refl _⟩
    case round =>
      obtain ⟨i, f2, rfl, K2, hf2, hi, hki⟩ := hrel
      have c0 := KI.out.res.cell 0
      have c1 := KI.out.res.cell 1
      have c2 := KI.out.res.cell 2
      simp at c0 c1 c2
      have q0 := KI.out.res.frozen 0
      have q1 := KI.out.res.frozen 1
      have q2 := KI.out.res.frozen 2
      have HF := Lib.hid (rinv_fail KI.out.res KI.out.bel)
      obtain ⟨vC, vP, hA⟩ := KI.out.att
      have KA := Lib.hid hA
      have a0 := hA.blk.cell 0
      have a1 := hA.blk.cell 1
      have a2 := hA.blk.cell 2
      have b0 := hA.blk.frozen 0
      have b1 := hA.blk.frozen 1
      have b2 := hA.blk.frozen 2
      obtain ⟨AC, cC, rfl⟩ := own_slice hA.cls
      obtain ⟨AP, cP, rfl⟩ := own_slice hA.prs
      simp at a0 a1 a2
      clear hA
      by_cases hil : i < s.size
      · have hli : ((s[i].toNat : Nat) : Int) < 256 := by rw [get_bt s i hil]; have := bt_lt s i; omega
        by_cases h32 : bt s i = 32
        · have z2 : (((s[i].toNat : Nat) : Int) == 32) = true := by rw [get_bt s i hil, h32]; rfl
          have hst := Lib.hid (spEnd_step s f2 i hil h32 hf2)
          clear h32
          go_wp2
          go_round
          case rel => exact ⟨i + 1, f2 - 1, by go_num, Lib.hid (by rw [← K2.out, hst.out]), by omega, by omega, by omega⟩
          case measure => simp [intOf]; omega
        · have z2 : (((s[i].toNat : Nat) : Int) == 32) = false := by rw [get_bt s i hil, beq_eq_false_iff_ne]; omega
          have hQ : Q = i := by rw [← K2.out, spEnd_stop s f2 i (fun h => h32 h.2)]
          clear h32
          subst hQ
          have dQ : decide (s.size ≤ Q) = false := decide_eq_false (by omega)
          by_cases h125 : bt s Q = 125
          · have z3 : (((s[Q].toNat : Nat) : Int) == 125) = true := by rw [get_bt s Q hil, h125]; rfl
            have hT : Hid (R = (a, Q + 1, 0)) := Lib.hid (by rw [← KR.out, parseF_close s f Q b a hil hkf h125])
            have hfin := Lib.hid (rinv_done KI.out KA.out)
            clear h125
            go_wp2
            refine rparse_ret hfin.out.1 rfl rfl rfl rfl ?_
            rw [hT.out]
            exact ⟨_, rfl, hfin.out.2.1, hfin.out.2.2⟩
          · have z3 : (((s[Q].toNat : Nat) : Int) == 125) = false := by rw [get_bt s Q hil, beq_eq_false_iff_ne]; omega
            have HI := Lib.hid (ritem_any wo (w.heap.size + 1 + 1) a (.slice AC a.cl.length cC) (.slice AP a.pr.length cP) s Q ⟨KA.out.cls, KA.out.prs, KA.out.le, KA.out.c32, KA.out.p32⟩ hs hil)
            have hbd := Lib.hid (itemL_bd a s Q hil)
            have htight := Lib.hid (parseF_tight s f Q a hil h125)
            have hbad := Lib.hid (parseF_bad s f Q a hil hkf h125)
            have hnxt := Lib.hid (parseF_next s f Q a hil hkf h125)
            clear h125
            by_cases hc0 : 0 < c
            · have dc : decide (0 < c) = true := decide_eq_true hc0
              by_cases hqk : k = Q
              · have z4 : ((Q : Int) == (k : Int)) = true := by rw [hqk]; exact beq_self_eq_true _
                have z5 : (Q == k) = true := by rw [hqk]; exact beq_self_eq_true _
                have hT : Hid (R = (emptyA, 0, 5)) := Lib.hid (by rw [← KR.out, Kb.out, show (c == 0) = false by simp; omega, show decide (k < Q) = false by simp; omega, ← htight.out]; rfl)
                clear hqk hnxt hbad hbd
                go_wp2
                refine rparse_ret HF.out.1 rfl rfl rfl rfl ?_
                rw [hT.out]
                exact ⟨_, rfl, HF.out.2.1, HF.out.2.2⟩
              · have z4 : ((Q : Int) == (k : Int)) = false := by rw [beq_eq_false_iff_ne]; omega
                have z5 : (Q == k) = false := by rw [beq_eq_false_iff_ne]; omega
                have HB : Hid (b = true) := Lib.hid (by rw [Kb.out, show decide (k < Q) = true by simp; omega]; simp)
                clear hqk
                generalize itemL a s Q = T at *
                obtain ⟨t, en, a1⟩ := T
                clear htight
                by_cases he : en = 0
                · obtain ⟨hb1, hb2⟩ := hbd.out he
                  have hN := Lib.hid (hnxt.out he)
                  clear hnxt hbad
                  subst he
                  have hsq := spEnd_bd s (s.size - t) t
                  have hsq1 : t ≤ spAt s t := hsq.1
                  have hsq2 : spAt s t ≤ s.size := hsq.2 hb2
                  clear hsq
                  go_wp2_with fail
                  ((with_reducible refine HI.out.mono ?_))
                  rintro e w2 ⟨v, t2, rfl, ht2, ⟨⟨vC1, vP1, rfl, hc1, hp1⟩, h32, p32⟩, hbel⟩
                  obtain rfl : t2 = t := ht2 rfl
                  clear ht2
                  obtain ⟨A2, e2, rfl⟩ := own_slice hc1
                  obtain ⟨A3, e3, rfl⟩ := own_slice hp1
                  obtain ⟨⟨hz, R1, x, y, z, R2⟩, hbe, hin⟩ := rinv_next KI.out hbel hc1 hp1 h32 p32 (.cells #[.string a1.id, .slice A2 a1.cl.length e2, .slice A3 a1.pr.length e3] 25)
                  have KIN := Lib.hid hin
                  have k0 := R2.cell 0
                  have k1 := R2.cell 1
                  have k2 := R2.cell 2
                  simp at k0 k1 k2
                  have m0 := R2.frozen 0
                  have m1 := R2.frozen 1
                  have m2 := R2.frozen 2
                  clear hin R1 R2 hbel hc1 hp1
                  go_wp2
                  go_roundw
                  case rel => exact ⟨t2, c + 1, f - 1, decide (t2 < spAt s t2), a1, rfl, by go_num, Lib.hid (by simp), KIN, Lib.hid (by rw [← KR.out, HB.out, hN.out]), by omega, hb2, by omega⟩
                  case measure => simp [intOf]; omega
                · have hT : Hid (R = (emptyA, 0, en)) := Lib.hid (by rw [← KR.out, HB.out, hbad.out he])
                  have z5 : ((en : Int) != 0) = true := by simp; exact he
                  clear hnxt hbad hbd
                  go_wp2_with fail
                  ((with_reducible refine HI.out.mono ?_))
                  rintro e w2 ⟨v, t2, rfl, ht2, ⟨⟨vC1, vP1, rfl, hc1, hp1⟩, h32, p32⟩, hbel⟩
                  obtain ⟨A2, e2, rfl⟩ := own_slice hc1
                  obtain ⟨A3, e3, rfl⟩ := own_slice hp1
                  obtain ⟨⟨hz, R1, x, y, z, R2⟩, hbe, hin⟩ := rinv_next KI.out hbel hc1 hp1 h32 p32 (.cells #[.string a1.id, .slice A2 a1.cl.length e2, .slice A3 a1.pr.length e3] 25)
                  have hz0 : w.heap.size < w2.heap.size := by omega
                  have HFF := Lib.hid (rinv_fail R1 hbe)
                  have k0 := R1.cell 0
                  have k1 := R1.cell 1
                  have k2 := R1.cell 2
                  simp at k0 k1 k2
                  have m0 := R1.frozen 0
                  have m1 := R1.frozen 1
                  have m2 := R1.frozen 2
                  clear hin R1 R2 hbel hc1 hp1 ht2
                  go_wp2
                  refine rparse_ret (HFF.out.1.alloc _) rfl rfl rfl rfl ?_
                  rw [hT.out]
                  exact ⟨_, rfl, ⟨⟨_, _, rfl, World.ownsRow_nil _ _ _ _, World.ownsRow_nil _ _ _ _⟩, Nat.zero_le 32, Nat.zero_le 32⟩, HFF.out.2.2.alloc (by have := HFF.out.2.2.size; omega) _⟩

            · have dc : decide (0 < c) = false := decide_eq_false hc0
              have HB : Hid (b = true) := Lib.hid (by rw [Kb.out, show (c == 0) = true by simp; omega]; rfl)
              generalize itemL a s Q = T at *
              obtain ⟨t, en, a1⟩ := T
              clear htight
              by_cases he : en = 0
              · obtain ⟨hb1, hb2⟩ := hbd.out he
                have hN := Lib.hid (hnxt.out he)
                clear hnxt hbad
                subst he
                have hsq := spEnd_bd s (s.size - t) t
                have hsq1 : t ≤ spAt s t := hsq.1
                have hsq2 : spAt s t ≤ s.size := hsq.2 hb2
                clear hsq
                go_wp2_with fail
                ((with_reducible refine HI.out.mono ?_))
                rintro e w2 ⟨v, t2, rfl, ht2, ⟨⟨vC1, vP1, rfl, hc1, hp1⟩, h32, p32⟩, hbel⟩
                obtain rfl : t2 = t := ht2 rfl
                clear ht2
                obtain ⟨A2, e2, rfl⟩ := own_slice hc1
                obtain ⟨A3, e3, rfl⟩ := own_slice hp1
                obtain ⟨⟨hz, R1, x, y, z, R2⟩, hbe, hin⟩ := rinv_next KI.out hbel hc1 hp1 h32 p32 (.cells #[.string a1.id, .slice A2 a1.cl.length e2, .slice A3 a1.pr.length e3] 25)
                have KIN := Lib.hid hin
                have k0 := R2.cell 0
                have k1 := R2.cell 1
                have k2 := R2.cell 2
                simp at k0 k1 k2
                have m0 := R2.frozen 0
                have m1 := R2.frozen 1
                have m2 := R2.frozen 2
                clear hin R1 R2 hbel hc1 hp1
                go_wp2
                go_roundw
                case rel => exact ⟨t2, c + 1, f - 1, decide (t2 < spAt s t2), a1, rfl, by go_num, Lib.hid (by simp), KIN, Lib.hid (by rw [← KR.out, HB.out, hN.out]), by omega, hb2, by omega⟩
                case measure => simp [intOf]; omega
              · have hT : Hid (R = (emptyA, 0, en)) := Lib.hid (by rw [← KR.out, HB.out, hbad.out he])
                have z5 : ((en : Int) != 0) = true := by simp; exact he
                clear hnxt hbad hbd
                go_wp2_with fail
                ((with_reducible refine HI.out.mono ?_))
                rintro e w2 ⟨v, t2, rfl, ht2, ⟨⟨vC1, vP1, rfl, hc1, hp1⟩, h32, p32⟩, hbel⟩
                obtain ⟨A2, e2, rfl⟩ := own_slice hc1
                obtain ⟨A3, e3, rfl⟩ := own_slice hp1
                obtain ⟨⟨hz, R1, x, y, z, R2⟩, hbe, hin⟩ := rinv_next KI.out hbel hc1 hp1 h32 p32 (.cells #[.string a1.id, .slice A2 a1.cl.length e2, .slice A3 a1.pr.length e3] 25)
                have hz0 : w.heap.size < w2.heap.size := by omega
                have HFF := Lib.hid (rinv_fail R1 hbe)
                have k0 := R1.cell 0
                have k1 := R1.cell 1
                have k2 := R1.cell 2
                simp at k0 k1 k2
                have m0 := R1.frozen 0
                have m1 := R1.frozen 1
                have m2 := R1.frozen 2
                clear hin R1 R2 hbel hc1 hp1 ht2
                go_wp2
                refine rparse_ret (HFF.out.1.alloc _) rfl rfl rfl rfl ?_
                rw [hT.out]
                exact ⟨_, rfl, ⟨⟨_, _, rfl, World.ownsRow_nil _ _ _ _, World.ownsRow_nil _ _ _ _⟩, Nat.zero_le 32, Nat.zero_le 32⟩, HFF.out.2.2.alloc (by have := HFF.out.2.2.size; omega) _⟩

      · have hQ : Q = i := by rw [← K2.out, spEnd_stop s f2 i (fun h => hil h.1)]
        subst hQ
        have dQ : decide (s.size ≤ Q) = true := decide_eq_true (by omega)
        have hT : Hid (R = (emptyA, 0, 5)) := Lib.hid (by rw [← KR.out, parseF_end s f Q b a hil])
        go_wp2
        refine rparse_ret HF.out.1 rfl rfl rfl rfl ?_
        rw [hT.out]
        exact ⟨_, rfl, HF.out.2.1, HF.out.2.2⟩

theorem rfail_ok (w : World) : Blk (w.alloc (.cells #[.string ⟨#[]⟩, .slice none 0 0, .slice none 0 0] 25)) w.heap.size 25 #[.string ⟨#[]⟩, .slice none 0 0, .slice none 0 0] ∧ AttrVal (w.alloc (.cells #[.string ⟨#[]⟩, .slice none 0 0, .slice none 0 0] 25)) w.heap.size (.agg #[.string ⟨#[]⟩, .slice none 0 0, .slice none 0 0]) emptyA ∧ Below w.heap.size w (w.alloc (.cells #[.string ⟨#[]⟩, .slice none 0 0, .slice none 0 0] 25)) :=
  ⟨Blk.new _ _ _, ⟨⟨_, _, rfl, World.ownsRow_nil _ _ _ _, World.ownsRow_nil _ _ _ _⟩, by decide, by decide⟩, (Below.refl _ _).alloc (Nat.le_refl _) _⟩

set_option maxRecDepth 100000 in
set_option maxHeartbeats 2000000 in
theorem rparse_out (w : World) (s : ByteArray) (i : Int) (hs : s.size ≤ 1000000) (h : i < 0 ∨ (0 ≤ i ∧ (s.size : Int) ≤ i) ∨ (∃ n : Nat, i = n ∧ n < s.size ∧ bt s n ≠ 123)) :
    Calls Tryz.prog 79 #[.string s, .int .i64 i] w (ParsePost (emptyA, 0, 5) w) := by
  have hfin := Lib.hid (rfail_ok w)
  rcases h with h | ⟨h0, h⟩ | ⟨n, rfl, hn, hb⟩
  · have d0 : decide (i < 0) = true := decide_eq_true h
    go_enter Tryz.func79, Tryz.ntmps79
    go_wp2
    refine rparse_ret hfin.out.1 rfl rfl rfl rfl ?_
    exact ⟨_, rfl, hfin.out.2.1, hfin.out.2.2⟩
  · have d0 : decide (i < 0) = false := decide_eq_false (by omega)
    have d1 : decide ((s.size : Int) ≤ i) = true := decide_eq_true h
    go_enter Tryz.func79, Tryz.ntmps79
    go_wp2
    refine rparse_ret hfin.out.1 rfl rfl rfl rfl ?_
    exact ⟨_, rfl, hfin.out.2.1, hfin.out.2.2⟩
  · have hlt : ((s[n].toNat : Nat) : Int) < 256 := by rw [get_bt s n hn]; have := bt_lt s n; omega
    have z1 : (((s[n].toNat : Nat) : Int) != 123) = true := by rw [get_bt s n hn]; simp; omega
    have d1 : decide (s.size ≤ n) = false := decide_eq_false (by omega)
    clear hb
    go_enter Tryz.func79, Tryz.ntmps79
    go_wp2
    refine rparse_ret hfin.out.1 rfl rfl rfl rfl ?_
    exact ⟨_, rfl, hfin.out.2.1, hfin.out.2.2⟩

theorem rparse_any (w : World) (s : ByteArray) (i : Int) (hs : s.size ≤ 1000000) : Calls Tryz.prog 79 #[.string s, .int .i64 i] w (ParsePost (parseL s i) w) := by
  unfold parseL
  by_cases h : 0 ≤ i ∧ i < s.size ∧ bt s i.toNat = 123
  · rw [if_pos h]
    obtain ⟨n, rfl⟩ : ∃ n : Nat, i = n := ⟨i.toNat, by omega⟩
    exact rparse_in w s n hs (by omega) h.2.2
  · rw [if_neg h]
    refine rparse_out w s i hs ?_
    by_cases h0 : i < 0
    · exact Or.inl h0
    · by_cases h1 : (s.size : Int) ≤ i
      · exact Or.inr (Or.inl ⟨by omega, h1⟩)
      · refine Or.inr (Or.inr ⟨i.toNat, by omega, by omega, fun hb => h ⟨by omega, by omega, hb⟩⟩)
end Go.Proofs.YthfienjmigidbaaGreatDoor
namespace Go.Proofs.YthfienjmigidbaaGreatDoor
open Go.RowKit Go.Pub

def SmallA (n : Nat) (a : AttrL) : Prop := a.id.size ≤ n ∧ (∀ x ∈ a.cl, x.size ≤ n) ∧ (∀ p ∈ a.pr, p.1.size ≤ n ∧ p.2.size ≤ n)
theorem extract_le (s : ByteArray) (i j : Nat) : (s.extract i j).size ≤ s.size := by rw [ByteArray.size_extract]; omega
theorem valL_small (s : ByteArray) (i : Nat) : (valL s i).1.size ≤ s.size := by
  unfold valL
  split
  · cases hq : qv s s.size (i + 1) [] with
    | none => exact Nat.zero_le _
    | some p =>
      obtain ⟨l, j⟩ := p
      have := (qv_len s _ _ _ l j hq).1
      show (mk l).size ≤ _
      rw [← bytesL_length, bytesL_mk']
      simp at this
      omega
  · exact extract_le _ _ _
theorem classA_small (n : Nat) (a : AttrL) (x : ByteArray) (h : SmallA n a) (hx : x.size ≤ n) : SmallA n (classA a x) := by
  unfold classA
  split
  · refine ⟨h.1, fun y hy => ?_, h.2.2⟩
    rcases List.mem_append.1 hy with hy | hy
    · exact h.2.1 y hy
    · simp at hy; subst hy; exact hx
  · exact h
theorem pairA_small (n : Nat) (a : AttrL) (x y : ByteArray) (h : SmallA n a) (hx : x.size ≤ n) (hy : y.size ≤ n) : SmallA n (pairA a x y) := by
  unfold pairA
  split
  · refine ⟨h.1, h.2.1, fun p hp => ?_⟩
    rcases List.mem_append.1 hp with hp | hp
    · exact h.2.2 p hp
    · simp at hp; subst hp; exact ⟨hx, hy⟩
  · exact h
theorem itemL_small (s : ByteArray) (a : AttrL) (i : Nat) (h : SmallA s.size a) : SmallA s.size (itemL a s i).2.2 := by
  unfold itemL
  split
  · split
    · split
      · exact ⟨extract_le _ _ _, h.2.1, h.2.2⟩
      · exact h
    · exact h
  · split
    · split
      · exact classA_small _ _ _ h (extract_le _ _ _)
      · exact h
    · split
      · unfold pairItem
        split
        · split
          · exact pairA_small _ _ _ _ h (extract_le _ _ _) (valL_small _ _)
          · exact h
        · exact h
      · exact h
theorem emptyA_small (n : Nat) : SmallA n emptyA := ⟨Nat.zero_le _, fun x hx => absurd hx (by simp [emptyA]), fun x hx => absurd hx (by simp [emptyA])⟩
theorem parseF_small (s : ByteArray) : ∀ f i b a, SmallA s.size a → SmallA s.size (parseF s f i b a).1
  | 0, _, _, _, _ => emptyA_small _
  | f + 1, i, b, a, h => by
    unfold parseF
    split
    · split
      · exact h
      · split
        · exact emptyA_small _
        · split
          · exact parseF_small s f _ _ _ (itemL_small s a i h)
          · exact emptyA_small _
    · exact emptyA_small _
theorem parseL_small (s : ByteArray) (i : Int) : SmallA s.size (parseL s i).1 := by
  unfold parseL
  split
  · exact parseF_small s _ _ _ _ (emptyA_small _)
  · exact emptyA_small _
theorem AttrVal.read {w : World} {base : Nat} {v : Value} {a : AttrL} {n : Nat} (h : AttrVal w base v a) (hs : SmallA n a) (hn : n ≤ 1000000) :
    ∃ A c D d, v = .agg #[.string a.id, .slice A a.cl.length c, .slice D a.pr.length d] ∧ ReadA w w.heap.size a A c D d ∧ a.cl.length ≤ c ∧ a.pr.length ≤ d := by
  obtain ⟨⟨vC, vP, rfl, hc, hp⟩, h1, h2⟩ := h
  obtain ⟨A, c, rfl⟩ := own_slice hc
  obtain ⟨D, d, rfl⟩ := own_slice hp
  refine ⟨A, c, D, d, rfl, ⟨Reads.of_own hc, Reads.of_own hp, Nat.le_refl _, by omega, by omega, Nat.le_trans hs.1 hn, fun x hx => Nat.le_trans (hs.2.1 x hx) hn, fun x hx => ⟨Nat.le_trans (hs.2.2 x hx).1 hn, Nat.le_trans (hs.2.2 x hx).2 hn⟩⟩, ?_, ?_⟩
  · rcases hc.2 with ⟨e1, e2⟩ | ⟨g', cap', cur', e1, _, _, e2, _⟩
    · omega
    · injection e1 with _ _ e3; omega
  · rcases hp.2 with ⟨e1, e2⟩ | ⟨g', cap', cur', e1, _, _, e2, _⟩
    · omega
    · injection e1 with _ _ e3; omega

/-- What Parse gives, ready to be read. -/
def ReadyPost (r : AttrL × Nat × Nat) (w : World) (e : Ending) (w' : World) : Prop :=
  ∃ A c D d, e = .returned (.tuple #[.agg #[.string r.1.id, .slice A r.1.cl.length c, .slice D r.1.pr.length d], .int .i64 r.2.1, .int .i64 r.2.2]) ∧ ReadA w' w'.heap.size r.1 A c D d ∧ r.1.cl.length ≤ c ∧ r.1.pr.length ≤ d ∧ Below w.heap.size w w'
theorem parse_ready (w : World) (s : ByteArray) (i : Int) (hs : s.size ≤ 1000000) : Calls Tryz.prog 78 #[.string s, .int .i64 i] w (ReadyPost (parseL s i) w) := by
  refine (parse_any w s i hs).mono ?_
  rintro e w' ⟨v, rfl, hv, hb⟩
  obtain ⟨A, c, D, d, rfl, h1, h2, h3⟩ := hv.read (parseL_small s i) hs
  exact ⟨A, c, D, d, rfl, h1, h2, h3, hb⟩
theorem rparse_ready (w : World) (s : ByteArray) (i : Int) (hs : s.size ≤ 1000000) : Calls Tryz.prog 79 #[.string s, .int .i64 i] w (ReadyPost (parseL s i) w) := by
  refine (rparse_any w s i hs).mono ?_
  rintro e w' ⟨v, rfl, hv, hb⟩
  obtain ⟨A, c, D, d, rfl, h1, h2, h3⟩ := hv.read (parseL_small s i) hs
  exact ⟨A, c, D, d, rfl, h1, h2, h3, hb⟩
theorem rsame_true (w : World) (a : AttrL) (A : Option Addr) (c : Nat) (D : Option Addr) (d B : Nat) (A' : Option Addr) (c' : Nat) (D' : Option Addr) (d' B' : Nat) (h : ReadA w B a A c D d) (h' : ReadA w B' a A' c' D' d') :
    Calls Tryz.prog 11 #[.agg #[.string a.id, .slice A a.cl.length c, .slice D a.pr.length d], .agg #[.string a.id, .slice A' a.cl.length c', .slice D' a.pr.length d']] w fun e w' => e = .returned (.bool true) ∧ Below w.heap.size w w' := by
  refine (rsame_any w a a A c D d B A' c' D' d' B' h h').mono ?_
  rintro e w' ⟨r, rfl, hr, hb⟩
  exact ⟨by rw [hr.2 rfl], hb⟩
end Go.Proofs.YthfienjmigidbaaGreatDoor
namespace Go.Proofs.YthfienjmigidbaaGreatDoor
open Go.RowKit Go.Pub

def optA : Option AttrL → AttrL × Bool
  | some a => (a, true)
  | none => (emptyA, false)
def closeD (c : ByteArray) (K N : Int) (ch : ByteArray) : AttrL × Bool :=
  if K = 7 then (emptyA, decide (ch.size = 1 ∧ 1 ≤ N) && (decide (N ≤ (firstN c (· != bt ch 0) : Int)) && blankB (c.extract (firstN c (· != bt ch 0)) c.size)))
  else if K = 8 then (if Lib.hasPrefix (bytesL c) [36, 36] = true then optA (onlyR (c.extract 2 c.size)) else (emptyA, false))
  else if K = 9 then (emptyA, decide (1 ≤ N) && (decide ((firstN c (· != 58) : Int) = N) && blankB (c.extract (firstN c (· != 58)) c.size)))
  else (emptyA, false)
def closesM (s : ByteArray) (K N : Int) (ch : ByteArray) : AttrL × Bool := if 3 < indA s 0 then (emptyA, false) else closeD (s.extract (indA s 0) s.size) K N ch
/-- Attributes and whether a line closes are handed back. -/
def ClPost (r : AttrL × Bool) (w : World) (e : Ending) (w' : World) : Prop := (∃ vC vP, e = .returned (.tuple #[.agg #[.string r.1.id, vC, vP], .bool r.2]) ∧ OwnA w' w.heap.size r.1 vC vP) ∧ Below w.heap.size w w'
theorem small_mono {n m : Nat} {a : AttrL} (h : SmallA n a) (hn : n ≤ m) : SmallA m a := ⟨Nat.le_trans h.1 hn, fun x hx => Nat.le_trans (h.2.1 x hx) hn, fun p hp => ⟨Nat.le_trans (h.2.2 p hp).1 hn, Nat.le_trans (h.2.2 p hp).2 hn⟩⟩
theorem onlyR_small (s : ByteArray) (a : AttrL) (h : onlyR s = some a) : SmallA s.size a := by
  have hz : (mk (trimS (bytesL s))).size ≤ s.size := by rw [mk_size]; have := trimS_len (bytesL s); rwa [bytesL_length] at this
  unfold onlyR at h
  split at h
  · injection h with h; subst h; exact emptyA_small _
  · split at h
    · injection h with h; subst h; exact small_mono (parseL_small _ _) hz
    · cases h
theorem closesM_small (s : ByteArray) (K N : Int) (ch : ByteArray) : SmallA s.size (closesM s K N ch).1 := by
  unfold closesM
  split
  · exact emptyA_small _
  unfold closeD
  split
  · exact emptyA_small _
  split
  · split
    · cases h : onlyR ((s.extract (indA s 0) s.size).extract 2 (s.extract (indA s 0) s.size).size) with
      | none => exact emptyA_small _
      | some a => exact small_mono (onlyR_small _ _ h) (Nat.le_trans (extract_le _ _ _) (extract_le _ _ _))
    · exact emptyA_small _
  split
  · exact emptyA_small _
  · exact emptyA_small _
end Go.Proofs.YthfienjmigidbaaGreatDoor
namespace Go.Proofs.YthfienjmigidbaaGreatDoor
open Go.RowKit Go.Pub

def divT (T : ByteArray) (n : Nat) : Option MkL :=
  if nameB (T.extract 0 (nameN T)) = true then (onlyR (T.extract (nameN T) T.size)).map fun a => { kind := 9, n := n, info := T.extract 0 (nameN T), att := a } else none
def divM (c : ByteArray) : Option MkL := if 3 ≤ firstN c (· != 58) then divT (mk (trimS (sfx c (firstN c (· != 58))))) (firstN c (· != 58)) else none
theorem nameN_le (s : ByteArray) : nameN s ≤ s.size := firstN_le _ _

set_option maxRecDepth 100000 in
set_option maxHeartbeats 2000000 in
theorem m_directive (c : ByteArray) (ind : Nat) (w : World) (hs : c.size ≤ 1000000) (h0 : 0 < c.size) : Calls Tryz.prog 40 #[.string c, .int .i64 ind] w (RdPost (divM c) w) := by
  have hnl := firstN_le c (· != 58)
  have HRn : Hid (∀ W, Calls Tryz.prog 26 #[.string c, .int .u8 58] W fun e w' => e = .returned (.int .i64 (firstN c (· != 58))) ∧ Below W.heap.size W w') := Lib.hid fun W => m_run c 58 (by omega) W hs
  have HR : Hid (divM c = if 3 ≤ firstN c (· != 58) then divT (mk (trimS (sfx c (firstN c (· != 58))))) (firstN c (· != 58)) else none) := Lib.hid rfl
  generalize divM c = R at *
  generalize firstN c (· != 58) = n at *
  by_cases h1 : n < 3
  · have HF : Hid (R = none) := Lib.hid (by rw [HR.out, if_neg (by omega)])
    have d1 : decide ((n : Int) < 3) = true := decide_eq_true (by omega)
    have d2 : decide (n < 3) = true := decide_eq_true h1
    clear HR
    go_enter Tryz.func40, Tryz.ntmps40
    go_wp2_with fail
    ((with_reducible refine (HRn.out _).mono ?_))
    rintro e w' ⟨rfl, b1⟩
    obtain ⟨HZ, HB⟩ := zw_after b1
    obtain ⟨k0, k1, k2, k3, k4, k5, k6, k7, k8, k9, k10, y0, y1, y2, y3, y4, y5, y6, y7, y8, y9, y10⟩ := ZM.facts HZ
    go_wp2_with fail
    exact directive_ret (blk11 HZ _ _ _ _ _ _ _ _ _ _ _) rfl rfl rfl (rd_none HF.out ⟨_, _, _, _, _, _, _, _, _, _, _, _, _, _, _, rfl⟩ (below11 HB (Nat.le_refl _) _ _ _ _ _ _ _ _ _ _ _))
  have d1 : decide ((n : Int) < 3) = false := decide_eq_false (by omega)
  have d2 : decide (n < 3) = false := decide_eq_false h1
  have hxs : (c.extract n c.size).size ≤ 1000000 := by rw [ByteArray.size_extract]; omega
  have HX := Lib.hid (extract_drop c n)
  have HTr : Hid (∀ W, Calls Tryz.prog 77 #[.string (c.extract n c.size)] W fun e w' => e = .returned (.string (mk (trimS (sfx c n)))) ∧ W = w') := Lib.hid fun W => by
    have h := t_trim (c.extract n c.size) W hxs
    rw [HX.out, bytesL_mk', ← HX.out] at h
    exact h
  have htz : (mk (trimS (sfx c n))).size ≤ 1000000 := by rw [mk_size]; have := trimS_len (sfx c n); rw [sfx_len] at this; omega
  have HR2 : Hid (R = divT (mk (trimS (sfx c n))) n) := Lib.hid (by rw [HR.out, if_pos (by omega)])
  clear HX HR h1
  generalize mk (trimS (sfx c n)) = T at *
  have HNm := Lib.hid fun W => m_nameEnd T W htz
  have hkl := nameN_le T
  have HR3 : Hid (R = if nameB (T.extract 0 (nameN T)) = true then (onlyR (T.extract (nameN T) T.size)).map fun a => { kind := 9, n := n, info := T.extract 0 (nameN T), att := a } else none) := HR2
  clear HR2
  generalize nameN T = k at *
  have hNz : (T.extract 0 k).size = k := by rw [ByteArray.size_extract]; omega
  have hys : (T.extract k T.size).size ≤ 1000000 := by rw [ByteArray.size_extract]; omega
  have HOn := Lib.hid fun W => m_only (T.extract k T.size) W hys
  generalize hN : T.extract 0 k = N at *
  have HNa := Lib.hid fun W => name_any N W (by omega)
  generalize onlyR (T.extract k T.size) = OR at *
  cases hnb : nameB N
  · have HF : Hid (R = none) := Lib.hid (by rw [HR3.out, hnb]; rfl)
    rw [hnb] at HNa
    clear HR3 hnb
    go_enter Tryz.func40, Tryz.ntmps40
    go_wp2_with fail
    ((with_reducible refine (HRn.out _).mono ?_))
    rintro e w' ⟨rfl, b1⟩
    obtain ⟨HZ1, HB1⟩ := zw_after b1
    clear b1
    go_wp2_with fail
    ((with_reducible refine (HTr.out _).mono ?_))
    rintro e w0 ⟨rfl, rfl⟩
    go_wp2_with fail
    ((with_reducible refine (HNm.out _).mono ?_))
    rintro e w2 ⟨rfl, b2⟩
    have HZ := ZM.below HZ1 b2
    have HB := HB1.trans (b2.mono HB1.size)
    clear HZ1 HB1 b2
    go_wp2_with fail
    ((with_reducible refine (HNa.out _).mono ?_))
    rintro e w0 ⟨rfl, rfl⟩
    obtain ⟨k0, k1, k2, k3, k4, k5, k6, k7, k8, k9, k10, y0, y1, y2, y3, y4, y5, y6, y7, y8, y9, y10⟩ := ZM.facts HZ
    go_wp2_with fail
    exact directive_ret (blk11 HZ _ _ _ _ _ _ _ _ _ _ _) rfl rfl rfl (rd_none HF.out ⟨_, _, _, _, _, _, _, _, _, _, _, _, _, _, _, rfl⟩ (below11 HB (Nat.le_refl _) _ _ _ _ _ _ _ _ _ _ _))
  · have HF : Hid (R = OR.map fun a => { kind := 9, n := n, info := N, att := a }) := Lib.hid (by rw [HR3.out, hnb]; rfl)
    rw [hnb] at HNa
    clear HR3 hnb
    go_enter Tryz.func40, Tryz.ntmps40
    go_wp2_with fail
    ((with_reducible refine (HRn.out _).mono ?_))
    rintro e w' ⟨rfl, b1⟩
    obtain ⟨HZ1, HB1⟩ := zw_after b1
    clear b1
    go_wp2_with fail
    ((with_reducible refine (HTr.out _).mono ?_))
    rintro e w0 ⟨rfl, rfl⟩
    go_wp2_with fail
    ((with_reducible refine (HNm.out _).mono ?_))
    rintro e w2 ⟨rfl, b2⟩
    have HZ2 := ZM.below HZ1 b2
    have HB2 := HB1.trans (b2.mono HB1.size)
    clear HZ1 HB1 b2
    go_wp2_with fail
    ((with_reducible refine (HNa.out _).mono ?_))
    rintro e w0 ⟨rfl, rfl⟩
    go_wp2_with fail
    ((with_reducible refine (HOn.out _).mono ?_))
    rintro e w3 ⟨⟨ea, vC, vP, b, rfl, hO, hor, -⟩, b3⟩
    obtain ⟨qA, qc, rfl⟩ := own_slice hO.cls
    obtain ⟨qD, qd, rfl⟩ := own_slice hO.prs
    have HF2 : Hid (R = if b = true then some { kind := 9, n := n, info := N, att := ea } else none) := Lib.hid (by rw [HF.out, hor]; cases b <;> rfl)
    have HZ3 : ZM (w3.alloc (.cells #[.string ea.id, .slice qA ea.cl.length qc, .slice qD ea.pr.length qd] 25)) w.heap.size := Blk.alloc (ZM.below HZ2 b3) _
    have HB3 := (HB2.trans (b3.mono HB2.size)).alloc (Nat.le_trans HB2.size b3.size) (.cells #[.string ea.id, .slice qA ea.cl.length qc, .slice qD ea.pr.length qd] 25)
    have HO3 : Hid (OwnA (w3.alloc (.cells #[.string ea.id, .slice qA ea.cl.length qc, .slice qD ea.pr.length qd] 25)) w2.heap.size ea (.slice qA ea.cl.length qc) (.slice qD ea.pr.length qd)) := Lib.hid (hO.below ((Below.refl _ _).alloc (Nat.le_refl _) _))
    have hlt := Lib.hid (show w.heap.size < w2.heap.size from HZ2.lt)
    have HBn := Blk.new w3 25 #[.string ea.id, .slice qA ea.cl.length qc, .slice qD ea.pr.length qd]
    have e0 := HBn.cell 0
    have e1 := HBn.cell 1
    have e2 := HBn.cell 2
    clear HZ2 hO b3 HBn hor HF
    obtain ⟨k0, k1, k2, k3, k4, k5, k6, k7, k8, k9, k10, y0, y1, y2, y3, y4, y5, y6, y7, y8, y9, y10⟩ := ZM.facts HZ3
    go_wp2_with fail
    refine directive_ret (blk11 HZ3 _ _ _ _ _ _ _ _ _ _ _) rfl rfl rfl (rd_if HF2.out (mkVal_own (m := { kind := 9, n := n, info := N, att := ea }) ?_) (below11 HB3 (Nat.le_refl _) _ _ _ _ _ _ _ _ _ _ _))
    exact ownA_low (ownA_far HO3.out (grown11 _ _ _ _ _ _ _ _ _ _ _ _ _) hlt.out) HB2.size

def noteX (X : ByteArray) : Option MkL := if cutB X = true ∧ nameB (cutHead X) = true ∧ Lib.hasPrefix (bytesL (cutRest X)) [58] = true then some { kind := 10, info := cutHead X, off := 4, rest := stripB (tl1 (cutRest X)) 1 } else none
def noteM (c : ByteArray) : Option MkL := if Lib.hasPrefix (bytesL c) [91, 94] = true then noteX (c.extract 2 c.size) else none
theorem pre_len {s : ByteArray} {p : List UInt8} (h : Lib.hasPrefix (bytesL s) p = true) : p.length ≤ s.size := by
  have : p <+: bytesL s := by simpa [Lib.hasPrefix] using h
  have := this.length_le
  rwa [bytesL_length] at this
theorem cutHead_size (X : ByteArray) : (cutHead X).size ≤ X.size := by
  unfold cutHead
  rw [mk_size, List.length_take, bytesL_length]; omega
theorem cutRest_size (X : ByteArray) : (cutRest X).size ≤ X.size := by
  unfold cutRest
  split
  · rw [ByteArray.size_extract]; omega
  · exact Nat.zero_le _

set_option maxRecDepth 100000 in
set_option maxHeartbeats 2000000 in
theorem m_note (c : ByteArray) (ind : Nat) (w : World) (hs : c.size ≤ 1000000) (h0 : 0 < c.size) : Calls Tryz.prog 41 #[.string c, .int .i64 ind] w (RdPost (noteM c) w) := by
  have HP : Hid (∀ W, Calls Tryz.prog 28 #[.string c, .string ⟨#[91, 94]⟩] W fun e w' => e = .returned (.bool (Lib.hasPrefix (bytesL c) [91, 94])) ∧ W = w') := Lib.hid fun W => (Tryz.strings_HasPrefix c ⟨#[91, 94]⟩ W).mono fun e w' ⟨h, h'⟩ => ⟨h, h'.symm⟩
  have HR : Hid (noteM c = if Lib.hasPrefix (bytesL c) [91, 94] = true then noteX (c.extract 2 c.size) else none) := Lib.hid rfl
  have hl : Lib.hasPrefix (bytesL c) [91, 94] = true → 2 ≤ c.size := fun h => pre_len h
  generalize noteM c = R at *
  cases hp : Lib.hasPrefix (bytesL c) [91, 94]
  · have HF : Hid (R = none) := Lib.hid (by rw [HR.out, hp]; rfl)
    rw [hp] at HP
    clear HR hp hl
    go_enter Tryz.func41, Tryz.ntmps41
    go_wp2_with fail
    ((with_reducible refine (HP.out _).mono ?_))
    rintro e w' ⟨rfl, rfl⟩
    go_wp2_with fail
    exact note_ret (Blk.new w _ _) rfl rfl rfl (rd_none HF.out ⟨_, _, _, _, _, _, _, _, _, _, _, _, _, _, _, rfl⟩ ((Below.refl _ w).alloc (Nat.le_refl _) _))
  have h2 := hl hp
  have HR2 : Hid (R = noteX (c.extract 2 c.size)) := Lib.hid (by rw [HR.out, hp]; rfl)
  rw [hp] at HP
  clear HR hp hl
  have hxs : (c.extract 2 c.size).size ≤ 1000000 := by rw [ByteArray.size_extract]; omega
  generalize hX : c.extract 2 c.size = X at *
  have HC := Lib.hid fun W => cut_all X W hxs
  have hcz := cutHead_size X
  have hrz := cutRest_size X
  have HR3 : Hid (R = if cutB X = true ∧ nameB (cutHead X) = true ∧ Lib.hasPrefix (bytesL (cutRest X)) [58] = true then some { kind := 10, info := cutHead X, off := 4, rest := stripB (tl1 (cutRest X)) 1 } else none) := HR2
  clear HR2
  unfold Cut3Post at HC
  generalize cutB X = cb at *
  generalize cutHead X = N at *
  generalize cutRest X = Y at *
  have HNa := Lib.hid fun W => name_any N W (by omega)
  have HP2 : Hid (∀ W, Calls Tryz.prog 28 #[.string Y, .string ⟨#[58]⟩] W fun e w' => e = .returned (.bool (Lib.hasPrefix (bytesL Y) [58])) ∧ W = w') := Lib.hid fun W => (Tryz.strings_HasPrefix Y ⟨#[58]⟩ W).mono fun e w' ⟨h, h'⟩ => ⟨h, h'.symm⟩
  have hyl : Lib.hasPrefix (bytesL Y) [58] = true → 1 ≤ Y.size := fun h => pre_len h
  have hty := tl1_size Y
  have HTy : Hid (tl1 Y = Y.extract 1 Y.size) := Lib.hid rfl
  have HS : Hid (∀ W, Calls Tryz.prog 82 #[.string (tl1 Y), .int .i64 1] W fun e w' => e = .returned (.string (stripB (tl1 Y) 1)) ∧ W = w') := Lib.hid fun W => t_strip (tl1 Y) 1 W (by omega) (by omega)
  generalize stripB (tl1 Y) 1 = S at *
  rw [HTy.out] at HS
  clear HTy hty
  generalize Lib.hasPrefix (bytesL Y) [58] = pb at *
  cases cb
  · have HF : Hid (R = none) := Lib.hid (by rw [HR3.out]; simp)
    clear HR3
    go_enter Tryz.func41, Tryz.ntmps41
    go_wp2_with fail
    ((with_reducible refine (HP.out _).mono ?_))
    rintro e w' ⟨rfl, rfl⟩
    go_wp2_with fail
    ((with_reducible refine (HC.out _).mono ?_))
    rintro e w' ⟨rfl, b1⟩
    obtain ⟨HZ, HB⟩ := zw_after b1
    obtain ⟨k0, k1, k2, k3, k4, k5, k6, k7, k8, k9, k10, y0, y1, y2, y3, y4, y5, y6, y7, y8, y9, y10⟩ := ZM.facts HZ
    go_wp2_with fail
    exact note_ret (blk11 HZ _ _ _ _ _ _ _ _ _ _ _) rfl rfl rfl (rd_none HF.out ⟨_, _, _, _, _, _, _, _, _, _, _, _, _, _, _, rfl⟩ (below11 HB (Nat.le_refl _) _ _ _ _ _ _ _ _ _ _ _))
  cases hnb : nameB N
  · have HF : Hid (R = none) := Lib.hid (by rw [HR3.out, hnb]; simp)
    rw [hnb] at HNa
    clear HR3 hnb
    go_enter Tryz.func41, Tryz.ntmps41
    go_wp2_with fail
    ((with_reducible refine (HP.out _).mono ?_))
    rintro e w' ⟨rfl, rfl⟩
    go_wp2_with fail
    ((with_reducible refine (HC.out _).mono ?_))
    rintro e w' ⟨rfl, b1⟩
    obtain ⟨HZ, HB⟩ := zw_after b1
    clear b1
    go_wp2_with fail
    ((with_reducible refine (HNa.out _).mono ?_))
    rintro e w0 ⟨rfl, rfl⟩
    obtain ⟨k0, k1, k2, k3, k4, k5, k6, k7, k8, k9, k10, y0, y1, y2, y3, y4, y5, y6, y7, y8, y9, y10⟩ := ZM.facts HZ
    go_wp2_with fail
    exact note_ret (blk11 HZ _ _ _ _ _ _ _ _ _ _ _) rfl rfl rfl (rd_none HF.out ⟨_, _, _, _, _, _, _, _, _, _, _, _, _, _, _, rfl⟩ (below11 HB (Nat.le_refl _) _ _ _ _ _ _ _ _ _ _ _))
  rw [hnb] at HNa
  cases pb
  · have HF : Hid (R = none) := Lib.hid (by rw [HR3.out]; simp)
    clear HR3 hnb
    go_enter Tryz.func41, Tryz.ntmps41
    go_wp2_with fail
    ((with_reducible refine (HP.out _).mono ?_))
    rintro e w' ⟨rfl, rfl⟩
    go_wp2_with fail
    ((with_reducible refine (HC.out _).mono ?_))
    rintro e w' ⟨rfl, b1⟩
    obtain ⟨HZ, HB⟩ := zw_after b1
    clear b1
    go_wp2_with fail
    ((with_reducible refine (HNa.out _).mono ?_))
    rintro e w0 ⟨rfl, rfl⟩
    go_wp2_with fail
    ((with_reducible refine (HP2.out _).mono ?_))
    rintro e w0 ⟨rfl, rfl⟩
    obtain ⟨k0, k1, k2, k3, k4, k5, k6, k7, k8, k9, k10, y0, y1, y2, y3, y4, y5, y6, y7, y8, y9, y10⟩ := ZM.facts HZ
    go_wp2_with fail
    exact note_ret (blk11 HZ _ _ _ _ _ _ _ _ _ _ _) rfl rfl rfl (rd_none HF.out ⟨_, _, _, _, _, _, _, _, _, _, _, _, _, _, _, rfl⟩ (below11 HB (Nat.le_refl _) _ _ _ _ _ _ _ _ _ _ _))
  · have HF : Hid (R = some { kind := 10, info := N, off := 4, rest := S }) := Lib.hid (by rw [HR3.out, hnb]; simp)
    have hy1 := hyl rfl
    clear HR3 hnb hyl
    go_enter Tryz.func41, Tryz.ntmps41
    go_wp2_with fail
    ((with_reducible refine (HP.out _).mono ?_))
    rintro e w' ⟨rfl, rfl⟩
    go_wp2_with fail
    ((with_reducible refine (HC.out _).mono ?_))
    rintro e w' ⟨rfl, b1⟩
    obtain ⟨HZ, HB⟩ := zw_after b1
    clear b1
    go_wp2_with fail
    ((with_reducible refine (HNa.out _).mono ?_))
    rintro e w0 ⟨rfl, rfl⟩
    go_wp2_with fail
    ((with_reducible refine (HP2.out _).mono ?_))
    rintro e w0 ⟨rfl, rfl⟩
    go_wp2_with fail
    ((with_reducible refine (HS.out _).mono ?_))
    rintro e w0 ⟨rfl, rfl⟩
    obtain ⟨k0, k1, k2, k3, k4, k5, k6, k7, k8, k9, k10, y0, y1, y2, y3, y4, y5, y6, y7, y8, y9, y10⟩ := ZM.facts HZ
    go_wp2_with fail
    exact note_ret (blk11 HZ _ _ _ _ _ _ _ _ _ _ _) rfl rfl rfl (rd_some HF.out (mkVal_plain (m := { kind := 10, info := N, off := 4, rest := S }) rfl (below11 HB (Nat.le_refl _) _ _ _ _ _ _ _ _ _ _ _).size) (below11 HB (Nat.le_refl _) _ _ _ _ _ _ _ _ _ _ _))
end Go.Proofs.YthfienjmigidbaaGreatDoor
