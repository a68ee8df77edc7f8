/-
  Texts of the proof, put together (what this law reaches): ScU, ScY.
-/
import Derived.Test.YtfnloonmeilhlaaGreatDoorT28
import Derived.Test.YtfnloonmeilhlaaGreatDoorT27
import Derived.RangeFuncOwn
import Derived.RangeFuncWrites
set_option linter.unusedVariables false
set_option linter.unusedSimpArgs false
namespace Go.Pub
theorem citedI_eq (p : ByteArray) (a f : Nat) (b : Bool) (ha : citA p = a) (hb : b = (decide (0 < a) && bt p (a - 1) == 45)) (hf : f = if b = true then a - 1 else a) : citedI p =
    if a < p.size ∧ toE p (a + 1) (fun b => b == 64) ≥ p.size ∧ (f = 0 ∨ bt p (f - 1) = 32) then
      (if nameB (p.extract (a + 1) (wordAt p (a + 1))) = true then some ⟨p.extract (a + 1) (wordAt p (a + 1)), mk (trimL (sub p 0 f)), mk (trimL (sfx p (wordAt p (a + 1)))), b⟩ else none)
    else none := by
  subst hf hb ha
  unfold citedI nmEnd
  dsimp only
  by_cases h : nameB (p.extract (citA p + 1) (wordAt p (citA p + 1))) = true
  · rw [if_pos h, if_pos h]; rfl
  · rw [if_neg h, if_neg h]; rfl
end Go.Pub
namespace Go.Proofs.YtfnloonmeilhlaaGreatDoor
open Go.RowKit Go.Pub
def zCit : Array Value := #[.string ⟨#[]⟩, .string ⟨#[]⟩, .string ⟨#[]⟩, .bool false]
def citV (r : Option CitL) : Value := match r with
  | none => .agg zCit
  | some c => .agg #[.string c.key, .string c.pre, .string c.suf, .bool c.bare]
def CitPost (r : Option CitL) (w : World) (e : Ending) (w' : World) : Prop := e = .returned (.tuple #[citV r, .bool r.isSome]) ∧ Below w.heap.size w w'
theorem cit_facts {W : World} {g : Nat} {T : TypeId} {x0 x1 x2 x3 : Value} (h : Blk W g T #[x0, x1, x2, x3]) : W.cell? ⟨g, 0, none⟩ = some x0 ∧ W.cell? ⟨g, 1, none⟩ = some x1 ∧ W.cell? ⟨g, 2, none⟩ = some x2 ∧ W.cell? ⟨g, 3, none⟩ = some x3 ∧ W.frozen? ⟨g, 0, none⟩ = false ∧ W.frozen? ⟨g, 1, none⟩ = false ∧ W.frozen? ⟨g, 2, none⟩ = false ∧ W.frozen? ⟨g, 3, none⟩ = false :=
  ⟨h.cell 0, h.cell 1, h.cell 2, h.cell 3, h.frozen 0, h.frozen 1, h.frozen 2, h.frozen 3⟩
theorem blk4 {W : World} {g : Nat} {T : TypeId} {x0 x1 x2 x3 : Value} (h : Blk W g T #[x0, x1, x2, x3]) (y0 y1 y2 y3 : Value) : Blk ((((W.setCell ⟨g, 0, none⟩ y0).setCell ⟨g, 1, none⟩ y1).setCell ⟨g, 2, none⟩ y2).setCell ⟨g, 3, none⟩ y3) g T #[y0, y1, y2, y3] := by
  have h0 := h.set_ 0 y0
  rw [show (#[x0, x1, x2, x3] : Array Value).setIfInBounds 0 y0 = #[y0, x1, x2, x3] from rfl] at h0
  have h1 := h0.set_ 1 y1
  rw [show (#[y0, x1, x2, x3] : Array Value).setIfInBounds 1 y1 = #[y0, y1, x2, x3] from rfl] at h1
  have h2 := h1.set_ 2 y2
  rw [show (#[y0, y1, x2, x3] : Array Value).setIfInBounds 2 y2 = #[y0, y1, y2, x3] from rfl] at h2
  have h3 := h2.set_ 3 y3
  rw [show (#[y0, y1, y2, x3] : Array Value).setIfInBounds 3 y3 = #[y0, y1, y2, y3] from rfl] at h3
  exact h3
theorem below4 {B : Nat} {w W : World} (h : Below B w W) {g : Nat} (hg : B ≤ g) (y0 y1 y2 y3 : Value) : Below B w ((((W.setCell ⟨g, 0, none⟩ y0).setCell ⟨g, 1, none⟩ y1).setCell ⟨g, 2, none⟩ y2).setCell ⟨g, 3, none⟩ y3) :=
  (((h.setCell (p := ⟨g, 0, none⟩) hg y0).setCell (p := ⟨g, 1, none⟩) hg y1).setCell (p := ⟨g, 2, none⟩) hg y2).setCell (p := ⟨g, 3, none⟩) hg y3
theorem cit_ret {F : Func} {a b : Nat} {W : World} {g : Nat} {x0 x1 x2 x3 : Value} {u : Value} {P : Ending → World → Prop} {act : Act} (hF : F.results = #[ResultVar.cell a 99, ResultVar.tmp b]) (hr : Blk W g 99 #[x0, x1, x2, x3]) (h4 : act.tmps.getD a undef = .pointer (some ⟨g, 0, none⟩)) (h5 : act.tmps.getD b undef = u) (hd : act.defers = []) (hP : P (.returned (.tuple #[.agg #[x0, x1, x2, x3], u])) W) : bodyPost Tryz.prog F P Exit.ret act W := by
  obtain ⟨c0, c1, c2, c3, _⟩ := cit_facts hr
  refine bodyPost_ret (v := .tuple #[.agg #[x0, x1, x2, x3], u]) ?_ hd hP
  rw [Array.getD_eq_getD_getElem?] at h4 h5
  simp [results, hF, go_sem, h4, h5, c0, c1, c2, c3]
theorem byte_any (s : ByteArray) (i : Nat) (W : World) (hi : i ≤ s.size) : Calls Tryz.prog 100 #[.string (s.extract i s.size), .int .u8 64] W fun e w' => e = .returned (.int .i64 (if toE s i (fun b => b == 64) < s.size then ((toE s i (fun b => b == 64) - i : Nat) : Int) else -1)) ∧ W = w' := by
  refine (Tryz.strings_IndexByte (s.extract i s.size) 64 W).mono ?_
  rintro e w' ⟨rfl, rfl⟩
  refine ⟨ret_int ?_, rfl⟩
  exact toE_byte s i 64 hi
theorem trim_any (s : ByteArray) (W : World) (hs : s.size ≤ 1000000) : Calls Tryz.prog 78 #[.string s, .string ⟨#[32]⟩] W fun e w' => e = .returned (.string (mk (trimL (bytesL s)))) ∧ Below W.heap.size W w' := by
  refine (Tryz.strings_Trim_one s 32 (by decide) W (by omega)).mono ?_
  rintro e w' ⟨rfl, rfl | h⟩
  · exact ⟨rfl, Below.refl _ _⟩
  · exact ⟨rfl, by rw [h]; exact (Below.refl _ _).drew⟩
set_option maxRecDepth 100000 in
set_option maxHeartbeats 8000000 in
theorem s_cited (p : ByteArray) (w : World) (hs : p.size ≤ 1000000) : Calls Tryz.prog 87 #[.string p] w (CitPost (citedI p) w) := by
  obtain ⟨a, ha⟩ : ∃ a, a = citA p := ⟨_, rfl⟩
  have haE : toE p 0 (fun b => b == 64) = a := ha.symm
  have hale : a ≤ p.size := by rw [← haE]; exact toE_le p 0 _ (by omega)
  have HI := Lib.hid fun W => byte_any p 0 W (by omega)
  rw [haE, show p.extract 0 p.size = p from ByteArray.extract_zero_size] at HI
  obtain ⟨b, hb⟩ : ∃ b, b = (decide (0 < a) && bt p (a - 1) == 45) := ⟨_, rfl⟩
  obtain ⟨f, hf⟩ : ∃ f, f = if b = true then a - 1 else a := ⟨_, rfl⟩
  have HR := Lib.hid (citedI_eq p a f b ha.symm hb hf)
  generalize citedI p = R at *
  clear ha haE
  by_cases h1 : a < p.size
  · rw [if_pos h1, Nat.sub_zero] at HI
    have HJ := Lib.hid fun W => byte_any p (a + 1) W (by omega)
    have hT := toE_ge p (a + 1) fun b => b == 64
    generalize toE p (a + 1) (fun b => b == 64) = T at *
    by_cases h2 : T < p.size
    · have HF : Hid (R = none) := Lib.hid (by rw [HR.out, if_neg fun c => by omega])
      rw [if_pos h2] at HJ
      have hge : (0 : Int) ≤ ((T - (a + 1) : Nat) : Int) := by omega
      generalize ((T - (a + 1) : Nat) : Int) = n2 at *
      clear HR hb hf
      go_enter Tryz.func87, Tryz.ntmps87
      go_wp2_with fail
      ((with_reducible refine (HI.out _).mono ?_))
      rintro e w1 ⟨rfl, rfl⟩
      go_wp2_with fail
      ((with_reducible refine (HJ.out _).mono ?_))
      rintro e w1 ⟨rfl, rfl⟩
      go_wp2_with fail
      exact cit_ret Tryz.results87 (Blk.new w _ _) rfl rfl rfl ⟨by rw [HF.out]; rfl, (Below.refl _ w).alloc (Nat.le_refl _) _⟩
    · rw [if_neg h2] at HJ
      have HA := Lib.hid fun W => name_any (p.extract (a + 1) (wordAt p (a + 1))) W (by rw [ByteArray.size_extract]; omega)
      have HN := Lib.hid fun W => s_nameEnd p (a + 1) W hs
      have HT1 := Lib.hid fun W => trim_any (p.extract 0 f) W (by rw [ByteArray.size_extract]; omega)
      have HT2 := Lib.hid fun W => trim_any (p.extract (wordAt p (a + 1)) p.size) W (by rw [ByteArray.size_extract]; omega)
      rw [bytesL_sub] at HT1
      rw [suffix_bytes] at HT2
      have hk1 := (wordAt_bd p (a + 1)).1
      have hk2 := (wordAt_bd p (a + 1)).2 h1
      have hfa : f ≤ a := by rw [hf]; split <;> omega
      have HR2 : Hid (R = if f = 0 ∨ bt p (f - 1) = 32 then (if nameB (p.extract (a + 1) (wordAt p (a + 1))) = true then some ⟨p.extract (a + 1) (wordAt p (a + 1)), mk (trimL (sub p 0 f)), mk (trimL (sfx p (wordAt p (a + 1)))), b⟩ else none) else none) := Lib.hid (by
        rw [HR.out]
        by_cases h : f = 0 ∨ bt p (f - 1) = 32
        · rw [if_pos h, if_pos ⟨h1, by omega, h⟩]
        · rw [if_neg h, if_neg fun c => h c.2.2])
      have hKz : (p.extract (wordAt p (a + 1)) p.size).size = (p.extract (wordAt p (a + 1)) p.size).size := rfl
      clear HR hKz
      generalize wordAt p (a + 1) = K at *
      generalize trimL (sub p 0 f) = t1 at *
      generalize trimL (sfx p K) = t2 at *
      generalize nameB (p.extract (a + 1) K) = nm at *
      go_enter Tryz.func87, Tryz.ntmps87
      go_wp2_with fail
      ((with_reducible refine (HI.out _).mono ?_))
      rintro e w1 ⟨rfl, rfl⟩
      go_wp2_with fail
      ((with_reducible refine (HJ.out _).mono ?_))
      rintro e w1 ⟨rfl, rfl⟩
      have hB0 : Blk ((w.alloc (.cells #[.string ⟨#[]⟩, .string ⟨#[]⟩, .string ⟨#[]⟩, .bool false] 99)).alloc (.cells #[.string ⟨#[]⟩, .string ⟨#[]⟩, .string ⟨#[]⟩, .bool false] 99)) w.heap.size 99 zCit := (Blk.new w _ _).alloc _
      have hB1 : Blk ((w.alloc (.cells #[.string ⟨#[]⟩, .string ⟨#[]⟩, .string ⟨#[]⟩, .bool false] 99)).alloc (.cells #[.string ⟨#[]⟩, .string ⟨#[]⟩, .string ⟨#[]⟩, .bool false] 99)) (w.heap.size + 1) 99 #[.string ⟨#[]⟩, .string ⟨#[]⟩, .string ⟨#[]⟩, .bool false] := by
        have := Blk.new (w.alloc (.cells #[.string ⟨#[]⟩, .string ⟨#[]⟩, .string ⟨#[]⟩, .bool false] 99)) 99 #[.string ⟨#[]⟩, .string ⟨#[]⟩, .string ⟨#[]⟩, .bool false]
        simpa using this
      have hBw : Below w.heap.size w ((w.alloc (.cells #[.string ⟨#[]⟩, .string ⟨#[]⟩, .string ⟨#[]⟩, .bool false] 99)).alloc (.cells #[.string ⟨#[]⟩, .string ⟨#[]⟩, .string ⟨#[]⟩, .bool false] 99)) := ((Below.refl _ _).alloc (Nat.le_refl _) _).alloc (by simp) _
      go_upto_region 6 with fail
      generalize ((w.alloc (.cells #[.string ⟨#[]⟩, .string ⟨#[]⟩, .string ⟨#[]⟩, .bool false] 99)).alloc (.cells #[.string ⟨#[]⟩, .string ⟨#[]⟩, .string ⟨#[]⟩, .bool false] 99)) = W0 at *
      have HB0 := Lib.hid hB0
      have HB1 := Lib.hid hB1
      have HBw := Lib.hid hBw
      clear hB0 hB1 hBw
      go_cut [30] (fun s30 wx => s30 = .bool b ∧ W0 = wx)
      case first =>
        clear HR2 HT1 HT2 HA HN HI HJ HB0 HB1 HBw
        by_cases h0 : 0 < a
        · have ea : (a : Int) - 1 = ((a - 1 : Nat) : Int) := by omega
          have hga := get_bt p (a - 1) (by omega)
          have ha1 : a - 1 < p.size := by omega
          by_cases h45 : bt p (a - 1) = 45
          · obtain rfl : b = true := by rw [hb, h45, decide_eq_true h0]; rfl
            rw [h45] at hga
            clear hb hf h45
            go_wp2_with fail
            go_meet
            case rel => exact ⟨rfl, rfl⟩
          · obtain rfl : b = false := by rw [hb, beq_eq_false_iff_ne.2 h45, Bool.and_false]
            have n1 : ((bt p (a - 1) : Int) == 45) = false := beq_eq_false_iff_ne.2 (by omega)
            clear hb hf h45
            generalize bt p (a - 1) = ch at *
            go_wp2_with fail
            go_meet
            case rel => exact ⟨rfl, rfl⟩
        · obtain rfl : b = false := by rw [hb, decide_eq_false h0]; rfl
          clear hb hf
          go_wp2_with fail
          go_meet
          case rel => exact ⟨rfl, rfl⟩
      case rest =>
      obtain ⟨rfl, rfl⟩ := hcut
      have hba : b = true → 0 < a := fun h => by
        rcases Nat.eq_zero_or_pos a with x | x
        · rw [h, x] at hb; simp at hb
        · exact x
      go_upto_if 30 with fail
      go_cut [6] (fun s6 wx => s6 = .int .i64 f ∧ Blk wx w.heap.size 99 zCit ∧ Blk wx (w.heap.size + 1) 99 #[.string ⟨#[]⟩, .string ⟨#[]⟩, .string ⟨#[]⟩, .bool b] ∧ Below w.heap.size w wx)
      case first =>
        clear HR2 HT1 HT2 HA HN HI HJ hb
        cases b
        · obtain rfl : f = a := by rw [hf, if_neg (by simp)]
          clear hf
          go_wp2_with fail
          go_meet
          case rel => exact ⟨rfl, HB0.out, HB1.out, HBw.out⟩
        · obtain rfl : f = a - 1 := by rw [hf, if_pos rfl]
          have h0 := hba rfl
          have ea : (a : Int) - 1 = ((a - 1 : Nat) : Int) := by omega
          have g3 : W0.frozen? ⟨w.heap.size + 1, 3, none⟩ = false := HB1.out.frozen 3
          have k3 : W0.cell? ⟨w.heap.size + 1, 3, none⟩ = some (.bool false) := HB1.out.cell 3
          clear hf hba
          go_wp2_with fail
          go_meet
          case rel => exact ⟨rfl, HB0.out.far (by simp) _, HB1.out.set_ 3 _, HBw.out.setCell (by simp) _⟩
      case rest =>
      obtain ⟨rfl, hb0, hb1, hbw⟩ := hcut
      have HB0 := Lib.hid hb0
      have HB1 := Lib.hid hb1
      have HBw := Lib.hid hbw
      obtain ⟨c0, c1, c2, c3, f0, f1, f2, f3⟩ := cit_facts hb0
      obtain ⟨k0, k1, k2, k3, g0, g1, g2, g3⟩ := cit_facts hb1
      have hz := hb1.lt
      clear hb0 hb1 hbw hb hf HI HJ
      by_cases hok : f = 0 ∨ bt p (f - 1) = 32
      · have HR3 := Lib.hid (HR2.out.trans (if_pos hok))
        clear HR2
        have HSP : 0 < f → f - 1 < p.size ∧ bt p (f - 1) = 32 := fun h => ⟨by omega, by rcases hok with h2 | h2 <;> omega⟩
        have HGF : Hid (∀ h : f - 1 < p.size, ((p[f - 1]'h).toNat : Int) = (bt p (f - 1) : Int)) := Lib.hid fun h => by rw [get_bt p (f - 1) h]
        clear hok
        have hya : a + 1 ≤ K := hk1
        by_cases h0 : 0 < f
        · obtain ⟨hf1, h32⟩ := HSP h0
          have hgf := HGF.out hf1
          rw [h32] at hgf
          have ef : (f : Int) - 1 = ((f - 1 : Nat) : Int) := by omega
          clear h32 HSP HGF
          go_wp2_with fail
          (refine (HN.out _).mono ?_)
          rintro e w1 ⟨rfl, rfl⟩
          go_wp2_with fail
          ((with_reducible refine (HT1.out _).mono ?_))
          rintro e w1 ⟨rfl, b1⟩
          have s0 := (HB0.out.far (p := ⟨w.heap.size + 1, 0, none⟩) (by simp) (.string (p.extract (a + 1) K)))
          have s1 := (HB1.out.set_ 0 (.string (p.extract (a + 1) K)))
          have v0 := s0.below b1 s0.lt
          have v1 := s1.below b1 s1.lt
          have vw := (HBw.out.setCell (p := ⟨w.heap.size + 1, 0, none⟩) (by simp) (.string (p.extract (a + 1) K))).trans (b1.mono (Nat.le_of_lt s0.lt))
          have V0 := Lib.hid v0
          have V1 := Lib.hid v1
          have Vw := Lib.hid vw
          clear s0 s1 b1 v0 vw c0 c1 c2 c3 f0 f1 f2 f3 k0 k1 k2 k3 g0 g1 g2 g3 HB0 HB1 HBw
          obtain ⟨k0, k1, k2, k3, g0, g1, g2, g3⟩ := cit_facts (show Blk w1 (w.heap.size + 1) 99 #[.string (p.extract (a + 1) K), .string ⟨#[]⟩, .string ⟨#[]⟩, .bool b] from v1)
          clear v1
          go_wp2_with fail
          ((with_reducible refine (HT2.out _).mono ?_))
          rintro e w2 ⟨rfl, b2⟩
          have s0 := (V0.out.far (p := ⟨w.heap.size + 1, 1, none⟩) (by simp) (.string (mk t1)))
          have s1 := (V1.out.set_ 1 (.string (mk t1)))
          have v0 := (s0.below b2 s0.lt).far (p := ⟨w.heap.size + 1, 2, none⟩) (by simp) (.string (mk t2))
          have v1 := s1.below b2 s1.lt
          have v2 := v1.set_ 2 (.string (mk t2))
          have vw := ((Vw.out.setCell (p := ⟨w.heap.size + 1, 1, none⟩) (by simp) (.string (mk t1))).trans (b2.mono (Nat.le_of_lt s0.lt))).setCell (p := ⟨w.heap.size + 1, 2, none⟩) (by simp) (.string (mk t2))
          have U0 := Lib.hid v0
          have U1 : Hid (Blk (w2.setCell ⟨w.heap.size + 1, 2, none⟩ (.string (mk t2))) (w.heap.size + 1) 99 #[.string (p.extract (a + 1) K), .string (mk t1), .string (mk t2), .bool b]) := Lib.hid v2
          have Uw := Lib.hid vw
          have g2' : w2.frozen? ⟨w.heap.size + 1, 2, none⟩ = false := v1.frozen 2
          have k2' : w2.cell? ⟨w.heap.size + 1, 2, none⟩ = some (.string ⟨#[]⟩) := v1.cell 2
          have k0' : w2.cell? ⟨w.heap.size + 1, 0, none⟩ = some (.string (p.extract (a + 1) K)) := v1.cell 0
          have k1' : w2.cell? ⟨w.heap.size + 1, 1, none⟩ = some (.string (mk t1)) := v1.cell 1
          have k3' : w2.cell? ⟨w.heap.size + 1, 3, none⟩ = some (.bool b) := v1.cell 3
          have z0 := s0.below b2 s0.lt
          obtain ⟨c0, c1, c2, c3, f0, f1, f2, f3⟩ := cit_facts z0
          clear s0 s1 b2 v0 v1 v2 vw z0 k0 k1 k2 k3 g0 g1 g2 g3 V0 V1 Vw
          go_wp2_with fail
          ((with_reducible refine (HA.out _).mono ?_))
          rintro e w3 ⟨rfl, rfl⟩
          cases nm
          · have HF : Hid (R = none) := Lib.hid (HR3.out.trans (if_neg (by simp)))
            clear HR3
            go_wp2_with fail
            exact cit_ret Tryz.results87 (blk4 U0.out _ _ _ _) rfl rfl rfl ⟨by rw [HF.out]; rfl, below4 Uw.out (Nat.le_refl _) _ _ _ _⟩
          · have HF : Hid (R = some ⟨p.extract (a + 1) K, mk t1, mk t2, b⟩) := Lib.hid (HR3.out.trans (if_pos rfl))
            clear HR3
            go_wp2_with fail
            exact cit_ret Tryz.results87 (blk4 U0.out _ _ _ _) rfl rfl rfl ⟨by rw [HF.out]; rfl, below4 Uw.out (Nat.le_refl _) _ _ _ _⟩
        · clear HSP HGF
          go_wp2_with fail
          (refine (HN.out _).mono ?_)
          rintro e w1 ⟨rfl, rfl⟩
          go_wp2_with fail
          ((with_reducible refine (HT1.out _).mono ?_))
          rintro e w1 ⟨rfl, b1⟩
          have s0 := (HB0.out.far (p := ⟨w.heap.size + 1, 0, none⟩) (by simp) (.string (p.extract (a + 1) K)))
          have s1 := (HB1.out.set_ 0 (.string (p.extract (a + 1) K)))
          have v0 := s0.below b1 s0.lt
          have v1 := s1.below b1 s1.lt
          have vw := (HBw.out.setCell (p := ⟨w.heap.size + 1, 0, none⟩) (by simp) (.string (p.extract (a + 1) K))).trans (b1.mono (Nat.le_of_lt s0.lt))
          have V0 := Lib.hid v0
          have V1 := Lib.hid v1
          have Vw := Lib.hid vw
          clear s0 s1 b1 v0 vw c0 c1 c2 c3 f0 f1 f2 f3 k0 k1 k2 k3 g0 g1 g2 g3 HB0 HB1 HBw
          obtain ⟨k0, k1, k2, k3, g0, g1, g2, g3⟩ := cit_facts (show Blk w1 (w.heap.size + 1) 99 #[.string (p.extract (a + 1) K), .string ⟨#[]⟩, .string ⟨#[]⟩, .bool b] from v1)
          clear v1
          go_wp2_with fail
          ((with_reducible refine (HT2.out _).mono ?_))
          rintro e w2 ⟨rfl, b2⟩
          have s0 := (V0.out.far (p := ⟨w.heap.size + 1, 1, none⟩) (by simp) (.string (mk t1)))
          have s1 := (V1.out.set_ 1 (.string (mk t1)))
          have v0 := (s0.below b2 s0.lt).far (p := ⟨w.heap.size + 1, 2, none⟩) (by simp) (.string (mk t2))
          have v1 := s1.below b2 s1.lt
          have v2 := v1.set_ 2 (.string (mk t2))
          have vw := ((Vw.out.setCell (p := ⟨w.heap.size + 1, 1, none⟩) (by simp) (.string (mk t1))).trans (b2.mono (Nat.le_of_lt s0.lt))).setCell (p := ⟨w.heap.size + 1, 2, none⟩) (by simp) (.string (mk t2))
          have U0 := Lib.hid v0
          have U1 : Hid (Blk (w2.setCell ⟨w.heap.size + 1, 2, none⟩ (.string (mk t2))) (w.heap.size + 1) 99 #[.string (p.extract (a + 1) K), .string (mk t1), .string (mk t2), .bool b]) := Lib.hid v2
          have Uw := Lib.hid vw
          have g2' : w2.frozen? ⟨w.heap.size + 1, 2, none⟩ = false := v1.frozen 2
          have k2' : w2.cell? ⟨w.heap.size + 1, 2, none⟩ = some (.string ⟨#[]⟩) := v1.cell 2
          have k0' : w2.cell? ⟨w.heap.size + 1, 0, none⟩ = some (.string (p.extract (a + 1) K)) := v1.cell 0
          have k1' : w2.cell? ⟨w.heap.size + 1, 1, none⟩ = some (.string (mk t1)) := v1.cell 1
          have k3' : w2.cell? ⟨w.heap.size + 1, 3, none⟩ = some (.bool b) := v1.cell 3
          have z0 := s0.below b2 s0.lt
          obtain ⟨c0, c1, c2, c3, f0, f1, f2, f3⟩ := cit_facts z0
          clear s0 s1 b2 v0 v1 v2 vw z0 k0 k1 k2 k3 g0 g1 g2 g3 V0 V1 Vw
          go_wp2_with fail
          ((with_reducible refine (HA.out _).mono ?_))
          rintro e w3 ⟨rfl, rfl⟩
          cases nm
          · have HF : Hid (R = none) := Lib.hid (HR3.out.trans (if_neg (by simp)))
            clear HR3
            go_wp2_with fail
            exact cit_ret Tryz.results87 (blk4 U0.out _ _ _ _) rfl rfl rfl ⟨by rw [HF.out]; rfl, below4 Uw.out (Nat.le_refl _) _ _ _ _⟩
          · have HF : Hid (R = some ⟨p.extract (a + 1) K, mk t1, mk t2, b⟩) := Lib.hid (HR3.out.trans (if_pos rfl))
            clear HR3
            go_wp2_with fail
            exact cit_ret Tryz.results87 (blk4 U0.out _ _ _ _) rfl rfl rfl ⟨by rw [HF.out]; rfl, below4 Uw.out (Nat.le_refl _) _ _ _ _⟩
      · have HF : Hid (R = none) := Lib.hid (HR2.out.trans (if_neg hok))
        have hf0 : 0 < f := by omega
        have ef : (f : Int) - 1 = ((f - 1 : Nat) : Int) := by omega
        have hgf := get_bt p (f - 1) (by omega)
        have hf1 : f - 1 < p.size := by omega
        have n1 : ((bt p (f - 1) : Int) != 32) = true := bne_iff_ne.2 (by omega)
        clear hok HR2 HT1 HT2 HA HN
        go_wp2_with fail
        exact cit_ret Tryz.results87 (blk4 HB0.out _ _ _ _) rfl rfl rfl ⟨by rw [HF.out]; rfl, below4 HBw.out (Nat.le_refl _) _ _ _ _⟩
  · rw [if_neg h1] at HI
    have HF : Hid (R = none) := Lib.hid (by rw [HR.out, if_neg fun c => h1 c.1])
    clear HR hb hf
    go_enter Tryz.func87, Tryz.ntmps87
    go_wp2_with fail
    ((with_reducible refine (HI.out _).mono ?_))
    rintro e w1 ⟨rfl, rfl⟩
    go_wp2_with fail
    exact cit_ret Tryz.results87 (Blk.new w _ _) rfl rfl rfl ⟨by rw [HF.out]; rfl, (Below.refl _ w).alloc (Nat.le_refl _) _⟩

end Go.Proofs.YtfnloonmeilhlaaGreatDoor
namespace Go.Pub
open Go.RowKit
variable {F : Fence} {n : Nat} {P : Program}
/-- An iterator's word, where the iterator may step by St: J stands over its steps. -/
def SeqSteps {α : Type} (F : Fence) (n : Nat) (P : Program) (g : Nat) (lb : Array Value) (encs : α → Array Value) (Kp St : World → World → Prop) (S Sp : List α → Prop) (N : Nat) (w : World) : Prop :=
  ∀ (l : Nat) (J Jx : List α → World → Prop) (W : World), Below w.heap.size w W → AbidesFrom W.heap.size J → (∀ pre A B, J pre A → St A B → J pre B) →
    (∀ pre x W1, J pre W1 → pre.length < N → YieldAt F (n - 1) P l (encs x) W1 fun e W' =>
      (e = .returned (.bool true) ∧ J (pre ++ [x]) W' ∧ Kp W1 W') ∨ (e = .returned (.bool false) ∧ Jx (pre ++ [x]) W')) →
    J [] W →
    CallsIn F n P g (#[.func (.yield l) #[] #[]] ++ lb) W fun e W' => (∃ v, e = .returned v) ∧ ((∃ xs, S xs ∧ J xs W') ∨ (∃ pre, Sp pre ∧ Jx pre W'))
theorem range_steps {α : Type} {g : Operand} {ps : Array Tmp} {assign body : Code} {Q : Exit → Act → World → Prop} {a : Act} {w : World}
    (hro : F.round = none) (h1 : 1 ≤ n) {gf : Nat} {lb : Array Value} (hg : a.eval g = .func (.func gf) #[] lb) (hFg : F.fn gf) (eg : ∀ args w, (callFunc gf args).run P w = .ok (.enter gf args) w)
    {encs : α → Array Value} {Kp St : World → World → Prop} {S Sp : List α → Prop} {N : Nat} (hseq : SeqSteps F (n - 1) P gf lb encs Kp St S Sp N w)
    (hKt : ∀ {A B C : World}, Kp A B → Kp B C → Kp A C) (hKb : ∀ (W : World) (l : Nat) (o o' : Obj), w.heap.size ≤ l → W.heap[l]? = some o → o.isCells = false → o.isWalk = false → Kp W (W.putObj l o')) (hps : ∀ x, (encs x).size = ps.size)
    (I : List α → World → Prop) (Ix : Code → List α → World → Prop) (hI : OwnFrom w.heap.size I) (hIx : ∀ c, OwnFrom w.heap.size (Ix c)) (hIs : ∀ pre A B, I pre A → St A B → I pre B) (hSb : ∀ A B, St A B → ∀ k, w.heap.size ≤ k → B.heap[k]? = A.heap[k]?) (h0 : I [] w) (a₁ : α → Act)
    (hassign : ∀ (l : Nat) (x : α) (W : World) (K : Act → World → Prop), K (a₁ x) W →
      assign.wpIn (F.inRound l) (n - 1 - 1) P (Exit.then K (fun _ _ _ => False)) { tmps := (ps.zip (encs x)).foldl (fun t (p, v) => t.setIfInBounds p v) a.tmps, defers := [] } W)
    (hbody : ∀ (l : Nat) (pre : List α) (x : α) (W : World), I pre W → pre.length < N → body.wpIn (F.inRound l) (n - 1 - 1) P (ownPostG w.heap.size Kp I Ix (pre ++ [x]) W) (a₁ x) W)
    (hdone : ∀ (D : Nat) (xs : List α) (W : World), w.heap.size ≤ D → S xs → I xs W → W.heap[D]? = some (.deferred (some [])) → Q .normal { a with defers := { target := .collected D, args := #[] } :: a.defers } W)
    (hstop : ∀ (D : Nat) (c : Code) (pre : List α) (W : World), w.heap.size ≤ D → Sp pre → Ix c pre W → W.heap[D]? = some (.deferred (some [])) → c.wpIn F n P Q { a with defers := { target := .collected D, args := #[] } :: a.defers } W) :
    (Code.rangeFunc g ps assign body).wpIn F n P Q a w := by
  refine wpIn_rangeFunc ?_
  intro fn hfn
  rw [hro]
  obtain ⟨rec, hrec⟩ : ∃ rec : LoopState → Option Code → Loop, rec = fun st pe => { state := st, pending := pe, fn, tmps := a.tmps, params := ps, assign, body, defers := w.heap.size } := ⟨_, rfl⟩
  obtain ⟨W1, hW1⟩ : ∃ W1, (w.alloc (.deferred (some []))).alloc (.loop (rec .ready none)) = W1 := ⟨_, rfl⟩
  have z1 : W1.heap.size = w.heap.size + 2 := by rw [← hW1]; simp
  have hL1 : W1.heap[w.heap.size + 1]? = some (.loop (rec .ready none)) := by
    have := World.alloc_heap_new (w.alloc (.deferred (some []))) (.loop (rec .ready none))
    rw [World.size_alloc, hW1] at this; exact this
  have hK1 : W1.heap[w.heap.size]? = some (.deferred (some [])) := by
    rw [← hW1]; exact (Below.heap_alloc _ _ _ (by simp)).trans (World.alloc_heap_new w _)
  have hI1 : I [] W1 := by rw [← hW1]; exact hI.alloc _ (hI.alloc _ h0)
  have hb1 : Below w.heap.size w W1 := by rw [← hW1]; exact ((Below.refl _ w).alloc (Nat.le_refl _) _).alloc (by simp) _
  refine ⟨w.heap.size + 1, [{ target := .collected w.heap.size, args := #[] }], W1, { target := .fn (.func gf) lb, args := #[.func (.yield (w.heap.size + 1)) #[] #[]] }, W1, gf,
    #[.func (.yield (w.heap.size + 1)) #[] #[]] ++ lb, W1, ?_, ?_, ?_, ?_, fun _ => h1, ?_⟩
  · rw [← hW1, hrec]; exact run_enterLoop_outer _ _ _ _ _
  · simp only [resolve, hg]
    simp [go_sem]
  · intro f' hf'; simp [Target.leads] at hf'; subst hf'; exact hFg
  · simp [invoke, go_sem, eg]
  refine (hseq (w.heap.size + 1)
    (fun pre W => I pre W ∧ W.heap[w.heap.size + 1]? = some (.loop (rec .ready none)) ∧ W.heap[w.heap.size]? = some (.deferred (some [])))
    (fun pre W => ∃ c, Ix c pre W ∧ W.heap[w.heap.size + 1]? = some (.loop (rec .done (some c))) ∧ W.heap[w.heap.size]? = some (.deferred (some [])))
    W1 hb1 ?_ ?_ ?_ ⟨hI1, hL1, hK1⟩).mono ?_
  · intro s A B row hs hgr hr
    refine ⟨hI s A B row hs.1 hgr (fun r e => ?_), (grownBy_keeps hgr (fun r e => (hr r e).2) hs.2.1 rfl).trans hs.2.1, (grownBy_keeps hgr (fun r e => (hr r e).2) hs.2.2 rfl).trans hs.2.2⟩
    obtain ⟨hB, o, ho, hw⟩ := hr r e
    exact ⟨by omega, o, ho, Obj.not_cells_of_walk hw⟩
  · intro pre A B hs hst
    exact ⟨hIs pre A B hs.1 hst, (hSb A B hst _ (by omega)).trans hs.2.1, (hSb A B hst _ (Nat.le_refl _)).trans hs.2.2⟩
  · rintro pre x W ⟨hi, hl, hk⟩ hlen
    have hlt : w.heap.size + 1 < W.heap.size := (Array.getElem?_eq_some_iff.1 hl).1
    have hy := run_yield (P := P) (args := encs x) hl (by rw [hrec]; exact hps x)
    rw [hrec] at hy
    refine ⟨fn, _, assign, body, hy, roundIn_of_wpIn hfn (hassign _ x W _ ⟨_, run_beginRound hl (by rw [hrec]), ?_⟩)⟩
    obtain ⟨W2, hW2⟩ : ∃ W2, W2 = W.putObj (w.heap.size + 1) (.loop { rec .ready none with state := .busy }) := ⟨_, rfl⟩
    have hl2 : W2.heap[w.heap.size + 1]? = some (.loop { rec .ready none with state := .busy }) := by rw [hW2]; exact World.putObj_heap_same hlt
    have hk2 : W2.heap[w.heap.size]? = some (.deferred (some [])) := by rw [hW2]; exact (World.putObj_heap_other (by omega)).trans hk
    have hw2 : Kp W W2 := by rw [hW2]; exact hKb _ _ _ _ (by omega) hl rfl rfl
    have hi2 : I pre W2 := by rw [hW2]; exact hI.putObj _ hi (by omega) hl rfl
    refine wpIn_mono (hW2 ▸ hbody _ pre x _ hi2 hlen) ?_
    have fin : ∀ (jump : Option Code) (W3 : World), KeepsFrom w.heap.size W2 W3 →
        (Instr.endRound (w.heap.size + 1) jump).run P W3 = .ok (.bool jump.isNone) (W3.putObj (w.heap.size + 1) (.loop (rec (if jump.isNone then .ready else .done) jump))) ∧
        W3.heap[w.heap.size + 1]? = some (.loop { rec .ready none with state := .busy }) ∧
        (W3.putObj (w.heap.size + 1) (.loop (rec (if jump.isNone then .ready else .done) jump))).heap[w.heap.size + 1]? = some (.loop (rec (if jump.isNone then .ready else .done) jump)) ∧
        (W3.putObj (w.heap.size + 1) (.loop (rec (if jump.isNone then .ready else .done) jump))).heap[w.heap.size]? = some (.deferred (some [])) := fun jump W3 hk3 => by
      have hl3 := hk3.same _ _ (by omega) hl2 rfl
      have := run_endRound (P := P) jump hl3
      rw [hrec] at this ⊢
      exact ⟨this, by rw [hrec] at hl3; exact hl3, World.putObj_heap_same (Array.getElem?_eq_some_iff.1 hl3).1, (World.putObj_heap_other (by omega)).trans (hk3.same _ _ (Nat.le_refl _) hk2 rfl)⟩
    have out : ∀ (c : Code) (W3 : World), KeepsFrom w.heap.size W2 W3 → Ix c (pre ++ [x]) W3 → ∃ v W4, (Instr.endRound (w.heap.size + 1) (some c)).run P W3 = .ok v W4 ∧ v = .bool false ∧ ∃ c', Ix c' (pre ++ [x]) W4 ∧ W4.heap[w.heap.size + 1]? = some (.loop (rec .done (some c'))) ∧ W4.heap[w.heap.size]? = some (.deferred (some [])) := fun c W3 hk3 hi3 => by
      obtain ⟨hr, hl3, hl4, hk4⟩ := fin (some c) W3 hk3
      exact ⟨_, _, hr, rfl, c, (hIx _).putObj _ hi3 (by omega) hl3 rfl, hl4, hk4⟩
    rintro e a3 W3 hp0
    have hp : ownPostG w.heap.size Kp I Ix (pre ++ [x]) W2 e a3 W3 := by rw [hW2]; exact hp0
    clear hp0
    cases e with
    | normal =>
      obtain ⟨hk3, hkp3, hi3⟩ := hp
      obtain ⟨hr, hl3, hl4, hk4⟩ := fin none W3 hk3
      exact ⟨_, _, hr, .inl ⟨rfl, ⟨hI.putObj _ hi3 (by omega) hl3 rfl, hl4, hk4⟩, hKt (hKt hw2 hkp3) (hKb _ _ _ _ (by omega) hl3 rfl rfl)⟩⟩
    | ret =>
      obtain ⟨v, W4, q1, rfl, q2⟩ := out .ret W3 hp.1 hp.2
      exact ⟨_, _, q1, .inr ⟨rfl, q2⟩⟩
    | exit id =>
      obtain ⟨v, W4, q1, rfl, q2⟩ := out (.exit id) W3 hp.1 hp.2
      exact ⟨_, _, q1, .inr ⟨rfl, q2⟩⟩
    | goto t =>
      obtain ⟨v, W4, q1, rfl, q2⟩ := out (.goto t) W3 hp.1 hp.2
      exact ⟨_, _, q1, .inr ⟨rfl, q2⟩⟩
    | panic ch => exact hp.elim
    | outgrown => exact hp.elim
  · rintro e W2 ⟨⟨v, rfl⟩, (⟨xs, hS, hi, hl, hk⟩ | ⟨pre, hSp, c, hi, hl, hk⟩)⟩
    · exact ⟨none, _, by have := run_endLoop (P := P) hl (by rw [hrec]; simp); rw [hrec] at this; exact this, hdone _ xs _ (Nat.le_refl _) hS (hI.putObj _ hi (by omega) hl rfl) ((World.putObj_heap_other (by omega)).trans hk)⟩
    · exact ⟨some c, _, by have := run_endLoop (P := P) hl (by rw [hrec]; simp); rw [hrec] at this; exact this, hstop _ c pre _ (Nat.le_refl _) hSp ((hIx c).putObj _ hi (by omega) hl rfl) ((World.putObj_heap_other (by omega)).trans hk)⟩
end Go.Pub
namespace Go.Proofs.YtfnloonmeilhlaaGreatDoor
open Go.RowKit Go.Pub
set_option maxRecDepth 100000 in
set_option maxHeartbeats 1000000 in
theorem split_seq (s : ByteArray) (w : World) : Calls Tryz.prog 86 #[.string s, .string ⟨#[59]⟩] w fun e w' =>
    e = .returned (.func (.func 112) #[] #[.pointer (some ⟨w.heap.size + 1, 0, none⟩), .pointer (some ⟨w.heap.size, 0, none⟩), .pointer (some ⟨w.heap.size + 2, 0, none⟩)]) ∧
    w' = ((w.alloc (.cells #[.string s] 9)).alloc (.cells #[.string ⟨#[59]⟩] 9)).alloc (.cells #[.int .i64 0] 3) := by
  have H : Hid (∀ W, Calls Tryz.prog 105 #[.string s, .string ⟨#[59]⟩, .int .i64 0] W fun e w' =>
    e = .returned (.func (.func 112) #[] #[.pointer (some ⟨W.heap.size + 1, 0, none⟩), .pointer (some ⟨W.heap.size, 0, none⟩), .pointer (some ⟨W.heap.size + 2, 0, none⟩)]) ∧
    w' = ((W.alloc (.cells #[.string s] 9)).alloc (.cells #[.string ⟨#[59]⟩] 9)).alloc (.cells #[.int .i64 0] 3)) := Lib.hid fun W => by
    go_enter Tryz.func105, Tryz.ntmps105
    go_wp2_with fail
    go_ret
    exact ⟨rfl, rfl⟩
  go_enter Tryz.func86, Tryz.ntmps86
  go_wp2_with fail
  ((with_reducible refine (H.out _).mono ?_))
  rintro e w1 ⟨rfl, rfl⟩
  go_wp2_with fail
  go_ret
  exact ⟨rfl, rfl⟩

end Go.Proofs.YtfnloonmeilhlaaGreatDoor
namespace Go.Pub
theorem semi_idx : ∀ l : List UInt8, (Lib.indexByte l 59 = -1 ∧ semiL l = [l]) ∨ ∃ k : Nat, Lib.indexByte l 59 = k ∧ k < l.length ∧ semiL l = l.take k :: semiL (l.drop (k + 1))
  | [] => .inl ⟨rfl, rfl⟩
  | b :: l => by
    by_cases hb : b = 59
    · subst hb
      exact .inr ⟨0, rfl, by simp, by conv => lhs; unfold semiL
                                      rw [if_pos rfl]; rfl⟩
    · have hq : (b == 59) = false := beq_eq_false_iff_ne.2 hb
      rcases semi_idx l with ⟨h1, h2⟩ | ⟨k, h1, h2, h3⟩
      · refine .inl ⟨?_, ?_⟩
        · unfold Lib.indexByte; rw [hq, h1]; rfl
        · unfold semiL; rw [if_neg hb, h2]
      · refine .inr ⟨k + 1, ?_, by simp; omega, ?_⟩
        · unfold Lib.indexByte; rw [hq, h1, if_neg (by simp), if_neg (by simp)]; omega
        · conv => lhs; unfold semiL
          rw [if_neg hb, h3]; rfl
end Go.Pub
namespace Go.Proofs.YtfnloonmeilhlaaGreatDoor
open Go.RowKit Go.Pub
/-- What the iterator's three boxes hold: the separator, what is left, nought. -/
structure SqB (b0 b1 b2 : Nat) (rest : ByteArray) (W : World) : Prop where
  s : W.heap[b0]? = some (.cells #[.string rest] 9 (0, 0))
  sep : W.heap[b1]? = some (.cells #[.string ⟨#[59]⟩] 9 (0, 0))
  sav : W.heap[b2]? = some (.cells #[.int .i64 0] 3 (0, 0))
/-- A step of the iterator. -/
def StB (b0 : Nat) (A B : World) : Prop := ∃ v, B = A.setCell ⟨b0, 0, none⟩ (.string v)
/-- A round keeps the boxes. -/
def KpS (b0 b1 b2 : Nat) (W W' : World) : Prop := W'.heap[b0]? = W.heap[b0]? ∧ W'.heap[b1]? = W.heap[b1]? ∧ W'.heap[b2]? = W.heap[b2]?
def boxLen (b : Nat) (W : World) : Nat := match W.heap[b]? with
  | some (.cells cs _ _) => match (cs : Array Value)[0]? with
    | some (Value.string t) => t.size
    | _ => 0
  | _ => 0
abbrev StrP := { s : ByteArray // s.size ≤ 1000000 }
def toStr (l : List UInt8) : StrP := if h : l.length ≤ 1000000 then ⟨mk l, by rw [mk_size]; exact h⟩ else ⟨⟨#[]⟩, by decide⟩
theorem toStr_val (l : List UInt8) (h : l.length ≤ 1000000) : (toStr l).1 = mk l := by unfold toStr; rw [dif_pos h]
set_option maxRecDepth 100000 in
set_option maxHeartbeats 2000000 in
theorem split_stops (n : Nat) (hn : 1 ≤ n) (b0 b1 b2 : Nat) (h01 : b0 ≠ b1) (h02 : b0 ≠ b2) (s : ByteArray) (hs : s.size ≤ 1000000) (w : World) (hB : SqB b0 b1 b2 s w) :
    SeqSteps Fence.wide n Tryz.prog 112 #[.pointer (some ⟨b1, 0, none⟩), .pointer (some ⟨b0, 0, none⟩), .pointer (some ⟨b2, 0, none⟩)] (fun x : StrP => #[Value.string x.1]) (KpS b0 b1 b2) (StB b0) (fun ys => ys = (semiL (bytesL s)).map toStr) (fun pre => pre <+: (semiL (bytesL s)).map toStr) (semiL (bytesL s)).length w := fun l J Jx W hW _ hSt hY h0 => by
  have lt : ∀ {b : Nat} {o : Obj}, w.heap[b]? = some o → b < w.heap.size := fun {b o} h => by
    rcases Nat.lt_or_ge b w.heap.size with h1 | h1
    · exact h1
    · rw [Array.getElem?_eq_none h1] at h; cases h
  have hBW : SqB b0 b1 b2 s W := ⟨(hW.block b0 (lt hB.s)).trans hB.s, (hW.block b1 (lt hB.sep)).trans hB.sep, (hW.block b2 (lt hB.sav)).trans hB.sav⟩
  generalize hall : semiL (bytesL s) = all at *
  have HALL := Lib.hid hall
  clear hall
  have k1 : W.cell? ⟨b1, 0, none⟩ = some (.string ⟨#[59]⟩) := cell_of_row W b1 0 _ _ _ hBW.sep
  refine callsIn_of_wp Tryz.func112 rfl trivial ?_ rfl
  simp only [Tryz.ntmps112, List.size_toArray, List.length_cons, List.length_nil, Nat.reduceAdd, Nat.reduceSub, Array.replicate_succ, Array.replicate_zero, List.push_toArray, List.append_toArray, List.nil_append, List.cons_append]
  gi_wp2_with fail
  gi_loopw [7, 8] (fun _ _ wr => ∃ (rest : ByteArray) (done : List (List UInt8)), rest.size ≤ 1000000 ∧ SqB b0 b1 b2 rest wr ∧ Hid (done ++ semiL (bytesL rest) = all) ∧ J (done.map toStr) wr)
    (fun _ _ wr => boxLen b0 wr)
  case atStart => exact ⟨s, [], hs, hBW, HALL, h0⟩
  case round =>
    obtain ⟨rest, done, hz, hb, Hall, hJ⟩ := hrel
    have c0 : wr.cell? ⟨b0, 0, none⟩ = some (.string rest) := cell_of_row wr b0 0 _ _ _ hb.s
    have c1 : wr.cell? ⟨b1, 0, none⟩ = some (.string ⟨#[59]⟩) := cell_of_row wr b1 0 _ _ _ hb.sep
    have c2 : wr.cell? ⟨b2, 0, none⟩ = some (.int .i64 0) := cell_of_row wr b2 0 _ _ _ hb.sav
    have HS : Hid (∀ W : World, CallsIn Fence.wide (n - 1) Tryz.prog 107 #[.string rest, .string ⟨#[59]⟩] W fun e w' => e = .returned (.int .i64 (Lib.indexByte (bytesL rest) 59)) ∧ W = w') := Lib.hid fun W => callsIn_wide (n := n - 1).2 ((Tryz.strings_Index_one rest 59 W).mono (by rintro e w' ⟨rfl, rfl⟩; exact ⟨rfl, rfl⟩))
    have hlen : (bytesL rest).length = rest.size := bytesL_length rest
    rcases semi_idx (bytesL rest) with ⟨h1, h2⟩ | ⟨k, h1, h2, h3⟩
    · rw [h1] at HS
      have HN : Hid (done ++ [bytesL rest] = all) := Lib.hid (by rw [← Hall.out, h2])
      have ex : (toStr (bytesL rest)).1 = rest := by rw [toStr_val _ (by omega)]; exact mk_bytesL rest
      obtain ⟨fn, tmps, assign, body, hy, hR⟩ := hY (done.map toStr) (toStr (bytesL rest)) wr hJ (by rw [← HN.out]; simp)
      rw [ex] at hy
      gi_wp2_with fail
      refine ⟨trivial, ?_⟩
      ((with_reducible refine (HS.out _).mono ?_))
      rintro e w0 ⟨rfl, rfl⟩
      gi_wp2_with fail
      refine hR.mono ?_
      rintro e W3 (⟨rfl, hJ3, hk3⟩ | ⟨rfl, hJx3⟩)
      · gi_wp2_with fail
        go_end0
        exact ⟨⟨_, rfl⟩, .inl ⟨_, by rw [← HN.out]; simp, hJ3⟩⟩
      · gi_wp2_with fail
        go_end0
        exact ⟨⟨_, rfl⟩, .inr ⟨_, ⟨[], by rw [← HN.out]; simp⟩, hJx3⟩⟩
    · rw [h1] at HS
      have hkz : k < rest.size := by omega
      have e0 : (bytesL rest).take k = bytesL (rest.extract 0 k) := by rw [bytesL_sub]; unfold sub; rw [List.drop_zero, Nat.sub_zero]
      have e1 : (bytesL rest).drop (k + 1) = bytesL (rest.extract (k + 1) rest.size) := by rw [suffix_bytes]; rfl
      rw [e0, e1] at h3
      have HN : Hid (done ++ [bytesL (rest.extract 0 k)] ++ semiL (bytesL (rest.extract (k + 1) rest.size)) = all) := Lib.hid (by rw [← Hall.out, h3]; simp)
      have ez : (rest.extract 0 k).size = k := by rw [ByteArray.size_extract]; omega
      have ez2 : (rest.extract (k + 1) rest.size).size = rest.size - (k + 1) := by rw [ByteArray.size_extract]; omega
      have ex : (toStr (bytesL (rest.extract 0 k))).1 = rest.extract 0 k := by rw [toStr_val _ (by rw [bytesL_length]; omega)]; exact mk_bytesL _
      obtain ⟨fn, tmps, assign, body, hy, hR⟩ := hY (done.map toStr) (toStr (bytesL (rest.extract 0 k))) wr hJ (by rw [← HN.out]; simp)
      rw [ex] at hy
      clear e0 e1 h1 h2 h3
      gi_wp2_with fail
      refine ⟨trivial, ?_⟩
      ((with_reducible refine (HS.out _).mono ?_))
      rintro e w0 ⟨rfl, rfl⟩
      gi_wp2_with fail
      refine hR.mono ?_
      rintro e W3 (⟨rfl, hJ3, hk3⟩ | ⟨rfl, hJx3⟩)
      · have hb3 : SqB b0 b1 b2 rest W3 := ⟨hk3.1.trans hb.s, hk3.2.1.trans hb.sep, hk3.2.2.trans hb.sav⟩
        have d0 : W3.cell? ⟨b0, 0, none⟩ = some (.string rest) := cell_of_row W3 b0 0 _ _ _ hb3.s
        have d1 : W3.cell? ⟨b1, 0, none⟩ = some (.string ⟨#[59]⟩) := cell_of_row W3 b1 0 _ _ _ hb3.sep
        have g0 : W3.frozen? ⟨b0, 0, none⟩ = false := Blk.frozen (t := 9) (cs := #[.string rest]) hb3.s 0
        have hJ4 := hSt _ _ _ hJ3 ⟨rest.extract (k + 1) rest.size, rfl⟩
        have hb4 : SqB b0 b1 b2 (rest.extract (k + 1) rest.size) (W3.setCell ⟨b0, 0, none⟩ (.string (rest.extract (k + 1) rest.size))) :=
          ⟨Blk.set_ (t := 9) (cs := #[.string rest]) hb3.s 0 _, Blk.far (t := 9) (cs := #[.string ⟨#[59]⟩]) hb3.sep (fun e => h01 e.symm) _, Blk.far (t := 3) (cs := #[.int .i64 0]) hb3.sav (fun e => h02 e.symm) _⟩
        have hm4 : boxLen b0 (W3.setCell ⟨b0, 0, none⟩ (.string (rest.extract (k + 1) rest.size))) < boxLen b0 wr := by
          unfold boxLen
          rw [hb4.s, hb.s]
          show (rest.extract (k + 1) rest.size).size < rest.size
          omega
        have HB4 := Lib.hid hb4
        have HM4 := Lib.hid hm4
        clear hb4 hm4
        gi_wp2_with fail
        go_roundw
        case rel => exact ⟨rest.extract (k + 1) rest.size, done ++ [bytesL (rest.extract 0 k)], by omega, HB4.out, HN, by rw [List.map_append]; exact hJ4⟩
        case measure => exact HM4.out
      · gi_wp2_with fail
        refine bodyPost_ret (results_none rfl _ _ _) rfl ?_
        exact ⟨⟨_, rfl⟩, .inr ⟨_, ⟨(semiL (bytesL (rest.extract (k + 1) rest.size))).map toStr, by rw [← HN.out]; simp⟩, hJx3⟩⟩

end Go.Proofs.YtfnloonmeilhlaaGreatDoor
