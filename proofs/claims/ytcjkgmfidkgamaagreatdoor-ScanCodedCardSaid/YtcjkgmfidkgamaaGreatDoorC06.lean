/-
  Texts of the proof, put together (what this law reaches): ScU, ScY, ScI, ScAA, ScM, ScP, ScAB.
-/
import Derived.Test.YtcjkgmfidkgamaaGreatDoorC05
import Derived.RangeFuncOwn
import Derived.RangeFuncWrites
import Derived.Test.YtcjkgmfidkgamaaGreatDoorC04
import Derived.Test.YtcjkgmfidkgamaaGreatDoorC03
import Derived.Test.YtcjkgmfidkgamaaGreatDoorC02
import Derived.RangeFuncNested
import Derived.RangeFuncBound
import Derived.RangeFuncCalls
import Derived.RangeFuncLeaves
import Derived.OwnWalkIn
import Derived.TacticsInMore
import Derived.Laws.OwnMore
set_option linter.unusedVariables false
set_option linter.unusedSimpArgs false
namespace Go.Pub
theorem citedI_eq (p : ByteArray) (a f : Nat) (b : Bool) (ha : citA p = a) (hb : b = (decide (0 < a) && bt p (a - 1) == 45)) (hf : f = if b = true then a - 1 else a) : citedI p =
    if a < p.size ∧ toE p (a + 1) (fun b => b == 64) ≥ p.size ∧ (f = 0 ∨ bt p (f - 1) = 32) then
      (if nameB (p.extract (a + 1) (wordAt p (a + 1))) = true then some ⟨p.extract (a + 1) (wordAt p (a + 1)), mk (trimL (sub p 0 f)), mk (trimL (sfx p (wordAt p (a + 1)))), b⟩ else none)
    else none := by
  subst hf hb ha
  unfold citedI nmEnd
  dsimp only
  by_cases h : nameB (p.extract (citA p + 1) (wordAt p (citA p + 1))) = true
  · rw [if_pos h, if_pos h]; rfl
  · rw [if_neg h, if_neg h]; rfl
end Go.Pub
namespace Go.Proofs.YtcjkgmfidkgamaaGreatDoor
open Go.RowKit Go.Pub
def zCit : Array Value := #[.string ⟨#[]⟩, .string ⟨#[]⟩, .string ⟨#[]⟩, .bool false]
def citV (r : Option CitL) : Value := match r with
  | none => .agg zCit
  | some c => .agg #[.string c.key, .string c.pre, .string c.suf, .bool c.bare]
def CitPost (r : Option CitL) (w : World) (e : Ending) (w' : World) : Prop := e = .returned (.tuple #[citV r, .bool r.isSome]) ∧ Below w.heap.size w w'
theorem cit_facts {W : World} {g : Nat} {T : TypeId} {x0 x1 x2 x3 : Value} (h : Blk W g T #[x0, x1, x2, x3]) : W.cell? ⟨g, 0, none⟩ = some x0 ∧ W.cell? ⟨g, 1, none⟩ = some x1 ∧ W.cell? ⟨g, 2, none⟩ = some x2 ∧ W.cell? ⟨g, 3, none⟩ = some x3 ∧ W.frozen? ⟨g, 0, none⟩ = false ∧ W.frozen? ⟨g, 1, none⟩ = false ∧ W.frozen? ⟨g, 2, none⟩ = false ∧ W.frozen? ⟨g, 3, none⟩ = false :=
  ⟨h.cell 0, h.cell 1, h.cell 2, h.cell 3, h.frozen 0, h.frozen 1, h.frozen 2, h.frozen 3⟩
theorem blk4 {W : World} {g : Nat} {T : TypeId} {x0 x1 x2 x3 : Value} (h : Blk W g T #[x0, x1, x2, x3]) (y0 y1 y2 y3 : Value) : Blk ((((W.setCell ⟨g, 0, none⟩ y0).setCell ⟨g, 1, none⟩ y1).setCell ⟨g, 2, none⟩ y2).setCell ⟨g, 3, none⟩ y3) g T #[y0, y1, y2, y3] := by
  have h0 := h.set_ 0 y0
  rw [show (#[x0, x1, x2, x3] : Array Value).setIfInBounds 0 y0 = #[y0, x1, x2, x3] from rfl] at h0
  have h1 := h0.set_ 1 y1
  rw [show (#[y0, x1, x2, x3] : Array Value).setIfInBounds 1 y1 = #[y0, y1, x2, x3] from rfl] at h1
  have h2 := h1.set_ 2 y2
  rw [show (#[y0, y1, x2, x3] : Array Value).setIfInBounds 2 y2 = #[y0, y1, y2, x3] from rfl] at h2
  have h3 := h2.set_ 3 y3
  rw [show (#[y0, y1, y2, x3] : Array Value).setIfInBounds 3 y3 = #[y0, y1, y2, y3] from rfl] at h3
  exact h3
theorem below4 {B : Nat} {w W : World} (h : Below B w W) {g : Nat} (hg : B ≤ g) (y0 y1 y2 y3 : Value) : Below B w ((((W.setCell ⟨g, 0, none⟩ y0).setCell ⟨g, 1, none⟩ y1).setCell ⟨g, 2, none⟩ y2).setCell ⟨g, 3, none⟩ y3) :=
  (((h.setCell (p := ⟨g, 0, none⟩) hg y0).setCell (p := ⟨g, 1, none⟩) hg y1).setCell (p := ⟨g, 2, none⟩) hg y2).setCell (p := ⟨g, 3, none⟩) hg y3
theorem cit_ret {F : Func} {a b : Nat} {W : World} {g : Nat} {x0 x1 x2 x3 : Value} {u : Value} {P : Ending → World → Prop} {act : Act} (hF : F.results = #[ResultVar.cell a 47, ResultVar.tmp b]) (hr : Blk W g 47 #[x0, x1, x2, x3]) (h4 : act.tmps.getD a undef = .pointer (some ⟨g, 0, none⟩)) (h5 : act.tmps.getD b undef = u) (hd : act.defers = []) (hP : P (.returned (.tuple #[.agg #[x0, x1, x2, x3], u])) W) : bodyPost Tryz.prog F P Exit.ret act W := by
  obtain ⟨c0, c1, c2, c3, _⟩ := cit_facts hr
  refine bodyPost_ret (v := .tuple #[.agg #[x0, x1, x2, x3], u]) ?_ hd hP
  rw [Array.getD_eq_getD_getElem?] at h4 h5
  simp [results, hF, go_sem, h4, h5, c0, c1, c2, c3]
theorem byte_any (s : ByteArray) (i : Nat) (W : World) (hi : i ≤ s.size) : Calls Tryz.prog 63 #[.string (s.extract i s.size), .int .u8 64] W fun e w' => e = .returned (.int .i64 (if toE s i (fun b => b == 64) < s.size then ((toE s i (fun b => b == 64) - i : Nat) : Int) else -1)) ∧ W = w' := by
  refine (Tryz.strings_IndexByte (s.extract i s.size) 64 W).mono ?_
  rintro e w' ⟨rfl, rfl⟩
  refine ⟨ret_int ?_, rfl⟩
  exact toE_byte s i 64 hi
theorem trim_any (s : ByteArray) (W : World) (hs : s.size ≤ 1000000) : Calls Tryz.prog 65 #[.string s, .string ⟨#[32]⟩] W fun e w' => e = .returned (.string (mk (trimL (bytesL s)))) ∧ Below W.heap.size W w' := by
  refine (Tryz.strings_Trim_one s 32 (by decide) W (by omega)).mono ?_
  rintro e w' ⟨rfl, rfl | h⟩
  · exact ⟨rfl, Below.refl _ _⟩
  · exact ⟨rfl, by rw [h]; exact (Below.refl _ _).drew⟩
set_option maxRecDepth 100000 in
set_option maxHeartbeats 8000000 in
theorem s_cited (p : ByteArray) (w : World) (hs : p.size ≤ 1000000) : Calls Tryz.prog 35 #[.string p] w (CitPost (citedI p) w) := by
  obtain ⟨a, ha⟩ : ∃ a, a = citA p := ⟨_, rfl⟩
  have haE : toE p 0 (fun b => b == 64) = a := ha.symm
  have hale : a ≤ p.size := by rw [← haE]; exact toE_le p 0 _ (by omega)
  have HI := Lib.hid fun W => byte_any p 0 W (by omega)
  rw [haE, show p.extract 0 p.size = p from ByteArray.extract_zero_size] at HI
  obtain ⟨b, hb⟩ : ∃ b, b = (decide (0 < a) && bt p (a - 1) == 45) := ⟨_, rfl⟩
  obtain ⟨f, hf⟩ : ∃ f, f = if b = true then a - 1 else a := ⟨_, rfl⟩
  have HR := Lib.hid (citedI_eq p a f b ha.symm hb hf)
  generalize citedI p = R at *
  clear ha haE
  by_cases h1 : a < p.size
  · rw [if_pos h1, Nat.sub_zero] at HI
    have HJ := Lib.hid fun W => byte_any p (a + 1) W (by omega)
    have hT := toE_ge p (a + 1) fun b => b == 64
    generalize toE p (a + 1) (fun b => b == 64) = T at *
    by_cases h2 : T < p.size
    · have HF : Hid (R = none) := Lib.hid (by rw [HR.out, if_neg fun c => by omega])
      rw [if_pos h2] at HJ
      have hge : (0 : Int) ≤ ((T - (a + 1) : Nat) : Int) := by omega
      generalize ((T - (a + 1) : Nat) : Int) = n2 at *
      clear HR hb hf
      go_enter Tryz.func35, Tryz.ntmps35
      go_wp2_with fail
      ((with_reducible refine (HI.out _).mono ?_))
      rintro e w1 ⟨rfl, rfl⟩
      go_wp2_with fail
      ((with_reducible refine (HJ.out _).mono ?_))
      rintro e w1 ⟨rfl, rfl⟩
      go_wp2_with fail
      exact cit_ret Tryz.results35 (Blk.new w _ _) rfl rfl rfl ⟨by rw [HF.out]; rfl, (Below.refl _ w).alloc (Nat.le_refl _) _⟩
    · rw [if_neg h2] at HJ
      have HA := Lib.hid fun W => name_any (p.extract (a + 1) (wordAt p (a + 1))) W (by rw [ByteArray.size_extract]; omega)
      have HN := Lib.hid fun W => s_nameEnd p (a + 1) W hs
      have HT1 := Lib.hid fun W => trim_any (p.extract 0 f) W (by rw [ByteArray.size_extract]; omega)
      have HT2 := Lib.hid fun W => trim_any (p.extract (wordAt p (a + 1)) p.size) W (by rw [ByteArray.size_extract]; omega)
      rw [bytesL_sub] at HT1
      rw [suffix_bytes] at HT2
      have hk1 := (wordAt_bd p (a + 1)).1
      have hk2 := (wordAt_bd p (a + 1)).2 h1
      have hfa : f ≤ a := by rw [hf]; split <;> omega
      have HR2 : Hid (R = if f = 0 ∨ bt p (f - 1) = 32 then (if nameB (p.extract (a + 1) (wordAt p (a + 1))) = true then some ⟨p.extract (a + 1) (wordAt p (a + 1)), mk (trimL (sub p 0 f)), mk (trimL (sfx p (wordAt p (a + 1)))), b⟩ else none) else none) := Lib.hid (by
        rw [HR.out]
        by_cases h : f = 0 ∨ bt p (f - 1) = 32
        · rw [if_pos h, if_pos ⟨h1, by omega, h⟩]
        · rw [if_neg h, if_neg fun c => h c.2.2])
      have hKz : (p.extract (wordAt p (a + 1)) p.size).size = (p.extract (wordAt p (a + 1)) p.size).size := rfl
      clear HR hKz
      generalize wordAt p (a + 1) = K at *
      generalize trimL (sub p 0 f) = t1 at *
      generalize trimL (sfx p K) = t2 at *
      generalize nameB (p.extract (a + 1) K) = nm at *
      go_enter Tryz.func35, Tryz.ntmps35
      go_wp2_with fail
      ((with_reducible refine (HI.out _).mono ?_))
      rintro e w1 ⟨rfl, rfl⟩
      go_wp2_with fail
      ((with_reducible refine (HJ.out _).mono ?_))
      rintro e w1 ⟨rfl, rfl⟩
      have hB0 : Blk ((w.alloc (.cells #[.string ⟨#[]⟩, .string ⟨#[]⟩, .string ⟨#[]⟩, .bool false] 47)).alloc (.cells #[.string ⟨#[]⟩, .string ⟨#[]⟩, .string ⟨#[]⟩, .bool false] 47)) w.heap.size 47 zCit := (Blk.new w _ _).alloc _
      have hB1 : Blk ((w.alloc (.cells #[.string ⟨#[]⟩, .string ⟨#[]⟩, .string ⟨#[]⟩, .bool false] 47)).alloc (.cells #[.string ⟨#[]⟩, .string ⟨#[]⟩, .string ⟨#[]⟩, .bool false] 47)) (w.heap.size + 1) 47 #[.string ⟨#[]⟩, .string ⟨#[]⟩, .string ⟨#[]⟩, .bool false] := by
        have := Blk.new (w.alloc (.cells #[.string ⟨#[]⟩, .string ⟨#[]⟩, .string ⟨#[]⟩, .bool false] 47)) 47 #[.string ⟨#[]⟩, .string ⟨#[]⟩, .string ⟨#[]⟩, .bool false]
        simpa using this
      have hBw : Below w.heap.size w ((w.alloc (.cells #[.string ⟨#[]⟩, .string ⟨#[]⟩, .string ⟨#[]⟩, .bool false] 47)).alloc (.cells #[.string ⟨#[]⟩, .string ⟨#[]⟩, .string ⟨#[]⟩, .bool false] 47)) := ((Below.refl _ _).alloc (Nat.le_refl _) _).alloc (by simp) _
      go_upto_region 6 with fail
      generalize ((w.alloc (.cells #[.string ⟨#[]⟩, .string ⟨#[]⟩, .string ⟨#[]⟩, .bool false] 47)).alloc (.cells #[.string ⟨#[]⟩, .string ⟨#[]⟩, .string ⟨#[]⟩, .bool false] 47)) = W0 at *
      have HB0 := Lib.hid hB0
      have HB1 := Lib.hid hB1
      have HBw := Lib.hid hBw
      clear hB0 hB1 hBw
      go_cut [30] (fun s30 wx => s30 = .bool b ∧ W0 = wx)
      case first =>
        clear HR2 HT1 HT2 HA HN HI HJ HB0 HB1 HBw
        by_cases h0 : 0 < a
        · have ea : (a : Int) - 1 = ((a - 1 : Nat) : Int) := by omega
          have hga := get_bt p (a - 1) (by omega)
          have ha1 : a - 1 < p.size := by omega
          by_cases h45 : bt p (a - 1) = 45
          · obtain rfl : b = true := by rw [hb, h45, decide_eq_true h0]; rfl
            rw [h45] at hga
            clear hb hf h45
            go_wp2_with fail
            go_meet
            case rel => exact ⟨rfl, rfl⟩
          · obtain rfl : b = false := by rw [hb, beq_eq_false_iff_ne.2 h45, Bool.and_false]
            have n1 : ((bt p (a - 1) : Int) == 45) = false := beq_eq_false_iff_ne.2 (by omega)
            clear hb hf h45
            generalize bt p (a - 1) = ch at *
            go_wp2_with fail
            go_meet
            case rel => exact ⟨rfl, rfl⟩
        · obtain rfl : b = false := by rw [hb, decide_eq_false h0]; rfl
          clear hb hf
          go_wp2_with fail
          go_meet
          case rel => exact ⟨rfl, rfl⟩
      case rest =>
      obtain ⟨rfl, rfl⟩ := hcut
      have hba : b = true → 0 < a := fun h => by
        rcases Nat.eq_zero_or_pos a with x | x
        · rw [h, x] at hb; simp at hb
        · exact x
      go_upto_if 30 with fail
      go_cut [6] (fun s6 wx => s6 = .int .i64 f ∧ Blk wx w.heap.size 47 zCit ∧ Blk wx (w.heap.size + 1) 47 #[.string ⟨#[]⟩, .string ⟨#[]⟩, .string ⟨#[]⟩, .bool b] ∧ Below w.heap.size w wx)
      case first =>
        clear HR2 HT1 HT2 HA HN HI HJ hb
        cases b
        · obtain rfl : f = a := by rw [hf, if_neg (by simp)]
          clear hf
          go_wp2_with fail
          go_meet
          case rel => exact ⟨rfl, HB0.out, HB1.out, HBw.out⟩
        · obtain rfl : f = a - 1 := by rw [hf, if_pos rfl]
          have h0 := hba rfl
          have ea : (a : Int) - 1 = ((a - 1 : Nat) : Int) := by omega
          have g3 : W0.frozen? ⟨w.heap.size + 1, 3, none⟩ = false := HB1.out.frozen 3
          have k3 : W0.cell? ⟨w.heap.size + 1, 3, none⟩ = some (.bool false) := HB1.out.cell 3
          clear hf hba
          go_wp2_with fail
          go_meet
          case rel => exact ⟨rfl, HB0.out.far (by simp) _, HB1.out.set_ 3 _, HBw.out.setCell (by simp) _⟩
      case rest =>
      obtain ⟨rfl, hb0, hb1, hbw⟩ := hcut
      have HB0 := Lib.hid hb0
      have HB1 := Lib.hid hb1
      have HBw := Lib.hid hbw
      obtain ⟨c0, c1, c2, c3, f0, f1, f2, f3⟩ := cit_facts hb0
      obtain ⟨k0, k1, k2, k3, g0, g1, g2, g3⟩ := cit_facts hb1
      have hz := hb1.lt
      clear hb0 hb1 hbw hb hf HI HJ
      by_cases hok : f = 0 ∨ bt p (f - 1) = 32
      · have HR3 := Lib.hid (HR2.out.trans (if_pos hok))
        clear HR2
        have HSP : 0 < f → f - 1 < p.size ∧ bt p (f - 1) = 32 := fun h => ⟨by omega, by rcases hok with h2 | h2 <;> omega⟩
        have HGF : Hid (∀ h : f - 1 < p.size, ((p[f - 1]'h).toNat : Int) = (bt p (f - 1) : Int)) := Lib.hid fun h => by rw [get_bt p (f - 1) h]
        clear hok
        have hya : a + 1 ≤ K := hk1
        by_cases h0 : 0 < f
        · obtain ⟨hf1, h32⟩ := HSP h0
          have hgf := HGF.out hf1
          rw [h32] at hgf
          have ef : (f : Int) - 1 = ((f - 1 : Nat) : Int) := by omega
          clear h32 HSP HGF
          go_wp2_with fail
          (refine (HN.out _).mono ?_)
          rintro e w1 ⟨rfl, rfl⟩
          go_wp2_with fail
          ((with_reducible refine (HT1.out _).mono ?_))
          rintro e w1 ⟨rfl, b1⟩
          have s0 := (HB0.out.far (p := ⟨w.heap.size + 1, 0, none⟩) (by simp) (.string (p.extract (a + 1) K)))
          have s1 := (HB1.out.set_ 0 (.string (p.extract (a + 1) K)))
          have v0 := s0.below b1 s0.lt
          have v1 := s1.below b1 s1.lt
          have vw := (HBw.out.setCell (p := ⟨w.heap.size + 1, 0, none⟩) (by simp) (.string (p.extract (a + 1) K))).trans (b1.mono (Nat.le_of_lt s0.lt))
          have V0 := Lib.hid v0
          have V1 := Lib.hid v1
          have Vw := Lib.hid vw
          clear s0 s1 b1 v0 vw c0 c1 c2 c3 f0 f1 f2 f3 k0 k1 k2 k3 g0 g1 g2 g3 HB0 HB1 HBw
          obtain ⟨k0, k1, k2, k3, g0, g1, g2, g3⟩ := cit_facts (show Blk w1 (w.heap.size + 1) 47 #[.string (p.extract (a + 1) K), .string ⟨#[]⟩, .string ⟨#[]⟩, .bool b] from v1)
          clear v1
          go_wp2_with fail
          ((with_reducible refine (HT2.out _).mono ?_))
          rintro e w2 ⟨rfl, b2⟩
          have s0 := (V0.out.far (p := ⟨w.heap.size + 1, 1, none⟩) (by simp) (.string (mk t1)))
          have s1 := (V1.out.set_ 1 (.string (mk t1)))
          have v0 := (s0.below b2 s0.lt).far (p := ⟨w.heap.size + 1, 2, none⟩) (by simp) (.string (mk t2))
          have v1 := s1.below b2 s1.lt
          have v2 := v1.set_ 2 (.string (mk t2))
          have vw := ((Vw.out.setCell (p := ⟨w.heap.size + 1, 1, none⟩) (by simp) (.string (mk t1))).trans (b2.mono (Nat.le_of_lt s0.lt))).setCell (p := ⟨w.heap.size + 1, 2, none⟩) (by simp) (.string (mk t2))
          have U0 := Lib.hid v0
          have U1 : Hid (Blk (w2.setCell ⟨w.heap.size + 1, 2, none⟩ (.string (mk t2))) (w.heap.size + 1) 47 #[.string (p.extract (a + 1) K), .string (mk t1), .string (mk t2), .bool b]) := Lib.hid v2
          have Uw := Lib.hid vw
          have g2' : w2.frozen? ⟨w.heap.size + 1, 2, none⟩ = false := v1.frozen 2
          have k2' : w2.cell? ⟨w.heap.size + 1, 2, none⟩ = some (.string ⟨#[]⟩) := v1.cell 2
          have k0' : w2.cell? ⟨w.heap.size + 1, 0, none⟩ = some (.string (p.extract (a + 1) K)) := v1.cell 0
          have k1' : w2.cell? ⟨w.heap.size + 1, 1, none⟩ = some (.string (mk t1)) := v1.cell 1
          have k3' : w2.cell? ⟨w.heap.size + 1, 3, none⟩ = some (.bool b) := v1.cell 3
          have z0 := s0.below b2 s0.lt
          obtain ⟨c0, c1, c2, c3, f0, f1, f2, f3⟩ := cit_facts z0
          clear s0 s1 b2 v0 v1 v2 vw z0 k0 k1 k2 k3 g0 g1 g2 g3 V0 V1 Vw
          go_wp2_with fail
          ((with_reducible refine (HA.out _).mono ?_))
          rintro e w3 ⟨rfl, rfl⟩
          cases nm
          · have HF : Hid (R = none) := Lib.hid (HR3.out.trans (if_neg (by simp)))
            clear HR3
            go_wp2_with fail
            exact cit_ret Tryz.results35 (blk4 U0.out _ _ _ _) rfl rfl rfl ⟨by rw [HF.out]; rfl, below4 Uw.out (Nat.le_refl _) _ _ _ _⟩
          · have HF : Hid (R = some ⟨p.extract (a + 1) K, mk t1, mk t2, b⟩) := Lib.hid (HR3.out.trans (if_pos rfl))
            clear HR3
            go_wp2_with fail
            exact cit_ret Tryz.results35 (blk4 U0.out _ _ _ _) rfl rfl rfl ⟨by rw [HF.out]; rfl, below4 Uw.out (Nat.le_refl _) _ _ _ _⟩
        · clear HSP HGF
          go_wp2_with fail
          (refine (HN.out _).mono ?_)
          rintro e w1 ⟨rfl, rfl⟩
          go_wp2_with fail
          ((with_reducible refine (HT1.out _).mono ?_))
          rintro e w1 ⟨rfl, b1⟩
          have s0 := (HB0.out.far (p := ⟨w.heap.size + 1, 0, none⟩) (by simp) (.string (p.extract (a + 1) K)))
          have s1 := (HB1.out.set_ 0 (.string (p.extract (a + 1) K)))
          have v0 := s0.below b1 s0.lt
          have v1 := s1.below b1 s1.lt
          have vw := (HBw.out.setCell (p := ⟨w.heap.size + 1, 0, none⟩) (by simp) (.string (p.extract (a + 1) K))).trans (b1.mono (Nat.le_of_lt s0.lt))
          have V0 := Lib.hid v0
          have V1 := Lib.hid v1
          have Vw := Lib.hid vw
          clear s0 s1 b1 v0 vw c0 c1 c2 c3 f0 f1 f2 f3 k0 k1 k2 k3 g0 g1 g2 g3 HB0 HB1 HBw
          obtain ⟨k0, k1, k2, k3, g0, g1, g2, g3⟩ := cit_facts (show Blk w1 (w.heap.size + 1) 47 #[.string (p.extract (a + 1) K), .string ⟨#[]⟩, .string ⟨#[]⟩, .bool b] from v1)
          clear v1
          go_wp2_with fail
          ((with_reducible refine (HT2.out _).mono ?_))
          rintro e w2 ⟨rfl, b2⟩
          have s0 := (V0.out.far (p := ⟨w.heap.size + 1, 1, none⟩) (by simp) (.string (mk t1)))
          have s1 := (V1.out.set_ 1 (.string (mk t1)))
          have v0 := (s0.below b2 s0.lt).far (p := ⟨w.heap.size + 1, 2, none⟩) (by simp) (.string (mk t2))
          have v1 := s1.below b2 s1.lt
          have v2 := v1.set_ 2 (.string (mk t2))
          have vw := ((Vw.out.setCell (p := ⟨w.heap.size + 1, 1, none⟩) (by simp) (.string (mk t1))).trans (b2.mono (Nat.le_of_lt s0.lt))).setCell (p := ⟨w.heap.size + 1, 2, none⟩) (by simp) (.string (mk t2))
          have U0 := Lib.hid v0
          have U1 : Hid (Blk (w2.setCell ⟨w.heap.size + 1, 2, none⟩ (.string (mk t2))) (w.heap.size + 1) 47 #[.string (p.extract (a + 1) K), .string (mk t1), .string (mk t2), .bool b]) := Lib.hid v2
          have Uw := Lib.hid vw
          have g2' : w2.frozen? ⟨w.heap.size + 1, 2, none⟩ = false := v1.frozen 2
          have k2' : w2.cell? ⟨w.heap.size + 1, 2, none⟩ = some (.string ⟨#[]⟩) := v1.cell 2
          have k0' : w2.cell? ⟨w.heap.size + 1, 0, none⟩ = some (.string (p.extract (a + 1) K)) := v1.cell 0
          have k1' : w2.cell? ⟨w.heap.size + 1, 1, none⟩ = some (.string (mk t1)) := v1.cell 1
          have k3' : w2.cell? ⟨w.heap.size + 1, 3, none⟩ = some (.bool b) := v1.cell 3
          have z0 := s0.below b2 s0.lt
          obtain ⟨c0, c1, c2, c3, f0, f1, f2, f3⟩ := cit_facts z0
          clear s0 s1 b2 v0 v1 v2 vw z0 k0 k1 k2 k3 g0 g1 g2 g3 V0 V1 Vw
          go_wp2_with fail
          ((with_reducible refine (HA.out _).mono ?_))
          rintro e w3 ⟨rfl, rfl⟩
          cases nm
          · have HF : Hid (R = none) := Lib.hid (HR3.out.trans (if_neg (by simp)))
            clear HR3
            go_wp2_with fail
            exact cit_ret Tryz.results35 (blk4 U0.out _ _ _ _) rfl rfl rfl ⟨by rw [HF.out]; rfl, below4 Uw.out (Nat.le_refl _) _ _ _ _⟩
          · have HF : Hid (R = some ⟨p.extract (a + 1) K, mk t1, mk t2, b⟩) := Lib.hid (HR3.out.trans (if_pos rfl))
            clear HR3
            go_wp2_with fail
            exact cit_ret Tryz.results35 (blk4 U0.out _ _ _ _) rfl rfl rfl ⟨by rw [HF.out]; rfl, below4 Uw.out (Nat.le_refl _) _ _ _ _⟩
      · have HF : Hid (R = none) := Lib.hid (HR2.out.trans (if_neg hok))
        have hf0 : 0 < f := by omega
        have ef : (f : Int) - 1 = ((f - 1 : Nat) : Int) := by omega
        have hgf := get_bt p (f - 1) (by omega)
        have hf1 : f - 1 < p.size := by omega
        have n1 : ((bt p (f - 1) : Int) != 32) = true := bne_iff_ne.2 (by omega)
        clear hok HR2 HT1 HT2 HA HN
        go_wp2_with fail
        exact cit_ret Tryz.results35 (blk4 HB0.out _ _ _ _) rfl rfl rfl ⟨by rw [HF.out]; rfl, below4 HBw.out (Nat.le_refl _) _ _ _ _⟩
  · rw [if_neg h1] at HI
    have HF : Hid (R = none) := Lib.hid (by rw [HR.out, if_neg fun c => h1 c.1])
    clear HR hb hf
    go_enter Tryz.func35, Tryz.ntmps35
    go_wp2_with fail
    ((with_reducible refine (HI.out _).mono ?_))
    rintro e w1 ⟨rfl, rfl⟩
    go_wp2_with fail
    exact cit_ret Tryz.results35 (Blk.new w _ _) rfl rfl rfl ⟨by rw [HF.out]; rfl, (Below.refl _ w).alloc (Nat.le_refl _) _⟩

end Go.Proofs.YtcjkgmfidkgamaaGreatDoor
namespace Go.Pub
open Go.RowKit
variable {F : Fence} {n : Nat} {P : Program}
/-- An iterator's word, where the iterator may step by St: J stands over its steps. -/
def SeqSteps {α : Type} (F : Fence) (n : Nat) (P : Program) (g : Nat) (lb : Array Value) (encs : α → Array Value) (Kp St : World → World → Prop) (S Sp : List α → Prop) (N : Nat) (w : World) : Prop :=
  ∀ (l : Nat) (J Jx : List α → World → Prop) (W : World), Below w.heap.size w W → AbidesFrom W.heap.size J → (∀ pre A B, J pre A → St A B → J pre B) →
    (∀ pre x W1, J pre W1 → pre.length < N → YieldAt F (n - 1) P l (encs x) W1 fun e W' =>
      (e = .returned (.bool true) ∧ J (pre ++ [x]) W' ∧ Kp W1 W') ∨ (e = .returned (.bool false) ∧ Jx (pre ++ [x]) W')) →
    J [] W →
    CallsIn F n P g (#[.func (.yield l) #[] #[]] ++ lb) W fun e W' => (∃ v, e = .returned v) ∧ ((∃ xs, S xs ∧ J xs W') ∨ (∃ pre, Sp pre ∧ Jx pre W'))
theorem range_steps {α : Type} {g : Operand} {ps : Array Tmp} {assign body : Code} {Q : Exit → Act → World → Prop} {a : Act} {w : World}
    (hro : F.round = none) (h1 : 1 ≤ n) {gf : Nat} {lb : Array Value} (hg : a.eval g = .func (.func gf) #[] lb) (hFg : F.fn gf) (eg : ∀ args w, (callFunc gf args).run P w = .ok (.enter gf args) w)
    {encs : α → Array Value} {Kp St : World → World → Prop} {S Sp : List α → Prop} {N : Nat} (hseq : SeqSteps F (n - 1) P gf lb encs Kp St S Sp N w)
    (hKt : ∀ {A B C : World}, Kp A B → Kp B C → Kp A C) (hKb : ∀ (W : World) (l : Nat) (o o' : Obj), w.heap.size ≤ l → W.heap[l]? = some o → o.isCells = false → o.isWalk = false → Kp W (W.putObj l o')) (hps : ∀ x, (encs x).size = ps.size)
    (I : List α → World → Prop) (Ix : Code → List α → World → Prop) (hI : OwnFrom w.heap.size I) (hIx : ∀ c, OwnFrom w.heap.size (Ix c)) (hIs : ∀ pre A B, I pre A → St A B → I pre B) (hSb : ∀ A B, St A B → ∀ k, w.heap.size ≤ k → B.heap[k]? = A.heap[k]?) (h0 : I [] w) (a₁ : α → Act)
    (hassign : ∀ (l : Nat) (x : α) (W : World) (K : Act → World → Prop), K (a₁ x) W →
      assign.wpIn (F.inRound l) (n - 1 - 1) P (Exit.then K (fun _ _ _ => False)) { tmps := (ps.zip (encs x)).foldl (fun t (p, v) => t.setIfInBounds p v) a.tmps, defers := [] } W)
    (hbody : ∀ (l : Nat) (pre : List α) (x : α) (W : World), I pre W → pre.length < N → body.wpIn (F.inRound l) (n - 1 - 1) P (ownPostG w.heap.size Kp I Ix (pre ++ [x]) W) (a₁ x) W)
    (hdone : ∀ (D : Nat) (xs : List α) (W : World), w.heap.size ≤ D → S xs → I xs W → W.heap[D]? = some (.deferred (some [])) → Q .normal { a with defers := { target := .collected D, args := #[] } :: a.defers } W)
    (hstop : ∀ (D : Nat) (c : Code) (pre : List α) (W : World), w.heap.size ≤ D → Sp pre → Ix c pre W → W.heap[D]? = some (.deferred (some [])) → c.wpIn F n P Q { a with defers := { target := .collected D, args := #[] } :: a.defers } W) :
    (Code.rangeFunc g ps assign body).wpIn F n P Q a w := by
  refine wpIn_rangeFunc ?_
  intro fn hfn
  rw [hro]
  obtain ⟨rec, hrec⟩ : ∃ rec : LoopState → Option Code → Loop, rec = fun st pe => { state := st, pending := pe, fn, tmps := a.tmps, params := ps, assign, body, defers := w.heap.size } := ⟨_, rfl⟩
  obtain ⟨W1, hW1⟩ : ∃ W1, (w.alloc (.deferred (some []))).alloc (.loop (rec .ready none)) = W1 := ⟨_, rfl⟩
  have z1 : W1.heap.size = w.heap.size + 2 := by rw [← hW1]; simp
  have hL1 : W1.heap[w.heap.size + 1]? = some (.loop (rec .ready none)) := by
    have := World.alloc_heap_new (w.alloc (.deferred (some []))) (.loop (rec .ready none))
    rw [World.size_alloc, hW1] at this; exact this
  have hK1 : W1.heap[w.heap.size]? = some (.deferred (some [])) := by
    rw [← hW1]; exact (Below.heap_alloc _ _ _ (by simp)).trans (World.alloc_heap_new w _)
  have hI1 : I [] W1 := by rw [← hW1]; exact hI.alloc _ (hI.alloc _ h0)
  have hb1 : Below w.heap.size w W1 := by rw [← hW1]; exact ((Below.refl _ w).alloc (Nat.le_refl _) _).alloc (by simp) _
  refine ⟨w.heap.size + 1, [{ target := .collected w.heap.size, args := #[] }], W1, { target := .fn (.func gf) lb, args := #[.func (.yield (w.heap.size + 1)) #[] #[]] }, W1, gf,
    #[.func (.yield (w.heap.size + 1)) #[] #[]] ++ lb, W1, ?_, ?_, ?_, ?_, fun _ => h1, ?_⟩
  · rw [← hW1, hrec]; exact run_enterLoop_outer _ _ _ _ _
  · simp only [resolve, hg]
    simp [go_sem]
  · intro f' hf'; simp [Target.leads] at hf'; subst hf'; exact hFg
  · simp [invoke, go_sem, eg]
  refine (hseq (w.heap.size + 1)
    (fun pre W => I pre W ∧ W.heap[w.heap.size + 1]? = some (.loop (rec .ready none)) ∧ W.heap[w.heap.size]? = some (.deferred (some [])))
    (fun pre W => ∃ c, Ix c pre W ∧ W.heap[w.heap.size + 1]? = some (.loop (rec .done (some c))) ∧ W.heap[w.heap.size]? = some (.deferred (some [])))
    W1 hb1 ?_ ?_ ?_ ⟨hI1, hL1, hK1⟩).mono ?_
  · intro s A B row hs hgr hr
    refine ⟨hI s A B row hs.1 hgr (fun r e => ?_), (grownBy_keeps hgr (fun r e => (hr r e).2) hs.2.1 rfl).trans hs.2.1, (grownBy_keeps hgr (fun r e => (hr r e).2) hs.2.2 rfl).trans hs.2.2⟩
    obtain ⟨hB, o, ho, hw⟩ := hr r e
    exact ⟨by omega, o, ho, Obj.not_cells_of_walk hw⟩
  · intro pre A B hs hst
    exact ⟨hIs pre A B hs.1 hst, (hSb A B hst _ (by omega)).trans hs.2.1, (hSb A B hst _ (Nat.le_refl _)).trans hs.2.2⟩
  · rintro pre x W ⟨hi, hl, hk⟩ hlen
    have hlt : w.heap.size + 1 < W.heap.size := (Array.getElem?_eq_some_iff.1 hl).1
    have hy := run_yield (P := P) (args := encs x) hl (by rw [hrec]; exact hps x)
    rw [hrec] at hy
    refine ⟨fn, _, assign, body, hy, roundIn_of_wpIn hfn (hassign _ x W _ ⟨_, run_beginRound hl (by rw [hrec]), ?_⟩)⟩
    obtain ⟨W2, hW2⟩ : ∃ W2, W2 = W.putObj (w.heap.size + 1) (.loop { rec .ready none with state := .busy }) := ⟨_, rfl⟩
    have hl2 : W2.heap[w.heap.size + 1]? = some (.loop { rec .ready none with state := .busy }) := by rw [hW2]; exact World.putObj_heap_same hlt
    have hk2 : W2.heap[w.heap.size]? = some (.deferred (some [])) := by rw [hW2]; exact (World.putObj_heap_other (by omega)).trans hk
    have hw2 : Kp W W2 := by rw [hW2]; exact hKb _ _ _ _ (by omega) hl rfl rfl
    have hi2 : I pre W2 := by rw [hW2]; exact hI.putObj _ hi (by omega) hl rfl
    refine wpIn_mono (hW2 ▸ hbody _ pre x _ hi2 hlen) ?_
    have fin : ∀ (jump : Option Code) (W3 : World), KeepsFrom w.heap.size W2 W3 →
        (Instr.endRound (w.heap.size + 1) jump).run P W3 = .ok (.bool jump.isNone) (W3.putObj (w.heap.size + 1) (.loop (rec (if jump.isNone then .ready else .done) jump))) ∧
        W3.heap[w.heap.size + 1]? = some (.loop { rec .ready none with state := .busy }) ∧
        (W3.putObj (w.heap.size + 1) (.loop (rec (if jump.isNone then .ready else .done) jump))).heap[w.heap.size + 1]? = some (.loop (rec (if jump.isNone then .ready else .done) jump)) ∧
        (W3.putObj (w.heap.size + 1) (.loop (rec (if jump.isNone then .ready else .done) jump))).heap[w.heap.size]? = some (.deferred (some [])) := fun jump W3 hk3 => by
      have hl3 := hk3.same _ _ (by omega) hl2 rfl
      have := run_endRound (P := P) jump hl3
      rw [hrec] at this ⊢
      exact ⟨this, by rw [hrec] at hl3; exact hl3, World.putObj_heap_same (Array.getElem?_eq_some_iff.1 hl3).1, (World.putObj_heap_other (by omega)).trans (hk3.same _ _ (Nat.le_refl _) hk2 rfl)⟩
    have out : ∀ (c : Code) (W3 : World), KeepsFrom w.heap.size W2 W3 → Ix c (pre ++ [x]) W3 → ∃ v W4, (Instr.endRound (w.heap.size + 1) (some c)).run P W3 = .ok v W4 ∧ v = .bool false ∧ ∃ c', Ix c' (pre ++ [x]) W4 ∧ W4.heap[w.heap.size + 1]? = some (.loop (rec .done (some c'))) ∧ W4.heap[w.heap.size]? = some (.deferred (some [])) := fun c W3 hk3 hi3 => by
      obtain ⟨hr, hl3, hl4, hk4⟩ := fin (some c) W3 hk3
      exact ⟨_, _, hr, rfl, c, (hIx _).putObj _ hi3 (by omega) hl3 rfl, hl4, hk4⟩
    rintro e a3 W3 hp0
    have hp : ownPostG w.heap.size Kp I Ix (pre ++ [x]) W2 e a3 W3 := by rw [hW2]; exact hp0
    clear hp0
    cases e with
    | normal =>
      obtain ⟨hk3, hkp3, hi3⟩ := hp
      obtain ⟨hr, hl3, hl4, hk4⟩ := fin none W3 hk3
      exact ⟨_, _, hr, .inl ⟨rfl, ⟨hI.putObj _ hi3 (by omega) hl3 rfl, hl4, hk4⟩, hKt (hKt hw2 hkp3) (hKb _ _ _ _ (by omega) hl3 rfl rfl)⟩⟩
    | ret =>
      obtain ⟨v, W4, q1, rfl, q2⟩ := out .ret W3 hp.1 hp.2
      exact ⟨_, _, q1, .inr ⟨rfl, q2⟩⟩
    | exit id =>
      obtain ⟨v, W4, q1, rfl, q2⟩ := out (.exit id) W3 hp.1 hp.2
      exact ⟨_, _, q1, .inr ⟨rfl, q2⟩⟩
    | goto t =>
      obtain ⟨v, W4, q1, rfl, q2⟩ := out (.goto t) W3 hp.1 hp.2
      exact ⟨_, _, q1, .inr ⟨rfl, q2⟩⟩
    | panic ch => exact hp.elim
    | outgrown => exact hp.elim
  · rintro e W2 ⟨⟨v, rfl⟩, (⟨xs, hS, hi, hl, hk⟩ | ⟨pre, hSp, c, hi, hl, hk⟩)⟩
    · exact ⟨none, _, by have := run_endLoop (P := P) hl (by rw [hrec]; simp); rw [hrec] at this; exact this, hdone _ xs _ (Nat.le_refl _) hS (hI.putObj _ hi (by omega) hl rfl) ((World.putObj_heap_other (by omega)).trans hk)⟩
    · exact ⟨some c, _, by have := run_endLoop (P := P) hl (by rw [hrec]; simp); rw [hrec] at this; exact this, hstop _ c pre _ (Nat.le_refl _) hSp ((hIx c).putObj _ hi (by omega) hl rfl) ((World.putObj_heap_other (by omega)).trans hk)⟩
end Go.Pub
namespace Go.Proofs.YtcjkgmfidkgamaaGreatDoor
open Go.RowKit Go.Pub
set_option maxRecDepth 100000 in
set_option maxHeartbeats 1000000 in
theorem split_seq (s : ByteArray) (w : World) : Calls Tryz.prog 34 #[.string s, .string ⟨#[59]⟩] w fun e w' =>
    e = .returned (.func (.func 105) #[] #[.pointer (some ⟨w.heap.size + 1, 0, none⟩), .pointer (some ⟨w.heap.size, 0, none⟩), .pointer (some ⟨w.heap.size + 2, 0, none⟩)]) ∧
    w' = ((w.alloc (.cells #[.string s] 9)).alloc (.cells #[.string ⟨#[59]⟩] 9)).alloc (.cells #[.int .i64 0] 3) := by
  have H : Hid (∀ W, Calls Tryz.prog 62 #[.string s, .string ⟨#[59]⟩, .int .i64 0] W fun e w' =>
    e = .returned (.func (.func 105) #[] #[.pointer (some ⟨W.heap.size + 1, 0, none⟩), .pointer (some ⟨W.heap.size, 0, none⟩), .pointer (some ⟨W.heap.size + 2, 0, none⟩)]) ∧
    w' = ((W.alloc (.cells #[.string s] 9)).alloc (.cells #[.string ⟨#[59]⟩] 9)).alloc (.cells #[.int .i64 0] 3)) := Lib.hid fun W => by
    go_enter Tryz.func62, Tryz.ntmps62
    go_wp2_with fail
    go_ret
    exact ⟨rfl, rfl⟩
  go_enter Tryz.func34, Tryz.ntmps34
  go_wp2_with fail
  ((with_reducible refine (H.out _).mono ?_))
  rintro e w1 ⟨rfl, rfl⟩
  go_wp2_with fail
  go_ret
  exact ⟨rfl, rfl⟩

end Go.Proofs.YtcjkgmfidkgamaaGreatDoor
namespace Go.Pub
theorem semi_idx : ∀ l : List UInt8, (Lib.indexByte l 59 = -1 ∧ semiL l = [l]) ∨ ∃ k : Nat, Lib.indexByte l 59 = k ∧ k < l.length ∧ semiL l = l.take k :: semiL (l.drop (k + 1))
  | [] => .inl ⟨rfl, rfl⟩
  | b :: l => by
    by_cases hb : b = 59
    · subst hb
      exact .inr ⟨0, rfl, by simp, by conv => lhs; unfold semiL
                                      rw [if_pos rfl]; rfl⟩
    · have hq : (b == 59) = false := beq_eq_false_iff_ne.2 hb
      rcases semi_idx l with ⟨h1, h2⟩ | ⟨k, h1, h2, h3⟩
      · refine .inl ⟨?_, ?_⟩
        · unfold Lib.indexByte; rw [hq, h1]; rfl
        · unfold semiL; rw [if_neg hb, h2]
      · refine .inr ⟨k + 1, ?_, by simp; omega, ?_⟩
        · unfold Lib.indexByte; rw [hq, h1, if_neg (by simp), if_neg (by simp)]; omega
        · conv => lhs; unfold semiL
          rw [if_neg hb, h3]; rfl
end Go.Pub
namespace Go.Proofs.YtcjkgmfidkgamaaGreatDoor
open Go.RowKit Go.Pub
/-- What the iterator's three boxes hold: the separator, what is left, nought. -/
structure SqB (b0 b1 b2 : Nat) (rest : ByteArray) (W : World) : Prop where
  s : W.heap[b0]? = some (.cells #[.string rest] 9 (0, 0))
  sep : W.heap[b1]? = some (.cells #[.string ⟨#[59]⟩] 9 (0, 0))
  sav : W.heap[b2]? = some (.cells #[.int .i64 0] 3 (0, 0))
/-- A step of the iterator. -/
def StB (b0 : Nat) (A B : World) : Prop := ∃ v, B = A.setCell ⟨b0, 0, none⟩ (.string v)
/-- A round keeps the boxes. -/
def KpS (b0 b1 b2 : Nat) (W W' : World) : Prop := W'.heap[b0]? = W.heap[b0]? ∧ W'.heap[b1]? = W.heap[b1]? ∧ W'.heap[b2]? = W.heap[b2]?
def boxLen (b : Nat) (W : World) : Nat := match W.heap[b]? with
  | some (.cells cs _ _) => match (cs : Array Value)[0]? with
    | some (Value.string t) => t.size
    | _ => 0
  | _ => 0
abbrev StrP := { s : ByteArray // s.size ≤ 1000000 }
def toStr (l : List UInt8) : StrP := if h : l.length ≤ 1000000 then ⟨mk l, by rw [mk_size]; exact h⟩ else ⟨⟨#[]⟩, by decide⟩
theorem toStr_val (l : List UInt8) (h : l.length ≤ 1000000) : (toStr l).1 = mk l := by unfold toStr; rw [dif_pos h]
set_option maxRecDepth 100000 in
set_option maxHeartbeats 2000000 in
theorem split_stops (n : Nat) (hn : 1 ≤ n) (b0 b1 b2 : Nat) (h01 : b0 ≠ b1) (h02 : b0 ≠ b2) (s : ByteArray) (hs : s.size ≤ 1000000) (w : World) (hB : SqB b0 b1 b2 s w) :
    SeqSteps Fence.wide n Tryz.prog 105 #[.pointer (some ⟨b1, 0, none⟩), .pointer (some ⟨b0, 0, none⟩), .pointer (some ⟨b2, 0, none⟩)] (fun x : StrP => #[Value.string x.1]) (KpS b0 b1 b2) (StB b0) (fun ys => ys = (semiL (bytesL s)).map toStr) (fun pre => pre <+: (semiL (bytesL s)).map toStr) (semiL (bytesL s)).length w := fun l J Jx W hW _ hSt hY h0 => by
  have lt : ∀ {b : Nat} {o : Obj}, w.heap[b]? = some o → b < w.heap.size := fun {b o} h => by
    rcases Nat.lt_or_ge b w.heap.size with h1 | h1
    · exact h1
    · rw [Array.getElem?_eq_none h1] at h; cases h
  have hBW : SqB b0 b1 b2 s W := ⟨(hW.block b0 (lt hB.s)).trans hB.s, (hW.block b1 (lt hB.sep)).trans hB.sep, (hW.block b2 (lt hB.sav)).trans hB.sav⟩
  generalize hall : semiL (bytesL s) = all at *
  have HALL := Lib.hid hall
  clear hall
  have k1 : W.cell? ⟨b1, 0, none⟩ = some (.string ⟨#[59]⟩) := cell_of_row W b1 0 _ _ _ hBW.sep
  refine callsIn_of_wp Tryz.func105 rfl trivial ?_ rfl
  simp only [Tryz.ntmps105, List.size_toArray, List.length_cons, List.length_nil, Nat.reduceAdd, Nat.reduceSub, Array.replicate_succ, Array.replicate_zero, List.push_toArray, List.append_toArray, List.nil_append, List.cons_append]
  gi_wp2_with fail
  gi_loopw [7, 8] (fun _ _ wr => ∃ (rest : ByteArray) (done : List (List UInt8)), rest.size ≤ 1000000 ∧ SqB b0 b1 b2 rest wr ∧ Hid (done ++ semiL (bytesL rest) = all) ∧ J (done.map toStr) wr)
    (fun _ _ wr => boxLen b0 wr)
  case atStart => exact ⟨s, [], hs, hBW, HALL, h0⟩
  case round =>
    obtain ⟨rest, done, hz, hb, Hall, hJ⟩ := hrel
    have c0 : wr.cell? ⟨b0, 0, none⟩ = some (.string rest) := cell_of_row wr b0 0 _ _ _ hb.s
    have c1 : wr.cell? ⟨b1, 0, none⟩ = some (.string ⟨#[59]⟩) := cell_of_row wr b1 0 _ _ _ hb.sep
    have c2 : wr.cell? ⟨b2, 0, none⟩ = some (.int .i64 0) := cell_of_row wr b2 0 _ _ _ hb.sav
    have HS : Hid (∀ W : World, CallsIn Fence.wide (n - 1) Tryz.prog 107 #[.string rest, .string ⟨#[59]⟩] W fun e w' => e = .returned (.int .i64 (Lib.indexByte (bytesL rest) 59)) ∧ W = w') := Lib.hid fun W => callsIn_wide (n := n - 1).2 ((Tryz.strings_Index_one rest 59 W).mono (by rintro e w' ⟨rfl, rfl⟩; exact ⟨rfl, rfl⟩))
    have hlen : (bytesL rest).length = rest.size := bytesL_length rest
    rcases semi_idx (bytesL rest) with ⟨h1, h2⟩ | ⟨k, h1, h2, h3⟩
    · rw [h1] at HS
      have HN : Hid (done ++ [bytesL rest] = all) := Lib.hid (by rw [← Hall.out, h2])
      have ex : (toStr (bytesL rest)).1 = rest := by rw [toStr_val _ (by omega)]; exact mk_bytesL rest
      obtain ⟨fn, tmps, assign, body, hy, hR⟩ := hY (done.map toStr) (toStr (bytesL rest)) wr hJ (by rw [← HN.out]; simp)
      rw [ex] at hy
      gi_wp2_with fail
      refine ⟨trivial, ?_⟩
      ((with_reducible refine (HS.out _).mono ?_))
      rintro e w0 ⟨rfl, rfl⟩
      gi_wp2_with fail
      refine hR.mono ?_
      rintro e W3 (⟨rfl, hJ3, hk3⟩ | ⟨rfl, hJx3⟩)
      · gi_wp2_with fail
        go_end0
        exact ⟨⟨_, rfl⟩, .inl ⟨_, by rw [← HN.out]; simp, hJ3⟩⟩
      · gi_wp2_with fail
        go_end0
        exact ⟨⟨_, rfl⟩, .inr ⟨_, ⟨[], by rw [← HN.out]; simp⟩, hJx3⟩⟩
    · rw [h1] at HS
      have hkz : k < rest.size := by omega
      have e0 : (bytesL rest).take k = bytesL (rest.extract 0 k) := by rw [bytesL_sub]; unfold sub; rw [List.drop_zero, Nat.sub_zero]
      have e1 : (bytesL rest).drop (k + 1) = bytesL (rest.extract (k + 1) rest.size) := by rw [suffix_bytes]; rfl
      rw [e0, e1] at h3
      have HN : Hid (done ++ [bytesL (rest.extract 0 k)] ++ semiL (bytesL (rest.extract (k + 1) rest.size)) = all) := Lib.hid (by rw [← Hall.out, h3]; simp)
      have ez : (rest.extract 0 k).size = k := by rw [ByteArray.size_extract]; omega
      have ez2 : (rest.extract (k + 1) rest.size).size = rest.size - (k + 1) := by rw [ByteArray.size_extract]; omega
      have ex : (toStr (bytesL (rest.extract 0 k))).1 = rest.extract 0 k := by rw [toStr_val _ (by rw [bytesL_length]; omega)]; exact mk_bytesL _
      obtain ⟨fn, tmps, assign, body, hy, hR⟩ := hY (done.map toStr) (toStr (bytesL (rest.extract 0 k))) wr hJ (by rw [← HN.out]; simp)
      rw [ex] at hy
      clear e0 e1 h1 h2 h3
      gi_wp2_with fail
      refine ⟨trivial, ?_⟩
      ((with_reducible refine (HS.out _).mono ?_))
      rintro e w0 ⟨rfl, rfl⟩
      gi_wp2_with fail
      refine hR.mono ?_
      rintro e W3 (⟨rfl, hJ3, hk3⟩ | ⟨rfl, hJx3⟩)
      · have hb3 : SqB b0 b1 b2 rest W3 := ⟨hk3.1.trans hb.s, hk3.2.1.trans hb.sep, hk3.2.2.trans hb.sav⟩
        have d0 : W3.cell? ⟨b0, 0, none⟩ = some (.string rest) := cell_of_row W3 b0 0 _ _ _ hb3.s
        have d1 : W3.cell? ⟨b1, 0, none⟩ = some (.string ⟨#[59]⟩) := cell_of_row W3 b1 0 _ _ _ hb3.sep
        have g0 : W3.frozen? ⟨b0, 0, none⟩ = false := Blk.frozen (t := 9) (cs := #[.string rest]) hb3.s 0
        have hJ4 := hSt _ _ _ hJ3 ⟨rest.extract (k + 1) rest.size, rfl⟩
        have hb4 : SqB b0 b1 b2 (rest.extract (k + 1) rest.size) (W3.setCell ⟨b0, 0, none⟩ (.string (rest.extract (k + 1) rest.size))) :=
          ⟨Blk.set_ (t := 9) (cs := #[.string rest]) hb3.s 0 _, Blk.far (t := 9) (cs := #[.string ⟨#[59]⟩]) hb3.sep (fun e => h01 e.symm) _, Blk.far (t := 3) (cs := #[.int .i64 0]) hb3.sav (fun e => h02 e.symm) _⟩
        have hm4 : boxLen b0 (W3.setCell ⟨b0, 0, none⟩ (.string (rest.extract (k + 1) rest.size))) < boxLen b0 wr := by
          unfold boxLen
          rw [hb4.s, hb.s]
          show (rest.extract (k + 1) rest.size).size < rest.size
          omega
        have HB4 := Lib.hid hb4
        have HM4 := Lib.hid hm4
        clear hb4 hm4
        gi_wp2_with fail
        go_roundw
        case rel => exact ⟨rest.extract (k + 1) rest.size, done ++ [bytesL (rest.extract 0 k)], by omega, HB4.out, HN, by rw [List.map_append]; exact hJ4⟩
        case measure => exact HM4.out
      · gi_wp2_with fail
        refine bodyPost_ret (results_none rfl _ _ _) rfl ?_
        exact ⟨⟨_, rfl⟩, .inr ⟨_, ⟨(semiL (bytesL (rest.extract (k + 1) rest.size))).map toStr, by rw [← HN.out]; simp⟩, hJx3⟩⟩

end Go.Proofs.YtcjkgmfidkgamaaGreatDoor
namespace Go.Pub
theorem any_enc (p : UInt8 → Bool) (hp : ∀ b, 128 ≤ b.toNat → p b = false) (c : Nat) (h : Scalar c) : (encL (c : Int)).any p = (decide (c < 128) && p (UInt8.ofNat c)) := by
  rw [encL_scalar c h]
  unfold Scalar at h
  by_cases h1 : c < 128
  · rw [encN_one c h1, decide_eq_true h1, Bool.true_and]
    show ([UInt8.ofNat c].any p) = _
    simp
  · rw [decide_eq_false h1, Bool.false_and]
    by_cases h2 : c < 2048
    · rw [encN_two c h1 h2]
      show ([UInt8.ofNat (192 + c / 64), UInt8.ofNat (128 + c % 64)].any p) = _
      simp only [List.any_cons, List.any_nil, Bool.or_false]
      rw [hp _ (by rw [ofNat_toNat _ (by omega)]; omega), hp _ (by rw [ofNat_toNat _ (by omega)]; omega)]; rfl
    · by_cases h3 : c < 65536
      · rw [encN_three c h1 h2 h3]
        show ([UInt8.ofNat (224 + c / 4096), UInt8.ofNat (128 + c / 64 % 64), UInt8.ofNat (128 + c % 64)].any p) = _
        simp only [List.any_cons, List.any_nil, Bool.or_false]
        rw [hp _ (by rw [ofNat_toNat _ (by omega)]; omega), hp _ (by rw [ofNat_toNat _ (by omega)]; omega), hp _ (by rw [ofNat_toNat _ (by omega)]; omega)]; rfl
      · rw [encN_four c h1 h2 h3]
        show ([UInt8.ofNat (240 + c / 262144), UInt8.ofNat (128 + c / 4096 % 64), UInt8.ofNat (128 + c / 64 % 64), UInt8.ofNat (128 + c % 64)].any p) = _
        simp only [List.any_cons, List.any_nil, Bool.or_false]
        rw [hp _ (by rw [ofNat_toNat _ (by omega)]; omega), hp _ (by rw [ofNat_toNat _ (by omega)]; omega), hp _ (by rw [ofNat_toNat _ (by omega)]; omega), hp _ (by rw [ofNat_toNat _ (by omega)]; omega)]; rfl
theorem any_dec (p : UInt8 → Bool) (hp : ∀ b, 128 ≤ b.toNat → p b = false) (l : List UInt8) (h : l ≠ []) : (l.take (decL l).2).any p = (decide ((decL l).1 < 128) && p (UInt8.ofNat (decL l).1)) := by
  by_cases hg : decL l = (65533, 1)
  · rw [hg]
    cases l with
    | nil => exact absurd rfl h
    | cons x l =>
      by_cases hx : x.toNat < 128
      · rw [dec_ascii_head x l hx] at hg
        injection hg with h1 _
        omega
      · show ([x].any p) = _
        simp only [List.any_cons, List.any_nil, Bool.or_false]
        rw [hp _ (by omega)]; rfl
  · rw [← enc_decL l h hg]
    exact any_enc p hp _ (decL_scalar l h)
theorem dec_high (s : ByteArray) (i : Nat) (h : 128 ≤ bt s i) : 128 ≤ (Utf8.decode s i).1 := by
  rw [decode_decL]
  have h0 : 128 ≤ atL ((bytesL s).drop i) 0 := by rw [← bt_atL]; exact h
  unfold decL
  rcases decodeN_cases ((bytesL s).drop i).length (atL ((bytesL s).drop i) 0) (atL ((bytesL s).drop i) 1) (atL ((bytesL s).drop i) 2) (atL ((bytesL s).drop i) 3) with e | ⟨c, e⟩ | ⟨c, e⟩ | ⟨c, e⟩ | ⟨c, e⟩ <;> rw [e]
  all_goals (simp only [] at *; omega)
/-- The first byte of a set, by counting. -/
theorem index_cnt (cs : List UInt8) : ∀ l : List UInt8, Lib.indexAny l cs = if cntW (fun b => !cs.contains (UInt8.ofNat b)) l < l.length then (cntW (fun b => !cs.contains (UInt8.ofNat b)) l : Int) else -1
  | [] => rfl
  | b :: l => by
    have hb : UInt8.ofNat b.toNat = b := by simp
    have hl := cntW_le (fun b => !cs.contains (UInt8.ofNat b)) l
    unfold Lib.indexAny cntW
    rw [index_cnt cs l, hb]
    cases hc : cs.contains b
    · simp only [Bool.not_false, if_true, Bool.false_eq_true, if_false, List.length_cons]
      by_cases h : cntW (fun b => !cs.contains (UInt8.ofNat b)) l < l.length
      · rw [if_pos h, if_neg (by simp), if_pos (by omega)]; omega
      · rw [if_neg h, if_neg (show ¬ (cntW (fun b => !cs.contains (UInt8.ofNat b)) l + 1 < l.length + 1) by omega)]; rfl
    · simp
theorem index_hit (cs : List UInt8) : ∀ (l : List UInt8) (k : Nat) (x : UInt8), (l.take k).any (cs.contains ·) = false → l[k]? = some x → cs.contains x = true → Lib.indexAny l cs = k
  | [], k, x, _, h, _ => by simp at h
  | b :: l, 0, x, _, h, hc => by simp at h; subst h; unfold Lib.indexAny; rw [if_pos hc]; rfl
  | b :: l, k + 1, x, h1, h, hc => by
    rw [List.take_succ_cons, List.any_cons, Bool.or_eq_false_iff] at h1
    unfold Lib.indexAny
    rw [h1.1, index_hit cs l k x h1.2 (by simpa using h) hc]
    simp only [Bool.false_eq_true, if_false]
    rw [if_neg (by simp)]; omega
theorem index_no (cs : List UInt8) : ∀ l : List UInt8, l.any (cs.contains ·) = false → Lib.indexAny l cs = -1
  | [], _ => rfl
  | b :: l, h => by
    rw [List.any_cons, Bool.or_eq_false_iff] at h
    unfold Lib.indexAny
    rw [h.1, index_no cs l h.2]; rfl
theorem index_any (cs : List UInt8) (l : List UInt8) : decide (0 ≤ Lib.indexAny l cs) = l.any (cs.contains ·) := by
  induction l with
  | nil => rfl
  | cons b l ih =>
    have hg := Lib.indexAny_ge cs l
    unfold Lib.indexAny
    rw [List.any_cons, ← ih]
    cases hc : cs.contains b
    · simp only [Bool.false_eq_true, if_false, Bool.false_or]
      by_cases h : Lib.indexAny l cs = -1
      · rw [h]; rfl
      · rw [if_neg (by simpa using h)]
        congr 1; apply propext; omega
    · simp
theorem byte_no (c : UInt8) : ∀ l : List UInt8, (∀ b ∈ l, b ≠ c) → Lib.indexByte l c = -1
  | [], _ => rfl
  | b :: l, h => by
    unfold Lib.indexByte
    rw [if_neg (by simpa using h b List.mem_cons_self), byte_no c l fun x hx => h x (List.mem_cons_of_mem _ hx)]; rfl
theorem byte_has (c : UInt8) : ∀ l : List UInt8, (0 ≤ Lib.indexByte l c ↔ l.contains c = true)
  | [] => by simp [Lib.indexByte]
  | b :: l => by
    have ih := byte_has c l
    have hg := Lib.indexByte_ge l c
    unfold Lib.indexByte
    by_cases h : b = c
    · subst h; simp
    · rw [if_neg (by simpa using h), List.contains_cons, show (c == b) = false by simpa using Ne.symm h, Bool.false_or, ← ih]
      by_cases h2 : Lib.indexByte l c = -1
      · rw [h2]; simp
      · rw [if_neg (by simpa using h2)]; omega
end Go.Pub
namespace Go.Proofs.YtcjkgmfidkgamaaGreatDoor
open Go.RowKit Go.Pub
/-- A set of ASCII bytes. -/
def Asc (cs : ByteArray) : Prop := ∀ b ∈ bytesL cs, b.toNat < 128
theorem Asc.bt {cs : ByteArray} (h : Asc cs) {k : Nat} (hk : k < cs.size) : bt cs k < 128 := by
  have := h (cs.get! k) (by
    unfold bytesL
    rw [show cs.get! k = cs.data[k]'hk from getElem!_pos cs.data k hk]
    exact Array.mem_toList_iff.2 (Array.getElem_mem _))
  exact this
set_option maxRecDepth 1000000 in
set_option maxHeartbeats 4000000 in
theorem runeX_err (cs : ByteArray) (hcs : Asc cs) (w : World) : Calls Tryz.prog 101 #[.string cs, .int .i32 65533] w fun e w' => e = .returned (.int .i64 (-1)) ∧ Below w.heap.size w w' := by
  have HA := Lib.hid hcs
  clear hcs
  go_enter Tryz.func101, Tryz.ntmps101
  go_wp2_with fail
  go_loopw [] (fun wr => ∃ pos, wr.heap[w.heap.size]? = some (.stringIter cs pos) ∧ Below w.heap.size w wr ∧ pos ≤ cs.size) (fun wr => cs.size - wr.iterPos w.heap.size)
  case atStart => exact ⟨0, World.iter_heap w cs 0, (Below.refl _ w).alloc (Nat.le_refl _) _, Nat.zero_le _⟩
  case round =>
    obtain ⟨pos, hit, hbw, hps⟩ := hrel
    by_cases hp : pos < cs.size
    · have hd := dec_one cs pos (HA.out.bt hp)
      have hnx : ∀ ty, (Instr.next (.pointer (some ⟨w.heap.size, 0, none⟩)) true ty).run Tryz.prog wr = _ := fun ty => Lib.run_next_any_at wr w.heap.size cs pos ty hit hp
      simp only [hd] at hnx
      have hne : ((bt cs pos : Int) == 65533) = false := beq_eq_false_iff_ne.2 (by have := HA.out.bt hp; omega)
      have hit2 := Lib.hid (Lib.iterAt_heap wr w.heap.size cs pos (pos + 1) hit)
      have hbw2 := Lib.hid (Lib.below_iterAt hbw (k := w.heap.size) (Nat.le_refl _) cs (pos + 1))
      have hitk := Lib.hid hit
      clear hit hd
      go_wp2_with fail
      go_roundw
      case rel => exact ⟨pos + 1, hit2.out, hbw2.out, hp⟩
      case measure =>
        simp only [World.iterPos, hit2.out, hitk.out]
        omega
    · have hnx : ∀ ty, (Instr.next (.pointer (some ⟨w.heap.size, 0, none⟩)) true ty).run Tryz.prog wr = _ := fun ty => Lib.run_next_end_at wr w.heap.size cs pos ty hit hp
      go_wp2_with fail
      go_ret
      exact ⟨rfl, hbw⟩

set_option maxRecDepth 1000000 in
set_option maxHeartbeats 4000000 in
theorem runeX_more (cs : ByteArray) (hcs : Asc cs) (hN : cs.size ≤ 1000) (r : Nat) (w : World) (h1 : 128 ≤ r) (h2 : r ≠ 65533) (h3 : r < 55296 ∨ (57343 < r ∧ r ≤ 1114111)) :
    Calls Tryz.prog 101 #[.string cs, .int .i32 r] w fun e w' => e = .returned (.int .i64 (-1)) ∧ Below w.heap.size w w' := by
  have h0 : (0 : Int) ≤ r := by omega
  have z1 : ((r : Int) == 65533) = false := by rw [beq_eq_false_iff_ne]; omega
  have z2 : 128 ≤ (r : Int) := by omega
  have HV : Hid (∀ W, Calls Tryz.prog 137 #[.int .i32 r] W fun e w' => e = .returned (.bool true) ∧ W = w') := Lib.hid fun W => by
    refine (Tryz.utf8_ValidRune r W).mono ?_
    rintro e w' ⟨rfl, rfl⟩
    exact ⟨ret_bool (by unfold Lib.validRune; simp; omega), rfl⟩
  have HA := Lib.hid hcs
  have HI : Hid (∀ (k : Nat) (c : UInt8) (W : World), 128 ≤ c.toNat → Calls Tryz.prog 63 #[.string (cs.extract k cs.size), .int .u8 c.toNat] W fun e w' => e = .returned (.int .i64 (-1)) ∧ W = w') := Lib.hid fun k c W h => by
    refine (Tryz.strings_IndexByte (cs.extract k cs.size) c.toNat W).mono ?_
    rintro e w' ⟨rfl, rfl⟩
    refine ⟨ret_int ?_, rfl⟩
    have e1 : ((c.toNat : Int).toNat.toUInt8) = c := by simp
    rw [e1]
    refine byte_no c _ fun b hb e => ?_
    subst e
    have hb' : b ∈ bytesL cs := by
      have h2 : b ∈ sub cs k cs.size := by rw [← bytesL_sub]; exact hb
      exact List.mem_of_mem_drop (List.mem_of_mem_take h2)
    have := hcs b hb'
    omega
  have hE : (∃ a b : UInt8, Utf8.encode (r : Int) = ⟨#[a, b]⟩ ∧ 128 ≤ b.toNat) ∨ (∃ a b c : UInt8, Utf8.encode (r : Int) = ⟨#[a, b, c]⟩ ∧ 128 ≤ c.toNat) ∨ (∃ a b c d : UInt8, Utf8.encode (r : Int) = ⟨#[a, b, c, d]⟩ ∧ 128 ≤ d.toNat) := by
    rw [enc_nat r (valid_of r (by omega))]
    by_cases h : r < 2048
    · left; rw [encN_two r (by omega) h]; exact ⟨_, _, rfl, by rw [ofNat_toNat _ (by omega)]; omega⟩
    · right
      by_cases h : r < 65536
      · left; rw [encN_three r (by omega) (by omega) h]; exact ⟨_, _, _, rfl, by rw [ofNat_toNat _ (by omega)]; omega⟩
      · right; rw [encN_four r (by omega) (by omega) h]; exact ⟨_, _, _, _, rfl, by rw [ofNat_toNat _ (by omega)]; omega⟩
  clear h1 h2 h3 hcs
  have go : ∀ (R : ByteArray) (L : Nat), Utf8.encode (r : Int) = R → R.size = L + 1 → L ≤ 3 → 128 ≤ bt R L → Calls Tryz.prog 101 #[.string cs, .int .i32 r] w fun e w' => e = .returned (.int .i64 (-1)) ∧ Below w.heap.size w w' := by
    intro R L hR hl hL hb
    have HI2 : Hid (∀ W, Calls Tryz.prog 63 #[.string (cs.extract (L + 1) cs.size), .int .u8 (bt R L)] W fun e w' => e = .returned (.int .i64 (-1)) ∧ W = w') := Lib.hid fun W => HI.out (L + 1) (R.get! L) W hb
    clear HI
    have hLz : ((R.size : Int) - 1) = (L : Int) := by omega
    have hbi : ∀ h : L < R.size, ((R[L]'h).toNat : Int) = (bt R L : Int) := fun h => by rw [get_bt R L h]
    by_cases hc : L < cs.size
    · have hci : ((cs[L]'hc).toNat : Int) = (bt cs L : Int) := by rw [get_bt cs L hc]
      have hne : ((bt cs L : Int) != (bt R L : Int)) = true := by have := HA.out.bt hc; simp; omega
      go_enter Tryz.func101, Tryz.ntmps101
      go_wp2_with fail
      ((with_reducible refine (HV.out _).mono ?_))
      rintro e w1 ⟨rfl, rfl⟩
      go_wp2_with fail
      go_step3
      go_wp2_with fail
      refine wp_loop_rounds 1 ?_
      rw [rounds_succ]
      go_wp2_with fail
      go_step3
      go_wp2_with fail
      go_quiet (fail)
      have hb1 := Lib.hid (below_drewN (Below.refl w.heap.size w) nq)
      generalize w.drewN nq = W1 at *
      go_wp2_with fail
      go_quiet ((go_at_call 63; exact quietLeft (HI2.out _)))
      have hb2 := Lib.hid (below_drewN hb1.out nq)
      generalize W1.drewN nq = W2 at *
      go_wp2_with fail
      rw [Exit.noGoto_ret]
      go_wp2_with fail
      rw [Exit.noGoto_ret]
      go_wp2_with fail
      go_ret
      exact ⟨rfl, hb2.out⟩
    · go_enter Tryz.func101, Tryz.ntmps101
      go_wp2_with fail
      ((with_reducible refine (HV.out _).mono ?_))
      rintro e w1 ⟨rfl, rfl⟩
      go_wp2_with fail
      go_step3
      go_wp2_with fail
      refine wp_loop_rounds 1 ?_
      rw [rounds_succ]
      go_wp2_with fail
      rw [Exit.noGoto_ret]
      go_wp2_with fail
      go_ret
      exact ⟨rfl, Below.refl _ _⟩
  rcases hE with ⟨a, b, hE, hb⟩ | ⟨a, b, c, hE, hb⟩ | ⟨a, b, c, d, hE, hb⟩
  · exact go _ 1 hE rfl (by omega) hb
  · exact go _ 2 hE rfl (by omega) hb
  · exact go _ 3 hE rfl (by omega) hb

def setB (cs : ByteArray) (r : Nat) : Bool := decide (r < 128) && (bytesL cs).contains (UInt8.ofNat r)
theorem runeX_any (cs : ByteArray) (hcs : Asc cs) (hN : cs.size ≤ 1000) (r : Nat) (w : World) (hr : r < 55296 ∨ (57343 < r ∧ r ≤ 1114111)) :
    Calls Tryz.prog 101 #[.string cs, .int .i32 r] w (IdxPost (setB cs r) w) := by
  unfold setB
  by_cases h1 : r < 128
  · refine (Tryz.strings_IndexRune_ascii cs r w (by omega) (by omega)).mono ?_
    rintro e w' ⟨rfl, rfl⟩
    refine ⟨_, rfl, ?_, Below.refl _ _⟩
    have e1 : ((r : Int).toNat.toUInt8) = UInt8.ofNat r := rfl
    rw [e1, decide_eq_true h1, Bool.true_and]
    exact byte_has _ _
  · rw [decide_eq_false h1, Bool.false_and]
    have key : Calls Tryz.prog 101 #[.string cs, .int .i32 r] w fun e w' => e = .returned (.int .i64 (-1)) ∧ Below w.heap.size w w' := by
      by_cases h3 : r = 65533
      · subst h3; exact runeX_err cs hcs w
      · exact runeX_more cs hcs hN r w (by omega) h3 hr
    refine key.mono ?_
    rintro e w' ⟨rfl, hb⟩
    exact ⟨-1, rfl, by simp, hb⟩
def IaX (s cs : ByteArray) (w : World) (wr : World) : Prop :=
  ∃ pos : Nat, wr.heap[w.heap.size]? = some (.stringIter s pos) ∧ Below w.heap.size w wr ∧ Hid (((bytesL s).take pos).any ((bytesL cs).contains ·) = false) ∧ pos ≤ s.size
set_option maxRecDepth 1000000 in
set_option maxHeartbeats 4000000 in
theorem anyX_short (s cs : ByteArray) (hcs : Asc cs) (hN : cs.size ≤ 1000) (h2 : 2 ≤ cs.size) (w : World) (hs : s.size ≤ 8) :
    Calls Tryz.prog 61 #[.string s, .string cs] w fun e w' => e = .returned (.int .i64 (Lib.indexAny (bytesL s) (bytesL cs))) ∧ Below w.heap.size w w' := by
  have HSh : Hid (∀ W, Calls Tryz.prog 102 #[.int .i64 s.size] W fun e w' => e = .returned (.bool false) ∧ W = w') := Lib.hid fun W => by
    refine (Tryz.strings_shouldUseASCIISet s.size W).mono ?_
    rintro e w' ⟨rfl, rfl⟩
    exact ⟨ret_bool (by simp; omega), rfl⟩
  have HR : Hid (∀ (r : Nat) W, Scalar r → Calls Tryz.prog 101 #[.string cs, .int .i32 r] W (IdxPost (setB cs r) W)) := Lib.hid fun r W h => runeX_any cs hcs hN r W h
  have HH := Lib.hid (index_hit (bytesL cs) (bytesL s))
  have HNo := Lib.hid (index_no (bytesL cs) (bytesL s))
  have HP : Hid (∀ b : UInt8, 128 ≤ b.toNat → (bytesL cs).contains b = false) := Lib.hid fun b hb => by
    cases hc : (bytesL cs).contains b
    · rfl
    · have := hcs b (by simpa using hc); omega
  have hem : cs.toList.isEmpty = false := by
    rw [Lib.toList_data]
    cases h : cs.data.toList with
    | nil => have := Lib.size_eq cs; rw [h, List.length_nil] at this; omega
    | cons _ _ => rfl
  have hn1 : ((cs.size : Int) == 1) = false := beq_eq_false_iff_ne.2 (by omega)
  clear hcs
  generalize Lib.indexAny (bytesL s) (bytesL cs) = G at *
  go_enter Tryz.func61, Tryz.ntmps61
  go_wp2_with fail
  ((with_reducible refine (HSh.out _).mono ?_))
  rintro e w1 ⟨rfl, rfl⟩
  go_wp2_with fail
  go_loopw [] (fun wr => IaX s cs w wr) (fun wr => s.size - wr.iterPos w.heap.size)
  case atStart =>
    exact ⟨0, World.iter_heap w s 0, (Below.refl _ w).alloc (Nat.le_refl _) _, Lib.hid rfl, by omega⟩
  case round =>
    obtain ⟨pos, hit, hbw, Hok, hps⟩ := hrel
    have hz := hbw.size
    by_cases hp : pos < s.size
    · have hd := dec_bd s pos hp
      have hne : (bytesL s).drop pos ≠ [] := by intro e; have := congrArg List.length e; rw [List.length_drop, bytesL_length] at this; simp at this; omega
      have hS : Scalar (Utf8.decode s pos).1 := by rw [decode_decL]; exact decL_scalar _ hne
      have hAny : Hid (((bytesL s).take (pos + (Utf8.decode s pos).2)).any ((bytesL cs).contains ·) = setB cs (Utf8.decode s pos).1) := Lib.hid (by
        have := any_dec ((bytesL cs).contains ·) HP.out _ hne
        rw [decode_decL, List.take_add, List.any_append, Hok.out, Bool.false_or]
        exact this)
      have hX : Hid (setB cs (Utf8.decode s pos).1 = true → (bytesL s)[pos]? = some (s.get! pos) ∧ (bytesL cs).contains (s.get! pos) = true) := Lib.hid fun h => by
        unfold setB at h
        rw [Bool.and_eq_true, decide_eq_true_eq] at h
        have hb : bt s pos < 128 := by
          rcases Nat.lt_or_ge (bt s pos) 128 with h1 | h1
          · exact h1
          · exfalso
            have h3 := dec_high s pos h1
            omega
        rw [dec_one s pos hb] at h
        refine ⟨?_, ?_⟩
        · unfold bytesL
          rw [show s.get! pos = s.data[pos]'hp from getElem!_pos s.data pos hp, Array.getElem?_toList]
          exact Array.getElem?_eq_getElem hp
        · have : UInt8.ofNat (bt s pos) = s.get! pos := by unfold bt; simp
          rw [← this]; exact h.2
      have hnx : ∀ ty, (Instr.next (.pointer (some ⟨w.heap.size, 0, none⟩)) true ty).run Tryz.prog wr = _ := fun ty => Lib.run_next_any_at wr w.heap.size s pos ty hit hp
      have hit2 := Lib.hid (Lib.iterAt_heap wr w.heap.size s pos (pos + (Utf8.decode s pos).2) hit)
      have hbw2 := Lib.hid (Lib.below_iterAt hbw (k := w.heap.size) (Nat.le_refl _) s (pos + (Utf8.decode s pos).2))
      have hsz2 : w.heap.size < (wr.iterAt w.heap.size s (pos + (Utf8.decode s pos).2)).heap.size := by rw [Lib.iterAt_size]; exact (Array.getElem?_eq_some_iff.1 hit).1
      have hitk := Lib.hid hit
      clear hit hne
      generalize Utf8.decode s pos = D at *
      have HC := Lib.hid fun W => HR.out D.1 W hS
      clear hS
      cases hsp : setB cs D.1
      · have dn : Hid (∀ W', Below (wr.iterAt w.heap.size s (pos + D.2)).heap.size (wr.iterAt w.heap.size s (pos + D.2)) W' → W'.heap[w.heap.size]? = some (.stringIter s (pos + D.2)) ∧ IaX s cs w W') := Lib.hid fun W' hW => by
          have e1 : W'.heap[w.heap.size]? = some (.stringIter s (pos + D.2)) := (hW.block _ hsz2).trans hit2.out
          exact ⟨e1, pos + D.2, e1, hbw2.out.trans (hW.mono (by omega)), Lib.hid (by rw [hAny.out, hsp]), by omega⟩
        rw [hsp] at HC
        clear hsp
        go_wp2_with fail
        ((with_reducible refine (HC.out _).mono ?_))
        rintro e w1 ⟨n, rfl, hn, b1⟩
        have hn1 : n < 0 := by
          rcases Int.lt_or_le n 0 with h | h
          · exact h
          · have := hn.1 h; simp at this
        clear hn
        go_wp2_with fail
        go_roundw
        case rel => exact (dn.out _ b1).2
        case measure =>
          simp only [World.iterPos, (dn.out _ b1).1, hitk.out]
          omega
      · have HT : Hid (G = (pos : Int)) := Lib.hid (HH.out pos _ Hok.out (hX.out hsp).1 (hX.out hsp).2)
        rw [hsp] at HC
        clear hsp
        go_wp2_with fail
        ((with_reducible refine (HC.out _).mono ?_))
        rintro e w1 ⟨n, rfl, hn, b1⟩
        have hn1 : 0 ≤ n := hn.2 rfl
        clear hn
        go_wp2_with fail
        go_ret
        exact ⟨ret_int (by rw [HT.out]), hbw2.out.trans (b1.mono (by omega))⟩
    · have hnx : ∀ ty, (Instr.next (.pointer (some ⟨w.heap.size, 0, none⟩)) true ty).run Tryz.prog wr = _ := fun ty => Lib.run_next_end_at wr w.heap.size s pos ty hit hp
      have HF : Hid (G = -1) := Lib.hid (HNo.out (by have := Hok.out; rwa [List.take_of_length_le (by rw [bytesL_length]; omega)] at this))
      go_wp2_with fail
      go_ret
      exact ⟨ret_int (by rw [HF.out]), hbw⟩

theorem anyX (s cs : ByteArray) (w : World) (hcs : Asc cs) (hN : cs.size ≤ 1000) (h2 : 2 ≤ cs.size) (hs : s.size ≤ 1000000) :
    Calls Tryz.prog 61 #[.string s, .string cs] w fun e w' => e = .returned (.int .i64 (Lib.indexAny (bytesL s) (bytesL cs))) ∧ Below w.heap.size w w' := by
  by_cases h : s.size ≤ 8
  · exact anyX_short s cs hcs hN h2 w h
  · refine (Tryz.strings_IndexAny_long (fun w => by kernel_rfl) s cs w h2 (by omega) (by omega) (by omega) ?_).mono ?_
    · intro j b hj
      exact hcs b (List.mem_of_getElem? hj)
    · rintro e w' ⟨rfl, rfl⟩
      exact ⟨rfl, ((Below.refl _ _).alloc (Nat.le_refl _) _).alloc (by simp) _⟩
set_option maxRecDepth 1000000 in
set_option maxHeartbeats 4000000 in
theorem containsX (s cs : ByteArray) (w : World) (hcs : Asc cs) (hN : cs.size ≤ 1000) (h2 : 2 ≤ cs.size) (hs : s.size ≤ 1000000) :
    Calls Tryz.prog 33 #[.string s, .string cs] w fun e w' => e = .returned (.bool ((bytesL s).any ((bytesL cs).contains ·))) ∧ Below w.heap.size w w' := by
  have HC := Lib.hid fun W => anyX s cs W hcs hN h2 hs
  have HX := Lib.hid (index_any (bytesL cs) (bytesL s))
  generalize Lib.indexAny (bytesL s) (bytesL cs) = n at *
  go_enter Tryz.func33, Tryz.ntmps33
  go_wp2_with fail
  ((with_reducible refine (HC.out _).mono ?_))
  rintro e w1 ⟨rfl, b1⟩
  go_wp2_with fail
  go_ret
  exact ⟨ret_bool HX.out, b1⟩

end Go.Proofs.YtcjkgmfidkgamaaGreatDoor
namespace Go.Pub
def d0C : CitL := ⟨⟨#[]⟩, ⟨#[]⟩, ⟨#[]⟩, false⟩
theorem allC_some : ∀ ps : List (List UInt8), (∀ p ∈ ps, (citedI (mk p)).isSome = true) → allC ps = some (ps.map fun p => (citedI (mk p)).getD d0C)
  | [], _ => rfl
  | p :: ps, h => by
    have h1 := h p List.mem_cons_self
    unfold allC
    cases hc : citedI (mk p) with
    | none => rw [hc] at h1; cases h1
    | some c => rw [allC_some ps fun q hq => h q (List.mem_cons_of_mem _ hq)]; simp [hc]
theorem allC_none : ∀ (ps : List (List UInt8)) (p : List UInt8), p ∈ ps → citedI (mk p) = none → allC ps = none
  | q :: ps, p, h, hn => by
    unfold allC
    rcases List.mem_cons.1 h with rfl | h
    · rw [hn]; rfl
    · rw [allC_none ps p h hn]; cases citedI (mk q) <;> rfl
theorem semi_len : ∀ (l : List UInt8), (semiL l).length ≤ l.length + 1 ∧ ∀ p ∈ semiL l, p.length ≤ l.length
  | [] => ⟨by simp [semiL], fun p hp => by simp [semiL] at hp; subst hp; simp⟩
  | c :: l => by
    obtain ⟨h1, h2⟩ := semi_len l
    unfold semiL
    split
    · refine ⟨by simp; omega, fun p hp => ?_⟩
      rcases List.mem_cons.1 hp with rfl | hp
      · simp
      · have := h2 p hp; simp; omega
    · split
      · exact ⟨by simp, fun p hp => by simp at hp; subst hp; simp⟩
      · rename_i q qs he
        rw [he] at h1 h2
        refine ⟨by simp at h1 ⊢; omega, fun p hp => ?_⟩
        rcases List.mem_cons.1 hp with rfl | hp
        · have := h2 q List.mem_cons_self; simp; omega
        · have := h2 p (List.mem_cons_of_mem _ hp); simp; omega
theorem bad_set (l : List UInt8) : l.any ([91, 93, 123, 96, 36, 10].contains ·) = l.any badC := by
  congr 1; funext b
  unfold badC
  show (b == 91 || (b == 93 || (b == 123 || (b == 96 || (b == 36 || (b == 10 || false)))))) = _
  rw [Bool.or_false]; simp only [Bool.or_assoc]
end Go.Pub
namespace Go.Proofs.YtcjkgmfidkgamaaGreatDoor
open Go.RowKit Go.Pub
attribute [local go_sem] Oper.semAt_some
/-- The citations of a string, or that it has none. -/
def CitesPost (r : Option (List CitL)) (w : World) (e : Ending) (w' : World) : Prop :=
  Below w.heap.size w w' ∧ match r with
  | none => e = .returned (.tuple #[.slice none 0 0, .bool false])
  | some cs => ∃ A c, e = .returned (.tuple #[.slice A cs.length c, .bool true]) ∧ ReadsS w' (Rg w.heap.size w') 4 A cs.length (citCs cs)
def citG (x : StrP) : CitL := (citedI x.1).getD d0C
def citF (pre : List StrP) : List Value := pre.flatMap fun x => citC (citG x)
theorem cited_info : (Tryz.prog.info? 47).map (fun i => (i.zero, i.size, i.bytes)) = some (some (.agg #[.string ⟨#[]⟩, .string ⟨#[]⟩, .string ⟨#[]⟩, .bool false]), 4, 56) := by kernel_rfl
theorem asc_bad : ∀ b ∈ bytesL (⟨#[91, 93, 123, 96, 36, 10]⟩ : ByteArray), b.toNat < 128 := by
  intro b hb
  have h : b ∈ ([91, 93, 123, 96, 36, 10] : List UInt8) := hb
  have : ∀ b ∈ ([91, 93, 123, 96, 36, 10] : List UInt8), b.toNat < 128 := by decide
  exact this b h
theorem appendedS {W w1 : World} {B n₀ : Nat} {t e : TypeId} {size : Nat} {v v' : Value} {k m : Nat} {xs ys : List Value} {tmp : Obj}
    (hv : Boxed W B t v) (hB : B < n₀) (hrow : W.ownsRow n₀ e size v k xs) (hz : n₀ ≤ W.heap.size) (hown' : w1.ownsRow n₀ e size v' m ys) (hgrow : (W.alloc tmp).grownBy w1 v.ownBlock) :
    Boxed w1 B t v ∧ Boxed (w1.setCell ⟨B, 0, none⟩ v') B t v' ∧ (w1.setCell ⟨B, 0, none⟩ v').ownsRow n₀ e size v' m ys ∧ KeepsOthers W (w1.setCell ⟨B, 0, none⟩ v') ∧ Below B W (w1.setCell ⟨B, 0, none⟩ v') ∧ (∀ g, g < n₀ → g ≠ B → (w1.setCell ⟨B, 0, none⟩ v').heap[g]? = W.heap[g]?) := by
  have hv1 : Boxed w1 B t v := (hv.alloc tmp).kept hgrow (own_far hrow hB)
  refine ⟨hv1, hv1.set v', hown'.kept (grownBy_setCell' w1 B v') (.inr (own_far hown' hB).symm), ?_, ?_, fun g hg hne => ?_⟩
  · refine ((KeepsOthers.alloc W tmp).trans (KeepsOthers.of_grownBy hgrow fun j o ej hj => ?_)).trans (KeepsOthers.setCell _ _ _)
    rcases (hrow.alloc tmp).2 with ⟨rfl, _⟩ | ⟨g, cap, cur, rfl, _, hgb, _⟩
    · simp [Value.ownBlock] at ej
    · obtain rfl : g = j := by simpa [Value.ownBlock] using ej
      rw [hgb] at hj; cases hj; rfl
  · refine (((Below.refl B W).alloc (by omega) tmp).grown hgrow (by simp; omega) fun j ej => ?_).setCell (p := ⟨B, 0, none⟩) (Nat.le_refl _) v'
    rcases Nat.lt_or_ge j B with h | h
    · exact absurd ej.symm (own_far hrow (by omega))
    · exact h
  · exact (Below.heap_setCell w1 ⟨B, 0, none⟩ v' g hne).trans ((hgrow.block g (by simp; omega) (own_far hrow hg)).trans (Below.heap_alloc W tmp g (by omega)))
set_option maxRecDepth 100000 in
set_option maxHeartbeats 4000000 in
theorem s_Cites (s : ByteArray) (w : World) (hs : s.size ≤ 1000000) : Calls Tryz.prog 20 #[.string s] w (CitesPost (citesI s) w) := by
  have HC : Hid (∀ W, Calls Tryz.prog 33 #[.string s, .string ⟨#[91, 93, 123, 96, 36, 10]⟩] W fun e w' => e = .returned (.bool ((bytesL s).any badC)) ∧ Below W.heap.size W w') := Lib.hid fun W => by
    have := containsX s ⟨#[91, 93, 123, 96, 36, 10]⟩ W asc_bad (by decide) (by decide) hs
    rwa [show bytesL (⟨#[91, 93, 123, 96, 36, 10]⟩ : ByteArray) = [91, 93, 123, 96, 36, 10] from rfl, bad_set] at this
  have HS := Lib.hid fun W => split_seq s W
  have hlen := semi_len (bytesL s)
  rw [bytesL_length] at hlen
  have HI : Hid (citesI s = if (bytesL s).any badC = true then none else allC (semiL (bytesL s))) := Lib.hid rfl
  generalize citesI s = R at *
  obtain ⟨i0, hi0, hz0, hz1, hz2⟩ := info_parts cited_info
  refine (callsIn_wide (n := 5)).1 ?_
  refine callsIn_of_wp_marks Tryz.func20 rfl trivial ?_ rfl
  simp only [Tryz.ntmps20, List.size_toArray, List.length_cons, List.length_nil, Nat.reduceAdd, Nat.reduceSub, Array.replicate_succ, Array.replicate_zero, List.push_toArray, List.append_toArray, List.nil_append, List.cons_append]
  gi_wp2_with fail
  refine ⟨trivial, ?_⟩
  ((with_reducible refine (callsIn_wide.2 (HC.out _)).mono ?_))
  rintro e W1 ⟨rfl, q1⟩
  have hr0 := Boxed.new w 31 (.slice none 0 0)
  have hr1 := Boxed.new (w.alloc (.cells #[.slice none 0 0] 31)) 4 (.bool false)
  rw [World.size_alloc] at hr1
  have R0 : Boxed W1 w.heap.size 31 (.slice none 0 0) := (q1.block _ (by simp; omega)).trans (hr0.alloc _)
  have R1 : Boxed W1 (w.heap.size + 1) 4 (.bool false) := (q1.block _ (by simp)).trans hr1
  have QB : Below w.heap.size w W1 := (((Below.refl _ w).alloc (Nat.le_refl _) _).alloc (by simp) _).trans (q1.mono (by simp; omega))
  have z1 := R1.lt
  clear q1 hr0 hr1
  cases hbad : (bytesL s).any badC
  · rw [hbad, if_neg (by simp)] at HI
    gi_wp2_with fail
    refine ⟨trivial, ?_⟩
    ((with_reducible refine (callsIn_wide.2 (HS.out _)).mono ?_))
    rintro e W2 ⟨rfl, rfl⟩
    gi_wp2_with fail
    have BB : Boxed ((((W1.alloc (.cells #[.slice none 0 0] 31)).alloc (.cells #[.string s] 9)).alloc (.cells #[.string ⟨#[59]⟩] 9)).alloc (.cells #[.int .i64 0] 3)) W1.heap.size 31 (.slice none 0 0) := (((Boxed.new W1 _ _).alloc _).alloc _).alloc _
    have SB : SqB (W1.heap.size + 1) (W1.heap.size + 1 + 1) (W1.heap.size + 1 + 2) s ((((W1.alloc (.cells #[.slice none 0 0] 31)).alloc (.cells #[.string s] 9)).alloc (.cells #[.string ⟨#[59]⟩] 9)).alloc (.cells #[.int .i64 0] 3)) := by
      have x1 := Boxed.new (W1.alloc (.cells #[.slice none 0 0] 31)) 9 (.string s)
      have x2 := Boxed.new ((W1.alloc (.cells #[.slice none 0 0] 31)).alloc (.cells #[.string s] 9)) 9 (.string ⟨#[59]⟩)
      have x3 := Boxed.new (((W1.alloc (.cells #[.slice none 0 0] 31)).alloc (.cells #[.string s] 9)).alloc (.cells #[.string ⟨#[59]⟩] 9)) 3 (.int .i64 0)
      simp only [World.size_alloc] at x1 x2 x3
      exact ⟨(x1.alloc _).alloc _, x2.alloc _, x3⟩
    have RX0 : Boxed ((((W1.alloc (.cells #[.slice none 0 0] 31)).alloc (.cells #[.string s] 9)).alloc (.cells #[.string ⟨#[59]⟩] 9)).alloc (.cells #[.int .i64 0] 3)) w.heap.size 31 (.slice none 0 0) := (((R0.alloc _).alloc _).alloc _).alloc _
    have RX1 : Boxed ((((W1.alloc (.cells #[.slice none 0 0] 31)).alloc (.cells #[.string s] 9)).alloc (.cells #[.string ⟨#[59]⟩] 9)).alloc (.cells #[.int .i64 0] 3)) (w.heap.size + 1) 4 (.bool false) := (((R1.alloc _).alloc _).alloc _).alloc _
    have QX : Below w.heap.size w ((((W1.alloc (.cells #[.slice none 0 0] 31)).alloc (.cells #[.string s] 9)).alloc (.cells #[.string ⟨#[59]⟩] 9)).alloc (.cells #[.int .i64 0] 3)) := (((QB.alloc (by omega) _).alloc (by simp; omega) _).alloc (by simp; omega) _).alloc (by simp; omega) _
    have zX : ((((W1.alloc (.cells #[.slice none 0 0] 31)).alloc (.cells #[.string s] 9)).alloc (.cells #[.string ⟨#[59]⟩] 9)).alloc (.cells #[.int .i64 0] 3)).heap.size = W1.heap.size + 4 := by simp
    generalize ((((W1.alloc (.cells #[.slice none 0 0] 31)).alloc (.cells #[.string s] 9)).alloc (.cells #[.string ⟨#[59]⟩] 9)).alloc (.cells #[.int .i64 0] 3)) = X at *
    clear R0 R1 QB
    refine range_steps rfl (by omega) (gf := 105) (lb := #[.pointer (some ⟨W1.heap.size + 1 + 1, 0, none⟩), .pointer (some ⟨W1.heap.size + 1, 0, none⟩), .pointer (some ⟨W1.heap.size + 1 + 2, 0, none⟩)]) rfl trivial (enters_of Tryz.func105 (by kernel_rfl) rfl)
      (Kp := KpS (W1.heap.size + 1) (W1.heap.size + 1 + 1) (W1.heap.size + 1 + 2)) (St := StB (W1.heap.size + 1)) (split_stops 4 (by omega) (W1.heap.size + 1) (W1.heap.size + 1 + 1) (W1.heap.size + 1 + 2) (by omega) (by omega) s hs _ SB)
      (fun h1 h2 => ⟨h2.1.trans h1.1, h2.2.1.trans h1.2.1, h2.2.2.trans h1.2.2⟩)
      (fun W l o o' hl ho hc _ => ⟨World.putObj_heap_other (by omega), World.putObj_heap_other (by omega), World.putObj_heap_other (by omega)⟩) (fun _ => rfl)
      (fun (pre : List StrP) W => (∃ v, Boxed W W1.heap.size 31 v ∧ W.ownsRow (W1.heap.size + 4) 47 4 v pre.length (citF pre) ∧ (∀ x ∈ pre, (citedI x.1).isSome = true)) ∧ (Boxed W w.heap.size 31 (.slice none 0 0) ∧ (Boxed W (w.heap.size + 1) 4 (.bool false) ∧ Below w.heap.size X W)))
      (fun c pre W => (c = Code.ret ∧ ∃ x ∈ pre, citedI x.1 = none) ∧ (Boxed W w.heap.size 31 (.slice none 0 0) ∧ (Boxed W (w.heap.size + 1) 4 (.bool false) ∧ Below w.heap.size X W)))
      (OwnFrom.and (Own.from (holdsRow_own (W1.heap.size + 4) W1.heap.size 31 47 4 (fun (pre : List StrP) => pre.length) (fun pre => citF pre) (fun pre _ => ∀ x ∈ pre, (citedI x.1).isSome = true)) _) (OwnFrom.and (Own.from (boxed_own w.heap.size 31 (fun _ => .slice none 0 0)) _) (OwnFrom.and (Own.from (boxed_own (w.heap.size + 1) 4 (fun _ => .bool false)) _) (ownFrom_below QX.size QX.size))))
      (fun c => OwnFrom.and (fun _ _ _ _ hs _ _ => hs) (OwnFrom.and (Own.from (boxed_own w.heap.size 31 (fun _ => .slice none 0 0)) _) (OwnFrom.and (Own.from (boxed_own (w.heap.size + 1) 4 (fun _ => .bool false)) _) (ownFrom_below QX.size QX.size))))
      (fun pre A B h hst => by
        obtain ⟨v, rfl⟩ := hst
        obtain ⟨⟨u, k1, k2, k3⟩, k4, k5, k6⟩ := h
        exact ⟨⟨u, k1.other (by omega) _, ownsRow_setCell_below k2 (by show W1.heap.size + 1 < W1.heap.size + 4; omega) _, k3⟩, k4.other (by omega) _, k5.other (by omega) _, k6.setCell (p := ⟨W1.heap.size + 1, 0, none⟩) (by show w.heap.size ≤ W1.heap.size + 1; omega) _⟩)
      (fun A B hst k hk => by
        obtain ⟨v, rfl⟩ := hst
        exact Below.heap_setCell _ _ _ k (by show k ≠ W1.heap.size + 1; omega))
      ⟨⟨_, BB, World.ownsRow_nil _ _ _ _, by simp⟩, RX0, RX1, Below.refl _ _⟩
      (fun (x : StrP) => { tmps := #[.string s, undef, .pointer (some ⟨w.heap.size, 0, none⟩), .pointer (some ⟨w.heap.size + 1, 0, none⟩), .pointer (some ⟨W1.heap.size, 0, none⟩), .string x.1, undef, undef, .string s, .bool false, .string s, .func (.func 105) #[] #[.pointer (some ⟨W1.heap.size + 1 + 1, 0, none⟩), .pointer (some ⟨W1.heap.size + 1, 0, none⟩), .pointer (some ⟨W1.heap.size + 1 + 2, 0, none⟩)], .string x.1, undef, undef, undef, undef, undef, undef, undef, undef, undef, undef, undef, undef], defers := [] }) ?assign ?body ?done ?stop
    case assign =>
      intro l x W K hK
      gi_wp2_with fail
      exact hK
    case body =>
      rintro l pre x W ⟨⟨v, hv, hrow, hsome⟩, hr0, hr1, hB⟩ hlt
      have hcd := fun W => s_cited x.1 W x.2
      have hzW := hv.lt
      cases hc : citedI x.1 with
      | none =>
        rw [hc] at hcd
        have HCd : Hid (∀ W, Calls Tryz.prog 35 #[.string x.1] W fun e w' => e = .returned (.tuple #[.agg #[.string ⟨#[]⟩, .string ⟨#[]⟩, .string ⟨#[]⟩, .bool false], .bool false]) ∧ Below W.heap.size W w') := Lib.hid hcd
        clear hcd
        gi_wp2_with fail
        refine ⟨trivial, ?_⟩
        ((with_reducible refine (CallsIn.inRound l (callsIn_wide.2 (HCd.out _))).mono ?_))
        rintro e W4 ⟨rfl, b4⟩
        have k0 : Boxed W4 w.heap.size 31 (.slice none 0 0) := (b4.block _ hr0.lt).trans hr0
        have k1 : Boxed W4 (w.heap.size + 1) 4 (.bool false) := (b4.block _ hr1.lt).trans hr1
        have hB4 := hB.trans (b4.mono (Nat.le_trans QX.size hB.size))
        have a0 := (k0.alloc (.cells #[.string ⟨#[]⟩, .string ⟨#[]⟩, .string ⟨#[]⟩, .bool false] 47))
        have a1 := (k1.alloc (.cells #[.string ⟨#[]⟩, .string ⟨#[]⟩, .string ⟨#[]⟩, .bool false] 47))
        have f0 := a0.frozen
        have f1 := a1.frozen
        have c0 := a0.cell
        have c1 := a1.cell
        have d0 := (a0.set (.slice none 0 0)).other (B' := w.heap.size + 1) (by omega) (.bool false)
        have d1 := (a1.other (B' := w.heap.size) (by omega) (.slice none 0 0)).set (.bool false)
        have KO := ((keeps_of_below b4).trans (KeepsOthers.alloc W4 (.cells #[.string ⟨#[]⟩, .string ⟨#[]⟩, .string ⟨#[]⟩, .bool false] 47))).trans ((KeepsOthers.setCell _ ⟨w.heap.size, 0, none⟩ (.slice none 0 0)).trans (KeepsOthers.setCell _ ⟨w.heap.size + 1, 0, none⟩ (.bool false)))
        have hB5 := ((hB4.alloc (Nat.le_trans QX.size hB4.size) (.cells #[.string ⟨#[]⟩, .string ⟨#[]⟩, .string ⟨#[]⟩, .bool false] 47)).setCell (p := ⟨w.heap.size, 0, none⟩) (Nat.le_refl _) (.slice none 0 0)).setCell (p := ⟨w.heap.size + 1, 0, none⟩) (by show w.heap.size ≤ w.heap.size + 1; omega) (.bool false)
        have H5 := Lib.hid (And.intro d0 (And.intro d1 hB5))
        have HK := Lib.hid KO
        clear a0 a1 d0 d1 hB5 KO k0 k1 hB4
        gi_wp2_with fail
        exact ⟨HK.out.from _, ⟨rfl, x, by simp, hc⟩, H5.out.1, H5.out.2.1, H5.out.2.2⟩
      | some c =>
        rw [hc] at hcd
        obtain ⟨Av, cv, rfl⟩ := own_slice hrow
        have HCd : Hid (∀ W, Calls Tryz.prog 35 #[.string x.1] W fun e w' => e = .returned (.tuple #[.agg #[.string c.key, .string c.pre, .string c.suf, .bool c.bare], .bool true]) ∧ Below W.heap.size W w') := Lib.hid hcd
        clear hcd
        gi_wp2_with fail
        refine ⟨trivial, ?_⟩
        ((with_reducible refine (CallsIn.inRound l (callsIn_wide.2 (HCd.out _))).mono ?_))
        rintro e W4 ⟨rfl, b4⟩
        obtain ⟨C, hC⟩ : ∃ C, C = (Obj.cells #[.string c.key, .string c.pre, .string c.suf, .bool c.bare] 47 : Obj) := ⟨_, rfl⟩
        have hv4 : Boxed (W4.alloc (.cells #[.string c.key, .string c.pre, .string c.suf, .bool c.bare] 47)) W1.heap.size 31 (.slice Av pre.length cv) := Boxed.alloc ((b4.block _ hv.lt).trans hv) _
        have hrow4 : (W4.alloc (.cells #[.string c.key, .string c.pre, .string c.suf, .bool c.bare] 47)).ownsRow (W1.heap.size + 4) 47 4 (.slice Av pre.length cv) pre.length (citF pre) := World.ownsRow.alloc (own_below hrow b4) _
        have k0 : Boxed (W4.alloc (.cells #[.string c.key, .string c.pre, .string c.suf, .bool c.bare] 47)) w.heap.size 31 (.slice none 0 0) := Boxed.alloc ((b4.block _ hr0.lt).trans hr0) _
        have k1 : Boxed (W4.alloc (.cells #[.string c.key, .string c.pre, .string c.suf, .bool c.bare] 47)) (w.heap.size + 1) 4 (.bool false) := Boxed.alloc ((b4.block _ hr1.lt).trans hr1) _
        have hB4 := (hB.trans (b4.mono (Nat.le_trans QX.size hB.size))).alloc (Nat.le_trans QX.size (hB.trans (b4.mono (Nat.le_trans QX.size hB.size))).size) (.cells #[.string c.key, .string c.pre, .string c.suf, .bool c.bare] 47)
        have hz4 := b4.size
        have hXW : W1.heap.size + 4 ≤ W.heap.size := by have := hB.size; omega
        have KO4 := (keeps_of_below b4).trans (KeepsOthers.alloc W4 (.cells #[.string c.key, .string c.pre, .string c.suf, .bool c.bare] 47))
        have hvc := hv4.cell
        have hpl : pre.length ≤ 1000001 := by omega
        have c6 := cit_facts (Blk.new W4 47 #[.string c.key, .string c.pre, .string c.suf, .bool c.bare])
        obtain ⟨y0, y1, y2, y3, _⟩ := c6
        have hvb := (hv4.alloc (.cells #[.string c.key, .string c.pre, .string c.suf, .bool c.bare] 47)).cell
        gi_wp2_with (first
          | (gi_at_builtin; refine wpListIn_append_own _ rfl _ _ 31 rfl (W1.heap.size + 4) 47 i0 _ 4 56 Tryz.underlying31 hi0 hz0 hz1 hz2 rfl (by decide) (.slice Av pre.length cv) pre.length (citF pre) rfl (hrow4.alloc _) ⟨W4.heap.size + 1, 0, none⟩ 1 1 [.string c.key, .string c.pre, .string c.suf, .bool c.bare] rfl rfl ?c1 ?c2 ?c3 ?c4 ?c5 ?_)
          | fail)
        case c1 => exact World.news_of_block (t := 47) (fr := (0, 0)) (cs := #[.string c.key, .string c.pre, .string c.suf, .bool c.bare]) (by have := heap_alloc_new (W4.alloc (.cells #[.string c.key, .string c.pre, .string c.suf, .bool c.bare] 47)) (.cells #[.string c.key, .string c.pre, .string c.suf, .bool c.bare] 47); rwa [World.size_alloc] at this)
        case c2 => intro u hu; simp at hu; rcases hu with rfl | rfl | rfl | rfl <;> rfl
        case c3 => unfold maxLen; omega
        case c4 => omega
        case c5 => simp; omega
        intro v' w5 hown5 hgrow5 _
        obtain ⟨A5, c5, rfl⟩ := own_slice hown5
        obtain ⟨p1, p2, p3, p4, p5, p6⟩ := appendedS hv4 (by omega) hrow4 (by simp; omega) hown5 hgrow5
        have pc := p1.cell
        have pf := p1.frozen
        have hW4 : ∀ b, b < W.heap.size → (W4.alloc (.cells #[.string c.key, .string c.pre, .string c.suf, .bool c.bare] 47)).heap[b]? = W.heap[b]? := fun b hb => (Below.heap_alloc W4 _ b (by omega)).trans (b4.block b hb)
        have KP : KpS (W1.heap.size + 1) (W1.heap.size + 1 + 1) (W1.heap.size + 1 + 2) W (w5.setCell ⟨W1.heap.size, 0, none⟩ (.slice A5 (pre.length + 1) c5)) := ⟨(p6 _ (by omega) (by omega)).trans (hW4 _ (by omega)), (p6 _ (by omega) (by omega)).trans (hW4 _ (by omega)), (p6 _ (by omega) (by omega)).trans (hW4 _ (by omega))⟩
        have q0 : Boxed (w5.setCell ⟨W1.heap.size, 0, none⟩ (.slice A5 (pre.length + 1) c5)) w.heap.size 31 (.slice none 0 0) := (p6 _ (by omega) (by omega)).trans k0
        have q1 : Boxed (w5.setCell ⟨W1.heap.size, 0, none⟩ (.slice A5 (pre.length + 1) c5)) (w.heap.size + 1) 4 (.bool false) := (p6 _ (by omega) (by omega)).trans k1
        have e5 : citF (pre ++ [x]) = citF pre ++ [.string c.key, .string c.pre, .string c.suf, .bool c.bare] := by
          unfold citF citG
          rw [List.flatMap_append]
          simp [hc, citC]
        have s5 : ∀ y ∈ pre ++ [x], (citedI y.1).isSome = true := fun y hy => by
          rcases List.mem_append.1 hy with h | h
          · exact hsome y h
          · rw [List.mem_singleton.1 h, hc]; rfl
        have hB5 := hB4.trans (p5.mono (by omega))
        have KK := KO4.trans p4
        have HH := Lib.hid (And.intro KK (And.intro KP (And.intro p2 (And.intro p3 (And.intro q0 (And.intro q1 hB5))))))
        clear KK KP p2 p3 p4 p5 p6 q0 q1 hB5 hown5 hgrow5 hrow4 hv4
        gi_wp2_with fail
        exact ⟨HH.out.1.from _, HH.out.2.1, ⟨_, HH.out.2.2.1, by rw [e5, List.length_append]; exact HH.out.2.2.2.1, s5⟩, HH.out.2.2.2.2.1, HH.out.2.2.2.2.2.1, HH.out.2.2.2.2.2.2⟩
    case done =>
      rintro D ys W hD rfl ⟨⟨v, hv, hrow, hsome⟩, hr0, hr1, hB⟩ hK
      obtain ⟨Av, cv, rfl⟩ := own_slice hrow
      have hvc := hv.cell
      have f0 := hr0.frozen
      have f1 := hr1.frozen
      have c0 := hr0.cell
      have c1 := hr1.cell
      have hTv : ∀ p ∈ semiL (bytesL s), (toStr p).1 = mk p := fun p hp => toStr_val p (Nat.le_trans (hlen.2 p hp) hs)
      have HF : Hid (R = some ((semiL (bytesL s)).map fun p => (citedI (mk p)).getD d0C)) := Lib.hid (by
        rw [HI.out]
        refine allC_some _ fun p hp => ?_
        have := hsome (toStr p) (List.mem_map_of_mem hp)
        rwa [hTv p hp] at this)
      have eC : citF ((semiL (bytesL s)).map toStr) = citCs ((semiL (bytesL s)).map fun p => (citedI (mk p)).getD d0C) := by
        unfold citF citCs
        rw [List.flatMap_map, List.flatMap_map]
        have : ∀ l : List (List UInt8), (∀ p ∈ l, (toStr p).1 = mk p) → l.flatMap (fun a => citC (citG (toStr a))) = l.flatMap fun a => citC ((citedI (mk a)).getD d0C) := by
          intro l
          induction l with
          | nil => intro _; rfl
          | cons a l ih =>
            intro h
            rw [List.flatMap_cons, List.flatMap_cons, ih fun p hp => h p (List.mem_cons_of_mem _ hp)]
            unfold citG
            rw [h a List.mem_cons_self]
        exact this _ hTv
      rw [eC, List.length_map] at hrow
      rw [List.length_map] at hvc
      clear hsome eC hTv
      generalize hcs : (semiL (bytesL s)).map (fun p => (citedI (mk p)).getD d0C) = cs at *
      have hcl : cs.length = (semiL (bytesL s)).length := by rw [← hcs, List.length_map]
      have KO := (KeepsOthers.setCell W ⟨w.heap.size, 0, none⟩ (.slice Av (semiL (bytesL s)).length cv)).trans (KeepsOthers.setCell _ ⟨w.heap.size + 1, 0, none⟩ (.bool true))
      have hK2 := KO.same D _ hK rfl
      have d0 := (hr0.set (.slice Av (semiL (bytesL s)).length cv)).other (B' := w.heap.size + 1) (by omega) (.bool true)
      have d1 := (hr1.other (B' := w.heap.size) (by omega) (.slice Av (semiL (bytesL s)).length cv)).set (.bool true)
      have o1 := ownsRow_setCell_below (ownsRow_setCell_below hrow (a := ⟨w.heap.size, 0, none⟩) (by show w.heap.size < W1.heap.size + 4; omega) (.slice Av (semiL (bytesL s)).length cv)) (a := ⟨w.heap.size + 1, 0, none⟩) (by show w.heap.size + 1 < W1.heap.size + 4; omega) (.bool true)
      have o2 := ownsRow_putObj o1 (.deferred none) hK2 rfl
      have g0 := Boxed.cell (v := .slice Av (semiL (bytesL s)).length cv) (d0.kept (grownBy_putObj' _ D (.deferred none)) (fun e => by cases e; unfold Boxed at d0; rw [d0] at hK2; cases hK2))
      have g1 := Boxed.cell (v := .bool true) (d1.kept (grownBy_putObj' _ D (.deferred none)) (fun e => by cases e; unfold Boxed at d1; rw [d1] at hK2; cases hK2))
      have hBB := ((QX.trans hB).setCell (p := ⟨w.heap.size, 0, none⟩) (Nat.le_refl _) (.slice Av (semiL (bytesL s)).length cv)).setCell (p := ⟨w.heap.size + 1, 0, none⟩) (by show w.heap.size ≤ w.heap.size + 1; omega) (.bool true)
      have hB2 := hBB.trans (belowK_b (w := w) (Nat.le_refl _) _ D _ (.deferred none) (by omega) hK2 rfl rfl)
      have HH := Lib.hid (And.intro o2 hB2)
      clear o1 o2 hBB hB2 d0 d1 KO hrow hv
      gi_wp2_with fail
      refine ⟨by simp, .inl ⟨_, _, rfl, run_takeDeferred hK2, ?_⟩⟩
      refine ⟨.tuple #[.slice Av (semiL (bytesL s)).length cv, .bool true], by simp [results, Tryz.results20, go_sem, g0, g1], HH.out.2, ?_⟩
      rw [HF.out]
      refine ⟨Av, cv, by rw [hcl], ?_⟩
      rw [hcl]
      exact (ReadsS.of_own HH.out.1).keep (fun _ _ => rfl) fun q hq => ⟨by have := hq.1; omega, hq.2⟩
    case stop =>
      rintro D c pre W hD hpre ⟨⟨rfl, x, hx, hxn⟩, hr0, hr1, hB⟩ hK
      have HF : Hid (R = none) := Lib.hid (by
        obtain ⟨p, hp, rfl⟩ := List.mem_map.1 (hpre.subset hx)
        rw [toStr_val p (Nat.le_trans (hlen.2 p hp) hs)] at hxn
        rw [HI.out]; exact allC_none _ p hp hxn)
      have g0 := Boxed.cell (v := .slice none 0 0) (hr0.kept (grownBy_putObj' _ D (.deferred none)) (fun e => by cases e; unfold Boxed at hr0; rw [hr0] at hK; cases hK))
      have g1 := Boxed.cell (v := .bool false) (hr1.kept (grownBy_putObj' _ D (.deferred none)) (fun e => by cases e; unfold Boxed at hr1; rw [hr1] at hK; cases hK))
      gi_wp2_with fail
      refine ⟨by simp, .inl ⟨_, _, rfl, run_takeDeferred hK, ?_⟩⟩
      refine ⟨.tuple #[.slice none 0 0, .bool false], by simp [results, Tryz.results20, go_sem, g0, g1], (QX.trans hB).trans (belowK_b (w := w) (Nat.le_refl _) _ D _ (.deferred none) (by omega) hK rfl rfl), ?_⟩
      rw [HF.out]
  · rw [hbad, if_pos rfl] at HI
    have f0 := R0.frozen
    have f1 := R1.frozen
    have c0 := R0.cell
    have c1 := R1.cell
    have d0 := (R0.set (.slice none 0 0)).other (B' := w.heap.size + 1) (by omega) (.bool false)
    have d1 := (R1.other (B' := w.heap.size) (by omega) (.slice none 0 0)).set (.bool false)
    have e0 := d0.cell
    have e1 := d1.cell
    gi_wp2_with fail
    refine ⟨.tuple #[.slice none 0 0, .bool false], by simp [results, Tryz.results20, go_sem, e0, e1], (QB.setCell (p := ⟨w.heap.size, 0, none⟩) (Nat.le_refl _) _).setCell (p := ⟨w.heap.size + 1, 0, none⟩) (by show w.heap.size ≤ w.heap.size + 1; omega) _, ?_⟩
    rw [HI.out]

end Go.Proofs.YtcjkgmfidkgamaaGreatDoor
namespace Go.Pub
theorem letterN_ways (b : Nat) : (letterN b = true ∧ ((97 ≤ b ∧ b ≤ 122) ∨ (¬ 97 ≤ b ∧ 65 ≤ b ∧ b ≤ 90))) ∨ (letterN b = false ∧ ((97 ≤ b ∧ ¬ b ≤ 122) ∨ (¬ 97 ≤ b ∧ 65 ≤ b ∧ ¬ b ≤ 90) ∨ (¬ 97 ≤ b ∧ ¬ 65 ≤ b))) := by
  cases h : letterN b
  · refine .inr ⟨rfl, ?_⟩; unfold letterN at h; simp at h; omega
  · refine .inl ⟨rfl, ?_⟩; unfold letterN at h; simp at h; omega
end Go.Pub
namespace Go.Proofs.YtcjkgmfidkgamaaGreatDoor
open Go.RowKit Go.Pub
set_option maxRecDepth 100000 in
set_option maxHeartbeats 4000000 in
theorem s_auto (s : ByteArray) (i : Nat) (w : World) (hs : s.size ≤ 1000000) (hi : i < s.size) : Calls Tryz.prog 80 #[.string s, .int .i64 i] w (InPost (autI s i) w) := by
  have HK := Lib.hid fun e h1 h2 h3 h4 => autK_eq s i e h1 h2 h3 h4
  have HE := Lib.hid fun e h1 h2 h3 h4 => toE_eq s (autK s i) (fun b => b == 32 || b == 10 || b == 60 || b == 62) e h1 h2 h3 h4
  have hEd : toE s (autK s i) (fun b => b == 32 || b == 10 || b == 60 || b == 62) = autE s i := rfl
  rw [hEd] at HE
  clear hEd
  obtain ⟨R, hR⟩ : ∃ R, R = autI s i := ⟨_, rfl⟩
  rw [← hR]
  unfold autI at hR
  have HR := Lib.hid hR
  clear hR
  generalize autE s i = E at *
  generalize autK s i = K at *
  go_enter Tryz.func80, Tryz.ntmps80
  go_wp2_with fail
  go_loopw [6] (fun v wr => ∃ k : Nat, v = .int .i64 k ∧ i + 1 ≤ k ∧ k ≤ s.size ∧ Hid (∀ j, i + 1 ≤ j → j < k → letterN (bt s j) = true) ∧ Blk wr w.heap.size 34 zIn ∧ Below w.heap.size w wr) (fun v _ => s.size - (intOf v).toNat)
  case atStart => exact ⟨i + 1, by go_num, Nat.le_refl _, hi, Lib.hid (fun j h1 h2 => by omega), Blk.new w _ _, (Below.refl _ w).alloc (Nat.le_refl _) _⟩
  case round =>
    obtain ⟨k, rfl, hik, hk, HJ, hbl, hbw⟩ := hrel
    have HBl := Lib.hid hbl
    have HBw := Lib.hid hbw
    clear hbl hbw
    obtain ⟨q, hq⟩ : ∃ q, q = (decide (k < s.size) && letterN (bt s k)) := ⟨_, rfl⟩
    have HQ := Lib.hid hq
    clear hq
    go_upto_region 2 with fail
    go_cut [37] from 10 to 39 (fun s37 wx => s37 = .bool q ∧ wr = wx)
    case first =>
      by_cases hl : k < s.size
      · have hg := get_bt s k hl
        have hw := letterN_ways (bt s k)
        have HQ2 : Hid (q = letterN (bt s k)) := Lib.hid (by rw [HQ.out, decide_eq_true hl, Bool.true_and])
        generalize bt s k = b at *
        generalize letterN b = x at *
        rcases hw with ⟨rfl, ⟨a1, a2⟩ | ⟨a1, a2, a3⟩⟩ | ⟨rfl, ⟨a1, a2⟩ | ⟨a1, a2, a3⟩ | ⟨a1, a2⟩⟩
        all_goals
          go_wp2_with fail
          go_meet
          case rel => exact ⟨by rw [HQ2.out] <;> (simp; omega), rfl⟩
      · have HQ2 : Hid (q = false) := Lib.hid (by rw [HQ.out, decide_eq_false hl, Bool.false_and])
        go_wp2_with fail
        go_meet
        case rel => exact ⟨by rw [HQ2.out], rfl⟩
    case rest =>
    obtain ⟨rfl, rfl⟩ := hcut
    cases q
    · have HKk : Hid (K = k) := Lib.hid (HK.out k hik hk HJ.out fun h => by have := HQ.out; rw [decide_eq_true h, Bool.true_and] at this; exact this.symm)
      rw [HKk.out] at HR HE
      clear HK HKk HQ HJ
      obtain ⟨c0, c1, c2, c3, c4, c5, c6, c7, c8, c9, f0, f1, f2, f3, f4, f5, f6, f7, f8, f9⟩ := in_facts HBl.out
      have e1 : (k : Int) - (i : Int) = ((k - i : Nat) : Int) := by omega
      have e2 : ((k - i : Nat) : Int) - 1 = ((k - i - 1 : Nat) : Int) := by omega
      by_cases c : 2 ≤ k - i - 1 ∧ k - i - 1 ≤ 20 ∧ k < s.size ∧ bt s k = 58
      · obtain ⟨x1, x2, x3, x4⟩ := c
        have HR2 : Hid (R = if E < s.size ∧ bt s E = 62 then some ({ kind := 16, dest := s.extract (i + 1) E }, E + 1) else none) := Lib.hid (by
          rw [HR.out]
          by_cases h : E < s.size ∧ bt s E = 62
          · rw [if_pos h, if_pos ⟨x1, x2, x3, x4, h.1, h.2⟩]
          · rw [if_neg h, if_neg fun c => h ⟨c.2.2.2.2.1, c.2.2.2.2.2⟩])
        clear HR
        have hg := get_bt s k x3
        rw [x4] at hg
        clear x4
        go_wp2_with fail
        go_loopw [6] (fun v wr => ∃ m : Nat, v = .int .i64 m ∧ k ≤ m ∧ m ≤ s.size ∧ Hid (∀ j, k ≤ j → j < m → (bt s j == 32 || bt s j == 10 || bt s j == 60 || bt s j == 62) = false) ∧ Blk wr w.heap.size 34 zIn ∧ Below w.heap.size w wr) (fun v _ => s.size - (intOf v).toNat)
        case atStart => exact ⟨k, rfl, Nat.le_refl _, hk, Lib.hid (fun j h1 h2 => by omega), HBl.out, HBw.out⟩
        case round =>
          clear HBl HBw c0 c1 c2 c3 c4 c5 c6 c7 c8 c9 f0 f1 f2 f3 f4 f5 f6 f7 f8 f9 hg
          obtain ⟨m, rfl, hkm, hm, HJ, hbl, hbw⟩ := hrel
          have HBl := Lib.hid hbl
          have HBw := Lib.hid hbw
          clear hbl hbw
          obtain ⟨c0, c1, c2, c3, c4, c5, c6, c7, c8, c9, f0, f1, f2, f3, f4, f5, f6, f7, f8, f9⟩ := in_facts HBl.out
          by_cases hl : m < s.size
          · have hg := get_bt s m hl
            have HX : Hid (∀ b, bt s m = b → (b == 32 || b == 10 || b == 60 || b == 62) = true → E = m) := Lib.hid fun b hb h => HE.out m hkm hm HJ.out fun _ => by rw [hb]; exact h
            have HY : Hid ((bt s m == 32 || bt s m == 10 || bt s m == 60 || bt s m == 62) = false → ∀ j, k ≤ j → j < m + 1 → (bt s j == 32 || bt s j == 10 || bt s j == 60 || bt s j == 62) = false) := Lib.hid fun h j h1 h2 => by
              by_cases e : j = m
              · subst e; exact h
              · exact HJ.out j h1 (by omega)
            have HB : Hid (∀ b, bt s m = b → bt s m = b) := Lib.hid fun _ h => h
            by_cases h62 : bt s m = 62
            · have HF : Hid (R = some ({ kind := 16, dest := s.extract (i + 1) m }, m + 1)) := Lib.hid (by rw [HR2.out, HX.out 62 h62 rfl, if_pos ⟨hl, h62⟩])
              rw [h62] at hg
              have hsl : i + 1 ≤ m := by omega
              clear h62
              go_wp2_with fail
              exact in_ret Tryz.results80 (blk10 HBl.out _ _ _ _ _ _ _ _ _ _) rfl rfl rfl (in_some HF.out rfl rfl (below10 HBw.out (Nat.le_refl _) _ _ _ _ _ _ _ _ _ _) rfl (by omega))
            · by_cases hst : bt s m = 32 ∨ bt s m = 10 ∨ bt s m = 60
              · have HF : Hid (R = none) := Lib.hid (by
                  have hE : E = m := by rcases hst with h | h | h <;> exact HX.out _ h rfl
                  rw [HR2.out, hE, if_neg fun c => h62 c.2])
                clear HX HY HB HR2 h62
                rcases hst with h | h | h
                all_goals
                  rw [h] at hg
                  clear h
                  go_wp2_with fail
                  exact in_ret Tryz.results80 (blk10 HBl.out _ _ _ _ _ _ _ _ _ _) rfl rfl rfl (in_none HF.out (below10 HBw.out (Nat.le_refl _) _ _ _ _ _ _ _ _ _ _))
              · have HN := Lib.hid (HY.out (by
                  have n1 : (bt s m == 32) = false := beq_eq_false_iff_ne.2 fun e => hst (.inl e)
                  have n2 : (bt s m == 10) = false := beq_eq_false_iff_ne.2 fun e => hst (.inr (.inl e))
                  have n3 : (bt s m == 60) = false := beq_eq_false_iff_ne.2 fun e => hst (.inr (.inr e))
                  have n4 : (bt s m == 62) = false := beq_eq_false_iff_ne.2 h62
                  rw [n1, n2, n3, n4]; rfl))
                have n1 : ((bt s m : Int) != 32) = true := bne_iff_ne.2 (by omega)
                have n2 : ((bt s m : Int) != 10) = true := bne_iff_ne.2 (by omega)
                have n3 : ((bt s m : Int) != 60) = true := bne_iff_ne.2 (by omega)
                have n4 : ((bt s m : Int) != 62) = true := bne_iff_ne.2 (by omega)
                clear HX HY HB hst h62
                generalize bt s m = b at *
                go_wp2_with fail
                go_roundw
                case rel => exact ⟨m + 1, by go_num, by omega, by omega, HN, HBl.out, HBw.out⟩
                case measure => simp [intOf]; omega
          · have HF : Hid (R = none) := Lib.hid (by
              have hE : E = m := HE.out m hkm hm HJ.out fun h => absurd h hl
              rw [HR2.out, hE, if_neg fun c => hl c.1])
            go_wp2_with fail
            exact in_ret Tryz.results80 (blk10 HBl.out _ _ _ _ _ _ _ _ _ _) rfl rfl rfl (in_none HF.out (below10 HBw.out (Nat.le_refl _) _ _ _ _ _ _ _ _ _ _))
      · have HF : Hid (R = none) := Lib.hid (by rw [HR.out, if_neg fun h => c ⟨h.1, h.2.1, h.2.2.1, h.2.2.2.1⟩])
        clear HR
        by_cases x1 : 2 ≤ k - i - 1
        · by_cases x2 : k - i - 1 ≤ 20
          · by_cases x3 : k < s.size
            · have hg := get_bt s k x3
              have n1 : ((bt s k : Int) != 58) = true := bne_iff_ne.2 (by omega)
              clear c
              generalize bt s k = b at *
              go_wp2_with fail
              exact in_ret Tryz.results80 (blk10 HBl.out _ _ _ _ _ _ _ _ _ _) rfl rfl rfl (in_none HF.out (below10 HBw.out (Nat.le_refl _) _ _ _ _ _ _ _ _ _ _))
            · clear c
              go_wp2_with fail
              exact in_ret Tryz.results80 (blk10 HBl.out _ _ _ _ _ _ _ _ _ _) rfl rfl rfl (in_none HF.out (below10 HBw.out (Nat.le_refl _) _ _ _ _ _ _ _ _ _ _))
          · clear c
            go_wp2_with fail
            exact in_ret Tryz.results80 (blk10 HBl.out _ _ _ _ _ _ _ _ _ _) rfl rfl rfl (in_none HF.out (below10 HBw.out (Nat.le_refl _) _ _ _ _ _ _ _ _ _ _))
        · clear c
          go_wp2_with fail
          exact in_ret Tryz.results80 (blk10 HBl.out _ _ _ _ _ _ _ _ _ _) rfl rfl rfl (in_none HF.out (below10 HBw.out (Nat.le_refl _) _ _ _ _ _ _ _ _ _ _))
    · have hl : k < s.size ∧ letterN (bt s k) = true := by have := HQ.out; simpa using this.symm
      have HN : Hid (∀ j, i + 1 ≤ j → j < k + 1 → letterN (bt s j) = true) := Lib.hid fun j h1 h2 => by
        by_cases e : j = k
        · subst e; exact hl.2
        · exact HJ.out j h1 (by omega)
      have hl1 := hl.1
      clear hl
      go_wp2_with fail
      go_roundw
      case rel => exact ⟨k + 1, by go_num, by omega, by omega, HN, HBl.out, HBw.out⟩
      case measure => simp [intOf]; omega

end Go.Proofs.YtcjkgmfidkgamaaGreatDoor
namespace Go.Pub
/-- The first byte of a set, from the bytes of a suffix. -/
theorem toE_index (s : ByteArray) (i : Nat) (cs : List UInt8) (p : Nat → Bool) (hp : ∀ b : UInt8, p b.toNat = cs.contains b) (hi : i ≤ s.size) :
    Lib.indexAny (bytesL (s.extract i s.size)) cs = if toE s i p < s.size then ((toE s i p - i : Nat) : Int) else -1 := by
  have hl : (bytesL (s.extract i s.size)).length = s.size - i := by rw [bytesL_length, ByteArray.size_extract]; omega
  rw [index_cnt, hl]
  have e : cntW (fun b => !cs.contains (UInt8.ofNat b)) (bytesL (s.extract i s.size)) = runF s i fun b => !p b := by
    have hx : bytesL (s.extract i s.size) = sfx s i := by
      rw [bytesL_sub]; unfold sub sfx; exact List.take_of_length_le (by rw [List.length_drop, bytesL_length]; omega)
    unfold runF
    rw [hx]
    apply cntW_fn
    intro b _
    show (!cs.contains (UInt8.ofNat b.toNat)) = !p b.toNat
    rw [hp]; simp
  rw [e]
  unfold toE
  have := runF_le s i fun b => !p b
  by_cases h : i + (runF s i fun b => !p b) < s.size
  · rw [if_pos h, if_pos (by omega)]; congr 1; omega
  · rw [if_neg h, if_neg (by omega)]
theorem u8_is (b : UInt8) (c : Nat) (hc : c < 256) : (b.toNat == c) = (b == UInt8.ofNat c) := by
  rw [Bool.eq_iff_iff, beq_iff_eq, beq_iff_eq, ← UInt8.toNat_inj, ofNat_toNat c hc]
theorem dol_set (b : UInt8) : (b.toNat == 36 || b.toNat == 10) = ([36, 10] : List UInt8).contains b := by
  rw [u8_is b 36 (by decide), u8_is b 10 (by decide)]
  show (b == 36 || b == 10) = (b == 36 || (b == 10 || false))
  rw [Bool.or_false]
theorem asc_dol : ∀ b ∈ bytesL (⟨#[36, 10]⟩ : ByteArray), b.toNat < 128 := by
  intro b hb
  have h : b ∈ ([36, 10] : List UInt8) := hb
  rcases List.mem_cons.1 h with rfl | h
  · decide
  · rw [List.mem_singleton.1 h]; decide
end Go.Pub
namespace Go.Proofs.YtcjkgmfidkgamaaGreatDoor
open Go.RowKit Go.Pub
set_option maxRecDepth 100000 in
set_option maxHeartbeats 4000000 in
theorem s_dollars (s : ByteArray) (i : Nat) (w : World) (hs : s.size ≤ 1000000) (hi : i < s.size) : Calls Tryz.prog 78 #[.string s, .int .i64 i] w (InPost (dolI s i) w) := by
  have HI : Hid (∀ W, Calls Tryz.prog 61 #[.string (s.extract (i + 1) s.size), .string ⟨#[36, 10]⟩] W fun e w' => e = .returned (.int .i64 (if dolE s i < s.size then ((dolE s i - (i + 1) : Nat) : Int) else -1)) ∧ Below W.heap.size W w') := Lib.hid fun W => by
    have h := anyX (s.extract (i + 1) s.size) ⟨#[36, 10]⟩ W asc_dol (by decide) (by decide) (by rw [ByteArray.size_extract]; omega)
    rw [show bytesL (⟨#[36, 10]⟩ : ByteArray) = [36, 10] from rfl, toE_index s (i + 1) [36, 10] (fun b => b == 36 || b == 10) dol_set (by omega)] at h
    exact h
  have HD := Lib.hid fun (c : Int) W => digit_any c W
  have HG : Hid (∀ b : Nat, digitB (b : Int) = dgN b) := Lib.hid fun b => by unfold digitB dgN; rw [Bool.eq_iff_iff]; simp; omega
  have HT := Lib.hid (toE_stop s (i + 1) fun b => b == 36 || b == 10)
  have hEd : toE s (i + 1) (fun b => b == 36 || b == 10) = dolE s i := rfl
  have hge := toE_ge s (i + 1) fun b => b == 36 || b == 10
  rw [hEd] at HT hge
  clear hEd
  obtain ⟨R, hR⟩ : ∃ R, R = dolI s i := ⟨_, rfl⟩
  rw [← hR]
  unfold dolI at hR
  have HR := Lib.hid hR
  clear hR
  generalize dolE s i = D at *
  by_cases c1 : D < s.size
  · rw [if_pos c1] at HI
    have hgD := get_bt s D c1
    have HW : bt s D = 36 ∨ bt s D = 10 := by simpa using HT.out c1
    by_cases c2 : D = i + 1
    · have HF : Hid (R = none) := Lib.hid (by rw [HR.out, if_neg fun c => c.2.1 c2])
      have e0 : ((D - (i + 1) : Nat) : Int) = 0 := by omega
      rw [e0] at HI
      clear HR HT c2
      go_enter Tryz.func78, Tryz.ntmps78
      go_wp2_with fail
      ((with_reducible refine (HI.out _).mono ?_))
      rintro e w1 ⟨rfl, b1⟩
      have hbl := (Blk.new w 34 zIn).below b1 (by simp)
      have hbw := ((Below.refl w.heap.size w).alloc (Nat.le_refl _) (.cells zIn 34)).trans (b1.mono (by simp))
      obtain ⟨c0, c1, c2, c3, c4, c5, c6, c7, c8, c9, f0, f1, f2, f3, f4, f5, f6, f7, f8, f9⟩ := in_facts hbl
      go_wp2_with fail
      exact in_ret Tryz.results78 (blk10 hbl _ _ _ _ _ _ _ _ _ _) rfl rfl rfl (in_none HF.out (below10 hbw (Nat.le_refl _) _ _ _ _ _ _ _ _ _ _))
    · have e0 : (i : Int) + 1 + ((D - (i + 1) : Nat) : Int) = (D : Int) := by omega
      have d0 : decide (((D - (i + 1) : Nat) : Int) < 1) = false := decide_eq_false (by omega)
      have hn0 : (0 : Int) ≤ ((D - (i + 1) : Nat) : Int) ∧ ((D - (i + 1) : Nat) : Int) ≤ 1000000 := by omega
      generalize ((D - (i + 1) : Nat) : Int) = nn at *
      have hD1 : (D : Int) - 1 = ((D - 1 : Nat) : Int) := by omega
      have hgi := get_bt s (i + 1) (by omega)
      have hgd := get_bt s (D - 1) (by omega)
      have hi1 : i + 1 < s.size := by omega
      have hd1 : D - 1 < s.size := by omega
      have hsl : i + 1 ≤ D := hge
      have HQ : Hid (R = if bt s D = 36 ∧ bt s (i + 1) ≠ 32 ∧ bt s (D - 1) ≠ 32 ∧ ¬ (D + 1 < s.size ∧ dgN (bt s (D + 1)) = true) then some (spn 5 (s.extract (i + 1) D), D + 1) else none) := Lib.hid (by
        rw [HR.out]
        by_cases h : bt s D = 36 ∧ bt s (i + 1) ≠ 32 ∧ bt s (D - 1) ≠ 32 ∧ ¬ (D + 1 < s.size ∧ dgN (bt s (D + 1)) = true)
        · rw [if_pos h, if_pos ⟨c1, c2, h⟩]
        · rw [if_neg h, if_neg fun c => h c.2.2])
      have hg2 : ∀ h : D + 1 < s.size, ((s[D + 1]'h).toNat : Int) = (bt s (D + 1) : Int) := fun h => by rw [get_bt s (D + 1) h]
      have HG1 := Lib.hid (HG.out (bt s (D + 1)))
      have HD1 := Lib.hid fun W => HD.out (bt s (D + 1) : Int) W
      have hb2 := bt_lt s (D + 1)
      clear HG HD HR HT c2
      generalize bt s (i + 1) = bi at *
      generalize bt s (D - 1) = bd at *
      generalize bt s (D + 1) = b2 at *
      generalize bt s D = bD at *
      generalize dgN b2 = dg at *
      rw [HG1.out] at HD1
      clear HG1
      go_enter Tryz.func78, Tryz.ntmps78
      go_wp2_with fail
      ((with_reducible refine (HI.out _).mono ?_))
      rintro e w1 ⟨rfl, b1⟩
      have hbl := (Blk.new w 34 zIn).below b1 (by simp)
      have hbw := ((Below.refl w.heap.size w).alloc (Nat.le_refl _) (.cells zIn 34)).trans (b1.mono (by simp))
      have HBl := Lib.hid hbl
      have HBw := Lib.hid hbw
      obtain ⟨c0, c1', c2, c3, c4, c5, c6, c7, c8, c9, f0, f1, f2, f3, f4, f5, f6, f7, f8, f9⟩ := in_facts hbl
      clear hbl hbw b1 HI
      rcases HW with rfl | rfl
      · by_cases x1 : bi = 32
        · have HF : Hid (R = none) := Lib.hid (by rw [HQ.out, if_neg fun c => c.2.1 x1])
          subst x1
          clear HQ
          go_wp2_with fail
          exact in_ret Tryz.results78 (blk10 HBl.out _ _ _ _ _ _ _ _ _ _) rfl rfl rfl (in_none HF.out (below10 HBw.out (Nat.le_refl _) _ _ _ _ _ _ _ _ _ _))
        · have z1 : ((bi : Int) == 32) = false := beq_eq_false_iff_ne.2 (by omega)
          by_cases x2 : bd = 32
          · have HF : Hid (R = none) := Lib.hid (by rw [HQ.out, if_neg fun c => c.2.2.1 x2])
            subst x2
            clear HQ x1
            go_wp2_with fail
            exact in_ret Tryz.results78 (blk10 HBl.out _ _ _ _ _ _ _ _ _ _) rfl rfl rfl (in_none HF.out (below10 HBw.out (Nat.le_refl _) _ _ _ _ _ _ _ _ _ _))
          · have z2 : ((bd : Int) == 32) = false := beq_eq_false_iff_ne.2 (by omega)
            by_cases x3 : D + 1 < s.size
            · have hg3 := hg2 x3
              cases dg
              · have HF : Hid (R = some (spn 5 (s.extract (i + 1) D), D + 1)) := Lib.hid (by rw [HQ.out, if_pos ⟨rfl, x1, x2, fun c => by cases c.2⟩])
                clear HQ x1 x2
                go_wp2_with fail
                ((with_reducible refine (HD1.out _).mono ?_))
                rintro e w2 ⟨rfl, rfl⟩
                go_wp2_with fail
                exact in_ret Tryz.results78 (blk10 HBl.out _ _ _ _ _ _ _ _ _ _) rfl rfl rfl (in_some HF.out rfl rfl (below10 HBw.out (Nat.le_refl _) _ _ _ _ _ _ _ _ _ _) rfl (by omega))
              · have HF : Hid (R = none) := Lib.hid (by rw [HQ.out, if_neg fun c => c.2.2.2 ⟨x3, rfl⟩])
                clear HQ x1 x2
                go_wp2_with fail
                ((with_reducible refine (HD1.out _).mono ?_))
                rintro e w2 ⟨rfl, rfl⟩
                go_wp2_with fail
                exact in_ret Tryz.results78 (blk10 HBl.out _ _ _ _ _ _ _ _ _ _) rfl rfl rfl (in_none HF.out (below10 HBw.out (Nat.le_refl _) _ _ _ _ _ _ _ _ _ _))
            · have HF : Hid (R = some (spn 5 (s.extract (i + 1) D), D + 1)) := Lib.hid (by rw [HQ.out, if_pos ⟨rfl, x1, x2, fun c => x3 c.1⟩])
              clear HQ x1 x2
              go_wp2_with fail
              exact in_ret Tryz.results78 (blk10 HBl.out _ _ _ _ _ _ _ _ _ _) rfl rfl rfl (in_some HF.out rfl rfl (below10 HBw.out (Nat.le_refl _) _ _ _ _ _ _ _ _ _ _) rfl (by omega))
      · have HF : Hid (R = none) := Lib.hid (by rw [HQ.out, if_neg fun c => by cases c.1])
        clear HQ
        go_wp2_with fail
        exact in_ret Tryz.results78 (blk10 HBl.out _ _ _ _ _ _ _ _ _ _) rfl rfl rfl (in_none HF.out (below10 HBw.out (Nat.le_refl _) _ _ _ _ _ _ _ _ _ _))
  · rw [if_neg c1] at HI
    have HF : Hid (R = none) := Lib.hid (by rw [HR.out, if_neg fun c => c1 c.1])
    clear HR HT
    go_enter Tryz.func78, Tryz.ntmps78
    go_wp2_with fail
    ((with_reducible refine (HI.out _).mono ?_))
    rintro e w1 ⟨rfl, b1⟩
    have hbl := (Blk.new w 34 zIn).below b1 (by simp)
    have hbw := ((Below.refl w.heap.size w).alloc (Nat.le_refl _) (.cells zIn 34)).trans (b1.mono (by simp))
    obtain ⟨c0, c1, c2, c3, c4, c5, c6, c7, c8, c9, f0, f1, f2, f3, f4, f5, f6, f7, f8, f9⟩ := in_facts hbl
    go_wp2_with fail
    exact in_ret Tryz.results78 (blk10 hbl _ _ _ _ _ _ _ _ _ _) rfl rfl rfl (in_none HF.out (below10 hbw (Nat.le_refl _) _ _ _ _ _ _ _ _ _ _))

end Go.Proofs.YtcjkgmfidkgamaaGreatDoor
namespace Go.Pub
theorem brk_set (b : UInt8) : (b.toNat == 91 || b.toNat == 93) = ([91, 93] : List UInt8).contains b := by
  rw [u8_is b 91 (by decide), u8_is b 93 (by decide)]
  show (b == 91 || b == 93) = (b == 91 || (b == 93 || false))
  rw [Bool.or_false]
theorem asc_brk : ∀ b ∈ bytesL (⟨#[91, 93]⟩ : ByteArray), b.toNat < 128 := by
  intro b hb
  have h : b ∈ ([91, 93] : List UInt8) := hb
  rcases List.mem_cons.1 h with rfl | h
  · decide
  · rw [List.mem_singleton.1 h]; decide
end Go.Pub
namespace Go.Proofs.YtcjkgmfidkgamaaGreatDoor
open Go.RowKit Go.Pub
theorem heap10 (W : World) (g k : Nat) (h : k ≠ g) (y0 y1 y2 y3 y4 y5 y6 y7 y8 y9 : Value) : ((((((((((W.setCell ⟨g, 0, none⟩ y0).setCell ⟨g, 1, none⟩ y1).setCell ⟨g, 2, none⟩ y2).setCell ⟨g, 3, none⟩ y3).setCell ⟨g, 4, none⟩ y4).setCell ⟨g, 5, none⟩ y5).setCell ⟨g, 6, none⟩ y6).setCell ⟨g, 7, none⟩ y7).setCell ⟨g, 8, none⟩ y8).setCell ⟨g, 9, none⟩ y9).heap[k]? = W.heap[k]? := by
  have e : ∀ (V : World) (q : Nat) (y : Value), (V.setCell ⟨g, q, none⟩ y).heap[k]? = V.heap[k]? := fun V q y => Below.heap_setCell V ⟨g, q, none⟩ y k h
  rw [e, e, e, e, e, e, e, e, e, e]
theorem size10 (W : World) (g : Nat) (y0 y1 y2 y3 y4 y5 y6 y7 y8 y9 : Value) : ((((((((((W.setCell ⟨g, 0, none⟩ y0).setCell ⟨g, 1, none⟩ y1).setCell ⟨g, 2, none⟩ y2).setCell ⟨g, 3, none⟩ y3).setCell ⟨g, 4, none⟩ y4).setCell ⟨g, 5, none⟩ y5).setCell ⟨g, 6, none⟩ y6).setCell ⟨g, 7, none⟩ y7).setCell ⟨g, 8, none⟩ y8).setCell ⟨g, 9, none⟩ y9).heap.size = W.heap.size := by
  simp [World.setCell]
theorem in_cites {R : Option (InL × Nat)} {w W : World} {cs : List CitL} {A : Option Addr} {c k : Nat} {B : Nat} (hR : R = some ({ kind := 13, cites := cs }, k)) (hb : Below w.heap.size w W) (hB : w.heap.size < B) (hr : ReadsS W (Rg B W) 4 A cs.length (citCs cs)) (y0 y1 y2 y3 y4 y5 y6 y7 y8 y9 : Value) {n : Int} (hn : n = k) :
    InPost R w (.returned (.tuple #[.agg #[.int .i64 13, .string ⟨#[]⟩, .string ⟨#[]⟩, .string ⟨#[]⟩, .string ⟨#[]⟩, .slice none 0 0, .slice none 0 0, .slice none 0 0, .slice A cs.length c, .slice none 0 0], .int .i64 n])) ((((((((((W.setCell ⟨w.heap.size, 0, none⟩ y0).setCell ⟨w.heap.size, 1, none⟩ y1).setCell ⟨w.heap.size, 2, none⟩ y2).setCell ⟨w.heap.size, 3, none⟩ y3).setCell ⟨w.heap.size, 4, none⟩ y4).setCell ⟨w.heap.size, 5, none⟩ y5).setCell ⟨w.heap.size, 6, none⟩ y6).setCell ⟨w.heap.size, 7, none⟩ y7).setCell ⟨w.heap.size, 8, none⟩ y8).setCell ⟨w.heap.size, 9, none⟩ y9) := by
  subst hR; subst hn
  refine ⟨below10 hb (Nat.le_refl _) _ _ _ _ _ _ _ _ _ _, none, 0, A, c, rfl, ReadsS.none_, ?_⟩
  exact hr.keep (fun g hg => heap10 W _ g (by have := hg.1; omega) _ _ _ _ _ _ _ _ _ _) fun g hg => ⟨by have := hg.1; omega, by rw [size10]; exact hg.2⟩
set_option maxRecDepth 100000 in
set_option maxHeartbeats 4000000 in
theorem s_cite (s : ByteArray) (i : Nat) (w : World) (hs : s.size ≤ 1000000) (hi : i < s.size) : Calls Tryz.prog 83 #[.string s, .int .i64 i] w (InPost (citI s i) w) := by
  have HI : Hid (∀ W, Calls Tryz.prog 61 #[.string (s.extract (i + 1) s.size), .string ⟨#[91, 93]⟩] W fun e w' => e = .returned (.int .i64 (if citE s i < s.size then ((citE s i - (i + 1) : Nat) : Int) else -1)) ∧ Below W.heap.size W w') := Lib.hid fun W => by
    have h := anyX (s.extract (i + 1) s.size) ⟨#[91, 93]⟩ W asc_brk (by decide) (by decide) (by rw [ByteArray.size_extract]; omega)
    rw [show bytesL (⟨#[91, 93]⟩ : ByteArray) = [91, 93] from rfl, toE_index s (i + 1) [91, 93] (fun b => b == 91 || b == 93) brk_set (by omega)] at h
    exact h
  have HT := Lib.hid (toE_stop s (i + 1) fun b => b == 91 || b == 93)
  have hEd : toE s (i + 1) (fun b => b == 91 || b == 93) = citE s i := rfl
  have hge := toE_ge s (i + 1) fun b => b == 91 || b == 93
  rw [hEd] at HT hge
  clear hEd
  obtain ⟨R, hR⟩ : ∃ R, R = citI s i := ⟨_, rfl⟩
  rw [← hR]
  unfold citI at hR
  have HR := Lib.hid hR
  clear hR
  generalize citE s i = D at *
  by_cases c1 : D < s.size
  · rw [if_pos c1] at HI
    have hgD := get_bt s D c1
    have HW : bt s D = 91 ∨ bt s D = 93 := by simpa using HT.out c1
    have HC := Lib.hid fun W => s_Cites (s.extract (i + 1) D) W (by rw [ByteArray.size_extract]; omega)
    have HQ : Hid (R = if bt s D = 93 then (citesI (s.extract (i + 1) D)).map (fun cs => ({ kind := 13, cites := cs }, D + 1)) else none) := Lib.hid (by
      rw [HR.out]
      by_cases h : bt s D = 93
      · rw [if_pos h, if_pos ⟨c1, h⟩]
      · rw [if_neg h, if_neg fun c => h c.2])
    have e0 : (i : Int) + 1 + ((D - (i + 1) : Nat) : Int) = (D : Int) := by omega
    have hn0 : (0 : Int) ≤ ((D - (i + 1) : Nat) : Int) ∧ ((D - (i + 1) : Nat) : Int) ≤ 1000000 := by omega
    have e3 : (i : Int) + ((D - (i + 1) : Nat) : Int) = (D : Int) - 1 := by omega
    have hsl : i + 1 ≤ D := hge
    generalize ((D - (i + 1) : Nat) : Int) = nn at *
    generalize citesI (s.extract (i + 1) D) = C at *
    clear HR HT hge
    generalize bt s D = bD at *
    go_enter Tryz.func83, Tryz.ntmps83
    go_wp2_with fail
    ((with_reducible refine (HI.out _).mono ?_))
    rintro e w1 ⟨rfl, b1⟩
    have hbl := (Blk.new w 34 zIn).below b1 (by simp)
    have hbw := ((Below.refl w.heap.size w).alloc (Nat.le_refl _) (.cells zIn 34)).trans (b1.mono (by simp))
    have HBl := Lib.hid hbl
    have HBw := Lib.hid hbw
    have hz1 := hbl.lt
    rcases HW with rfl | rfl
    · have HF : Hid (R = none) := Lib.hid (by rw [HQ.out, if_neg (by decide)])
      obtain ⟨c0, c1', c2, c3, c4, c5, c6, c7, c8, c9, f0, f1, f2, f3, f4, f5, f6, f7, f8, f9⟩ := in_facts hbl
      clear HQ HC hbl hbw b1
      go_wp2_with fail
      exact in_ret Tryz.results83 (blk10 HBl.out _ _ _ _ _ _ _ _ _ _) rfl rfl rfl (in_none HF.out (below10 HBw.out (Nat.le_refl _) _ _ _ _ _ _ _ _ _ _))
    · have HQ2 := Lib.hid (HQ.out.trans (if_pos rfl))
      clear HQ hbl hbw b1
      go_wp2_with fail
      ((with_reducible refine (HC.out _).mono ?_))
      rintro e w2 ⟨b2, hp⟩
      have hb2 := Lib.hid (HBl.out.below b2 hz1)
      have hw2 := Lib.hid (HBw.out.trans (b2.mono (by omega)))
      obtain ⟨c0, c1', c2, c3, c4, c5, c6, c7, c8, c9, f0, f1, f2, f3, f4, f5, f6, f7, f8, f9⟩ := in_facts hb2.out
      clear b2 HBl HBw HC
      cases C with
      | none =>
        have HF : Hid (R = none) := Lib.hid HQ2.out
        obtain rfl := hp
        clear HQ2
        go_wp2_with fail
        exact in_ret Tryz.results83 (blk10 hb2.out _ _ _ _ _ _ _ _ _ _) rfl rfl rfl (in_none HF.out (below10 hw2.out (Nat.le_refl _) _ _ _ _ _ _ _ _ _ _))
      | some cs =>
        have HF : Hid (R = some ({ kind := 13, cites := cs }, D + 1)) := Lib.hid HQ2.out
        obtain ⟨A, c, rfl, hrd⟩ := hp
        have HRd := Lib.hid hrd
        clear HQ2 hrd
        go_wp2_with fail
        exact in_ret Tryz.results83 (blk10 hb2.out _ _ _ _ _ _ _ _ _ _) rfl rfl rfl (in_cites HF.out hw2.out hz1 HRd.out _ _ _ _ _ _ _ _ _ _ (by omega))
  · rw [if_neg c1] at HI
    have HF : Hid (R = none) := Lib.hid (by rw [HR.out, if_neg fun c => c1 c.1])
    clear HR HT
    go_enter Tryz.func83, Tryz.ntmps83
    go_wp2_with fail
    ((with_reducible refine (HI.out _).mono ?_))
    rintro e w1 ⟨rfl, b1⟩
    have hbl := (Blk.new w 34 zIn).below b1 (by simp)
    have hbw := ((Below.refl w.heap.size w).alloc (Nat.le_refl _) (.cells zIn 34)).trans (b1.mono (by simp))
    obtain ⟨c0, c1, c2, c3, c4, c5, c6, c7, c8, c9, f0, f1, f2, f3, f4, f5, f6, f7, f8, f9⟩ := in_facts hbl
    go_wp2_with fail
    exact in_ret Tryz.results83 (blk10 hbl _ _ _ _ _ _ _ _ _ _) rfl rfl rfl (in_none HF.out (below10 hbw (Nat.le_refl _) _ _ _ _ _ _ _ _ _ _))

end Go.Proofs.YtcjkgmfidkgamaaGreatDoor
