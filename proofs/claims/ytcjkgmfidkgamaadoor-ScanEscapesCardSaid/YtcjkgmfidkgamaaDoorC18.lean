/-
  Texts of the proof, put together (what this law reaches): ScRC, ScAS, Row, RowS, ScAT.
-/
import Derived.Test.YtcjkgmfidkgamaaDoorC07
import Derived.Test.YtcjkgmfidkgamaaDoorC03
import Derived.Deep.DeepCutAuto
import Derived.Test.YtcjkgmfidkgamaaDoorC17
import Derived.Below
import Derived.ChangeSame
import Derived.ProofKit
import Derived.Handed
import Derived.HandedShaped
import Derived.Test.YtcjkgmfidkgamaaDoorC15
import Derived.Test.YtcjkgmfidkgamaaDoorC01
set_option linter.unusedVariables false
set_option linter.unusedSimpArgs false
namespace Go.Proofs.YtcjkgmfidkgamaaDoor
open Go.RowKit Go.Pub
set_option maxRecDepth 100000 in
set_option maxHeartbeats 4000000 in
theorem r9_flank (ch : ByteArray) (b a : Int) (w : World) : Calls Tryd.prog 11 #[.string ch, .int .i64 b, .int .i64 a] w fun e w' => e = .returned (.tuple #[.bool (flankL ch b a).1, .bool (flankL ch b a).2]) ∧ Below w.heap.size w w' := by
  have HSb := Lib.hid fun W => rSpace_any b W
  have HSa := Lib.hid fun W => rSpace_any a W
  have HPb := Lib.hid fun W => rPunct_any b W
  have HPa := Lib.hid fun W => rPunct_any a W
  have HF : Hid (flankL ch b a = (
    let sb := decide (b < 0) || spaceB b
    let sa := decide (a < 0) || spaceB a
    let l := !sa && (!inB a punctL || sb || inB b punctL)
    let r := !sb && (!inB b punctL || sa || inB a punctL)
    if ch.toList = [42] ∨ ch.toList = [126] then (l, r)
    else if ch.toList = [95] then (l && (!r || inB b punctL), r && (!l || inB a punctL))
    else (false, false))) := Lib.hid rfl
  generalize flankL ch b a = F at *
  generalize inB b punctL = pb at *
  generalize inB a punctL = pa at *
  obtain ⟨sb, hsb⟩ : ∃ q, q = (decide (b < 0) || spaceB b) := ⟨_, rfl⟩
  obtain ⟨sa, hsa⟩ : ∃ q, q = (decide (a < 0) || spaceB a) := ⟨_, rfl⟩
  rw [← hsb, ← hsa] at HF
  have HSB := Lib.hid hsb
  have HSA := Lib.hid hsa
  clear hsb hsa
  generalize spaceB b = tb at *
  generalize spaceB a = ta at *
  go_enter Tryd.func11, Tryd.ntmps11
  go_upto_region 1 with fail
  go_cut [8, 9] (fun s8 s9 wx => s8 = .bool sb ∧ s9 = .bool sa ∧ w = wx)
  case first =>
    by_cases h1 : b < 0
    · by_cases h2 : a < 0
      · have X1 : Hid (sb = true) := Lib.hid (by rw [HSB.out, decide_eq_true h1]; rfl)
        have X2 : Hid (sa = true) := Lib.hid (by rw [HSA.out, decide_eq_true h2]; rfl)
        clear HSB HSA
        go_wp2_with (go_at_call 18; (first | with_reducible refine (HSa.out _).mono ?_ | with_reducible refine (HSb.out _).mono ?_); rintro e w1 ⟨rfl, rfl⟩)
        go_meet
        case rel => exact ⟨by rw [X1.out]; try simp [show decide (b < 0) = false from decide_eq_false (by omega)], by rw [X2.out]; try simp [show decide (a < 0) = false from decide_eq_false (by omega)], rfl⟩
      · have X1 : Hid (sb = true) := Lib.hid (by rw [HSB.out, decide_eq_true h1]; rfl)
        have X2 : Hid (sa = ta) := Lib.hid (by rw [HSA.out, decide_eq_false h2]; rfl)
        clear HSB HSA
        go_wp2_with (go_at_call 18; (first | with_reducible refine (HSa.out _).mono ?_ | with_reducible refine (HSb.out _).mono ?_); rintro e w1 ⟨rfl, rfl⟩)
        go_meet
        case rel => exact ⟨by rw [X1.out]; try simp [show decide (b < 0) = false from decide_eq_false (by omega)], by rw [X2.out]; try simp [show decide (a < 0) = false from decide_eq_false (by omega)], rfl⟩
    · by_cases h2 : a < 0
      · have X1 : Hid (sb = tb) := Lib.hid (by rw [HSB.out, decide_eq_false h1]; rfl)
        have X2 : Hid (sa = true) := Lib.hid (by rw [HSA.out, decide_eq_true h2]; rfl)
        clear HSB HSA
        go_wp2_with (go_at_call 18; (first | with_reducible refine (HSa.out _).mono ?_ | with_reducible refine (HSb.out _).mono ?_); rintro e w1 ⟨rfl, rfl⟩)
        go_meet
        case rel => exact ⟨by rw [X1.out]; try simp [show decide (b < 0) = false from decide_eq_false (by omega)], by rw [X2.out]; try simp [show decide (a < 0) = false from decide_eq_false (by omega)], rfl⟩
      · have X1 : Hid (sb = tb) := Lib.hid (by rw [HSB.out, decide_eq_false h1]; rfl)
        have X2 : Hid (sa = ta) := Lib.hid (by rw [HSA.out, decide_eq_false h2]; rfl)
        clear HSB HSA
        go_wp2_with (go_at_call 18; (first | with_reducible refine (HSa.out _).mono ?_ | with_reducible refine (HSb.out _).mono ?_); rintro e w1 ⟨rfl, rfl⟩)
        go_meet
        case rel => exact ⟨by rw [X1.out]; try simp [show decide (b < 0) = false from decide_eq_false (by omega)], by rw [X2.out]; try simp [show decide (a < 0) = false from decide_eq_false (by omega)], rfl⟩
  case rest =>
  obtain ⟨rfl, rfl, rfl⟩ := hcut
  clear HSB HSA HSb HSa
  obtain ⟨l, hl⟩ : ∃ q, q = (!sa && (!pa || sb || pb)) := ⟨_, rfl⟩
  obtain ⟨r, hr⟩ : ∃ q, q = (!sb && (!pb || sa || pa)) := ⟨_, rfl⟩
  simp only [← hl, ← hr] at HF
  have HBW : Hid (Below w.heap.size w w) := Lib.hid (Below.refl _ _)
  go_upto_region 2 with fail
  go_cut [10] (fun s10 wx => s10 = .bool l ∧ Below w.heap.size w wx)
  case first =>
    clear hr HF
    cases sb <;> cases sa <;> cases pb <;> cases pa <;> simp at hl <;> subst hl
    all_goals
      go_wp2_with (go_at_call 9; (first | with_reducible refine (HPa.out _).mono ?_ | with_reducible refine (HPb.out _).mono ?_); rintro e w1 ⟨rfl, b1⟩; replace HBW := Lib.hid (HBW.out.trans (b1.mono HBW.out.size)); clear b1)
      go_meet
      case rel => exact ⟨rfl, HBW.out⟩
  case rest =>
  obtain ⟨rfl, hb3⟩ := hcut
  replace HBW := Lib.hid hb3
  clear hl hb3
  go_upto_region 3 with fail
  go_cut [11] (fun s11 wx => s11 = .bool r ∧ Below w.heap.size w wx)
  case first =>
    clear HF
    cases sb <;> cases sa <;> cases pb <;> cases pa <;> simp at hr <;> subst hr
    all_goals
      go_wp2_with (go_at_call 9; (first | with_reducible refine (HPa.out _).mono ?_ | with_reducible refine (HPb.out _).mono ?_); rintro e w1 ⟨rfl, b1⟩; replace HBW := Lib.hid (HBW.out.trans (b1.mono HBW.out.size)); clear b1)
      go_meet
      case rel => exact ⟨rfl, HBW.out⟩
  case rest =>
      obtain ⟨rfl, hb4⟩ := hcut
      replace HBW := Lib.hid hb4
      clear hr hb4
      by_cases c1 : ch.toList = [42]
      · have HG : Hid (F = (l, r)) := Lib.hid (by rw [HF.out, if_pos (.inl c1)])
        have z1 : (ch.toList == ([42] : List UInt8)) = true := beq_iff_eq.2 c1
        clear c1 HF
        go_wp2_with fail
        go_ret2
        exact ⟨by rw [HG.out]; rfl, HBW.out⟩
      · have z1 : (ch.toList == ([42] : List UInt8)) = false := beq_eq_false_iff_ne.2 c1
        by_cases c2 : ch.toList = [126]
        · have HG : Hid (F = (l, r)) := Lib.hid (by rw [HF.out, if_pos (.inr c2)])
          have z2 : (ch.toList == ([126] : List UInt8)) = true := beq_iff_eq.2 c2
          clear c1 c2 HF
          go_wp2_with fail
          go_ret2
          exact ⟨by rw [HG.out]; rfl, HBW.out⟩
        · have z2 : (ch.toList == ([126] : List UInt8)) = false := beq_eq_false_iff_ne.2 c2
          by_cases c3 : ch.toList = [95]
          · have HG : Hid (F = (l && (!r || pb), r && (!l || pa))) := Lib.hid (by rw [HF.out, if_neg (by simp [c1, c2]), if_pos c3])
            have z3 : (ch.toList == ([95] : List UInt8)) = true := beq_iff_eq.2 c3
            clear c1 c2 c3 HF
            cases l <;> cases r
            all_goals
              go_wp2_with (go_at_call 9; (first | with_reducible refine (HPa.out _).mono ?_ | with_reducible refine (HPb.out _).mono ?_); rintro e w1 ⟨rfl, b1⟩; replace HBW := Lib.hid (HBW.out.trans (b1.mono HBW.out.size)); clear b1)
              go_ret2
              exact ⟨by rw [HG.out]; simp, HBW.out⟩
          · have HG : Hid (F = (false, false)) := Lib.hid (by rw [HF.out, if_neg (by simp [c1, c2]), if_neg c3])
            have z3 : (ch.toList == ([95] : List UInt8)) = false := beq_eq_false_iff_ne.2 c3
            clear c1 c2 c3 HF
            go_wp2_with fail
            go_ret2
            exact ⟨by rw [HG.out]; rfl, HBW.out⟩

end Go.Proofs.YtcjkgmfidkgamaaDoor
namespace Go.Pub
theorem flank_swap (a b : Int) : flankL ⟨#[42]⟩ a b = ((flankL ⟨#[42]⟩ b a).2, (flankL ⟨#[42]⟩ b a).1) := by
  have h : (⟨#[42]⟩ : ByteArray).toList = [42] := by decide +kernel
  unfold flankL
  rw [if_pos (.inl h), if_pos (.inl h)]
/-- Where the piece k begins. -/
def begP (ps : List PcL) : Nat → Nat
  | 0 => 0
  | k + 1 => match ps[k]? with | some p => p.nd | none => 0
theorem covP_at : ∀ (ps : List PcL) (a b : Nat), covP ps a b → ∀ (k : Nat) (hk : k < ps.length), (ps[k].bg = if k = 0 then a else begP ps k) ∧ ps[k].bg < ps[k].nd
  | [], _, _, _, k, hk => absurd hk (by simp)
  | p :: ps, a, b, h, 0, _ => ⟨h.1, by have := h.1; have := h.2.1; show p.bg < p.nd; omega⟩
  | p :: ps, a, b, h, k + 1, hk => by
    obtain ⟨h1, h2⟩ := covP_at ps p.nd b h.2.2 k (by simpa using hk)
    have hk' : k < ps.length := by simpa using hk
    refine ⟨?_, h2⟩
    show (ps[k]'hk').bg = _
    rw [if_neg (by omega), h1]
    cases k with
    | zero => rfl
    | succ k => rfl
theorem covP_end : ∀ (ps : List PcL) (a b : Nat), covP ps a b → b = if ps.length = 0 then a else begP ps ps.length
  | [], a, b, h => by have h : a = b := h; simp [h]
  | p :: ps, a, b, h => by
    have h1 := covP_end ps p.nd b h.2.2
    rw [if_neg (by simp)]
    cases ps with
    | nil => exact h1
    | cons q ps => rw [if_neg (by simp)] at h1; exact h1
theorem begP_succ {ps : List PcL} {k : Nat} (hk : k < ps.length) : begP ps (k + 1) = ps[k].nd := by
  show (match ps[k]? with | some p => p.nd | none => 0) = _
  rw [List.getElem?_eq_getElem hk]
end Go.Pub
namespace Go.Proofs.YtcjkgmfidkgamaaDoor
open Go.RowKit Go.Pub
theorem r4_small (s : ByteArray) (w : World) : Calls Tryd.prog 6 #[.string s] w fun e w' => e = .returned (.bool (decide (s.size ≤ 800))) ∧ w = w' := by
  go_enter Tryd.func6, Tryd.ntmps6
  go_wp2_with fail
  go_ret
  exact ⟨ret_bool (by rw [Bool.eq_iff_iff]; simp; omega), rfl⟩
set_option maxRecDepth 100000 in
set_option maxHeartbeats 4000000 in
theorem law9_flanks (c : ByteArray) (b a : Int) (m : Int) (w : World) (hm : w.cell? ⟨0, 0, none⟩ = some (.int .i64 m)) : Calls Tryd.prog 5 #[.string c, .int .i64 b, .int .i64 a] w fun e w' => e = .returned (.bool true) ∧ Below w.heap.size w w' := by
  have h0 := World.block_lt_of_cell? _ _ hm
  have HA : Hid (∀ W : World, Below w.heap.size w W → Calls Tryd.prog 7 #[] W fun e w' => e = .returned (.bool true) ∧ Below W.heap.size W w') := Lib.hid fun W hb => l9_awake m W ((hb.cell (p := ⟨0, 0, none⟩) h0).trans hm)
  have H1 := Lib.hid fun W => s_flank c b a W
  have H2 := Lib.hid fun W => r9_flank c b a W
  have H3 := Lib.hid fun W => s_flank ⟨#[42]⟩ a b W
  have H4 := Lib.hid fun W => s_flank ⟨#[42]⟩ b a W
  rw [flank_swap a b] at H3
  generalize flankL c b a = F at *
  generalize flankL ⟨#[42]⟩ b a = G at *
  obtain ⟨x, y⟩ := F
  obtain ⟨p, q⟩ := G
  simp only [] at H1 H2 H3 H4
  have ex : (x == x) = true := by cases x <;> rfl
  have ey : (y == y) = true := by cases y <;> rfl
  have ep : (p == p) = true := by cases p <;> rfl
  have eq : (q == q) = true := by cases q <;> rfl
  clear hm h0
  go_enter Tryd.func5, Tryd.ntmps5
  go_wp2_with fail
  ((with_reducible refine (H1.out _).mono ?_))
  rintro e w1 ⟨rfl, rfl⟩
  go_wp2_with fail
  ((with_reducible refine (H2.out _).mono ?_))
  rintro e w1 ⟨rfl, b1⟩
  have HB1 := Lib.hid b1
  clear b1
  go_wp2_with fail
  ((with_reducible refine (H3.out _).mono ?_))
  rintro e w2 ⟨rfl, rfl⟩
  go_wp2_with fail
  ((with_reducible refine (H4.out _).mono ?_))
  rintro e w2 ⟨rfl, rfl⟩
  go_wp2_with fail
  ((with_reducible refine (HA.out _ HB1.out).mono ?_))
  rintro e w3 ⟨rfl, b3⟩
  go_wp2_with fail
  go_ret
  exact ⟨rfl, HB1.out.trans (b3.mono HB1.out.size)⟩

set_option maxRecDepth 100000 in
set_option maxHeartbeats 4000000 in
theorem law9_covers (s : ByteArray) (hz : s.size ≤ 9223372036854775807) (m : Int) (w : World) (hm : w.cell? ⟨0, 0, none⟩ = some (.int .i64 m)) : Calls Tryd.prog 3 #[.string s] w fun e w' => e = .returned (.bool true) ∧ Below w.heap.size w w' := by
  have h0 := World.block_lt_of_cell? _ _ hm
  have HA : Hid (∀ W : World, Below w.heap.size w W → Calls Tryd.prog 7 #[] W fun e w' => e = .returned (.bool true) ∧ Below W.heap.size W w') := Lib.hid fun W hb => l9_awake m W ((hb.cell (p := ⟨0, 0, none⟩) h0).trans hm)
  have HT := Lib.hid fun W => r4_small s W
  by_cases h8 : s.size ≤ 800
  · rw [decide_eq_true h8] at HT
    have HS := Lib.hid (s_Scan s m w (by omega) hm)
    have hcov := scanP_cov s
    have hat := Lib.hid (covP_at _ _ _ hcov)
    have hend := covP_end _ _ _ hcov
    unfold ScanPost at HS
    generalize scanP s = ps at *
    have hend2 : Hid ((begP ps ps.length : Nat) = s.size) := Lib.hid (by
      rw [hend]
      cases ps with
      | nil => rfl
      | cons p ps => rw [if_neg (by simp)])
    have hlen : ps.length ≤ s.size := by
      have : ∀ (ps : List PcL) (a b : Nat), covP ps a b → ps.length + a ≤ b := by
        intro ps
        induction ps with
        | nil => intro a b h; have h : a = b := h; simp [h]
        | cons p ps ih => intro a b h; have := ih _ _ h.2.2; have := h.2.1; simp; omega
      have := this ps 0 s.size hcov
      omega
    clear hcov hend hm h0
    go_enter Tryd.func3, Tryd.ntmps3
    go_wp2_with fail
    ((with_reducible refine (HT.out _).mono ?_))
    rintro e w1 ⟨rfl, rfl⟩
    go_wp2_with fail
    ((with_reducible refine (HS.out).mono ?_))
    rintro e w1 ⟨b1, v, rfl, ho⟩
    obtain ⟨A, c, rfl⟩ := ho.shape
    have HO := Lib.hid ho
    have HB1 := Lib.hid b1
    clear ho b1 HS HT
    go_wp2_with fail
    go_loopw [4, 5] (fun v4 v5 wr => ∃ i : Nat, v5 = .int .i64 i ∧ v4 = .int .i64 (begP ps i) ∧ i ≤ ps.length ∧ wr = w1) (fun _ v5 _ => ps.length - (intOf v5).toNat)
    case atStart => exact ⟨0, rfl, rfl, Nat.zero_le _, rfl⟩
    case round =>
      obtain ⟨i, rfl, rfl, hi, rfl⟩ := hrel
      by_cases hl : i < ps.length
      · obtain ⟨g, rfl, _, _, _, hp⟩ := HO.out.look (by omega)
        obtain ⟨ka, kb⟩ := hat.out i hl
        have kc : ps[i].bg = begP ps i := by
          rw [ka]
          by_cases h0 : i = 0
          · rw [if_pos h0, h0]; rfl
          · rw [if_neg h0]
        have kd := begP_succ hl
        have c16 := (hp i hl).bg
        have c17 := (hp i hl).nd
        rw [kc] at c16 kb
        rw [← kd] at c17 kb
        have hbe : ((begP ps i : Nat) : Int) < (begP ps (i + 1) : Nat) := by omega
        clear hp ka kc kd kb HA
        generalize begP ps i = x at *
        generalize hy : begP ps (i + 1) = y at *
        have HY := Lib.hid hy
        clear hy
        have z1 : ((x : Int) != (x : Int)) = false := by simp
        go_wp2_with fail
        go_roundw
        case rel => exact ⟨i + 1, by go_num, by rw [HY.out], by omega, by first | rfl | trivial⟩
        case measure => simp [intOf]; omega
      · obtain rfl : i = ps.length := by omega
        have z1 : (((begP ps ps.length : Nat) : Int) == (s.size : Int)) = true := beq_iff_eq.2 (by have := hend2.out; omega)
        generalize begP ps ps.length = x at *
        clear hend2 hat
        go_wp2_with fail
        ((with_reducible refine (HA.out _ HB1.out).mono ?_))
        rintro e w3 ⟨rfl, b3⟩
        go_wp2_with fail
        go_ret
        exact ⟨rfl, HB1.out.trans (b3.mono HB1.out.size)⟩
  · rw [decide_eq_false h8] at HT
    clear hm h0
    go_enter Tryd.func3, Tryd.ntmps3
    go_wp2_with fail
    ((with_reducible refine (HT.out _).mono ?_))
    rintro e w1 ⟨rfl, rfl⟩
    go_wp2_with fail
    ((with_reducible refine (HA.out _ (Below.refl _ _)).mono ?_))
    rintro e w3 ⟨rfl, b3⟩
    go_wp2_with fail
    go_ret
    exact ⟨rfl, b3⟩

end Go.Proofs.YtcjkgmfidkgamaaDoor
namespace Go.Pub
open Go.RowKit Go.WideShapes Go.ChangeShapes
section
variable {H : Type} {enc : TypeId × Value → H} {P : Program}
theorem post_of_below {f : Func} {s : ChangeSpec} {apart fresh handsOn again : Bool} {W W' : World} {args : Array Value} {v : Value} {ds gs : List (DataW H)} {before pa pv : List MemPlace}
    (hW : DataW.Whole enc P f.params.toList s.vars apart W args.toList ds gs before)
    (hres : ∀ (b : Nat) (sp : Nat → Bool) (hd : Bool), DataW.TrodAll enc P W' b sp hd f.resultTypes.toList (v.resultList f.resultTypes.size) (s.fn H (ds ++ gs)).results [])
    (hargs : ∀ sp : Nat → Bool, (∀ p ∈ before, sp p.block = true) → DataW.TrodAll enc P W' 0 sp true f.params.toList args.toList (s.fn H (ds ++ gs)).args pa)
    (hvars : ∀ sp : Nat → Bool, (∀ p ∈ before, sp p.block = true) → DataW.TrodVars enc P W' sp s.vars (s.fn H (ds ++ gs)).vars pv)
    (hps : before = pa ++ pv) (hb : Below W.heap.size W W')
    (hok : ∀ (j : Nat) (t : TypeId) (r : Value), f.resultTypes[j]? = some t → (v.resultList f.resultTypes.size)[j]? = some r → Value.okWide P W' .any 0 t r) :
    s.post enc P f apart fresh handsOn again W args v W' := by
  have hlt : ∀ p ∈ before, p.block < W.heap.size := fun p hp => hW.lt p hp
  have hold : ∀ p ∈ before, (fun b => decide (b < W.heap.size)) p.block = true := fun p hp => by simpa using hlt p hp
  refine ⟨ds, gs, before, [], pa, pv, hW, hres _ _ _, hargs _ hold, hvars _ hold, World.keptBut_mono (fun p hp => ⟨hp, ?_⟩) (hb.frame (· ∈ before)), fun _ => ?_⟩
  · rw [hps, List.mem_append] at hp
    exact Or.inr hp
  · obtain ⟨_, _, _, _, _, hz, hn⟩ := hW
    refine ⟨hok, _, _, ([] ++ pa) ++ pv, ⟨[] ++ pa, pv, trodAll_append (hargs _ (fun _ _ => rfl)) (hres _ _ _), hvars _ (fun _ _ => rfl), rfl, ?_, ?_⟩, ?_⟩
    · intro b off hp
      have hin : MemPlace.cell b off ∈ before := by rw [hps]; simpa using hp
      rw [hb.frozen (hlt _ hin)]
      exact hz b off hin
    · intro ha
      have := hn ha
      rw [hps] at this
      simpa using this
    · intro p hp _
      rw [hps]
      simpa using hp
end
end Go.Pub
namespace Go.Pub
open Go
theorem change_and_shaped {H : Type} {enc : TypeId × Value → H} {a : Assume} {C : Checked} {os : Os} {f : FuncId} {fn : Func} {s : ChangeSpec} {conds : List PathCond} {apart fresh handsOn again : Bool} {X : World → Array Value → Prop}
    (hX : ∀ (w w' : World) (args : Array Value), w.heap = w'.heap → X w args → X w' args)
    (own : ownKnob C.prog.godebug = none) (started : os.Started) (noInit : C.prog.inits.idxOf? f = none) (hfn : C.prog.funcs[f]? = some fn)
    (witness : ∃ (w : World) (tape : Tape) (i : Input), w.os = os ∧ (w.forCall tape i).Shaped C.prog ∧ i.vars = [] ∧ Input.okWide C.prog (w.forCall tape i) .any w.heap.size f i ∧
      ((s.pre enc C.prog fn conds apart (w.forCall tape i).memory i.args ∧ X (w.forCall tape i).memory i.args) ∧ sizedMet enc C.prog fn (OpenSpec.ofChange s) apart (w.forCall tape i).memory i.args) ∧ a.holds C.prog (lone (Frame.enter C.prog f i.args .normal) [] (w.forCall tape i)))
    (contract : ∀ (W : World) (base : Nat) (args : Array Value) (ds gs : List (DataW H)) (before : List MemPlace),
      (∀ (j : Nat) t v, fn.params[j]? = some t → args[j]? = some v → Value.okWide C.prog W .any base t v) →
      DataW.Whole enc C.prog fn.params.toList s.vars apart W args.toList ds gs before →
      conds.all (PathCond.test C.prog ⟨fn.params.toList, ds, s.plain.varTypes C.prog, gs⟩) = true →
      (DataW.weightsEach C.prog (fn.params.toList ++ s.plain.varTypes C.prog) (ds ++ gs)).all (· ≤ reachBytes) = true → X W args → W.ShapedOpen C.prog →
      a.holds C.prog (lone (Frame.enter C.prog f args .normal) [] W) →
      Calls C.prog f args W fun e W' => ∃ v, e = .returned v ∧ s.post enc C.prog fn apart fresh handsOn again W args v W') :
    ReturnsInHanded a C os f .any (fun w args => (s.pre enc C.prog fn conds apart w args ∧ X w args) ∧ sizedMet enc C.prog fn (OpenSpec.ofChange s) apart w args) (s.post enc C.prog fn apart fresh handsOn again) := by
  refine returnsInHanded_of_calls own started noInit witness ?_
  intro w tape i _ hsh _ hok hpre hholds
  obtain ⟨_, _, _, fn', hfn', _, _, _, _, hval⟩ := hok
  obtain rfl : fn' = fn := Option.some.inj (hfn'.symm.trans hfn)
  obtain ⟨⟨⟨ds, gs, before, hw, hc⟩, hx⟩, hz⟩ := hpre
  refine (contract (w.forCall tape i) w.heap.size i.args ds gs before hval (DataW.Whole.of_heap (w' := w.forCall tape i) (by rfl) hw) hc (hz.weights hw) (hX _ _ _ (by rfl) hx) hsh hholds).mono fun e W' ⟨v, he, hp⟩ => ?_
  subst he
  exact ChangeSpec.post_blind hp
end Go.Pub
namespace Go.Pub
theorem escL_app (a b : List UInt8) : escL (a ++ b) = escL a ++ escL b := by unfold escL; rw [List.flatMap_append]
theorem escL_len (l : List UInt8) : (escL l).length = 2 * l.length := by
  induction l with
  | nil => rfl
  | cons b l ih => show ([92, b] ++ escL l).length = _; rw [List.length_append, ih]; simp; omega
/-- A byte that may stand behind a backslash. -/
def escB (s : ByteArray) (j : Nat) : Prop := bt s j < 128 ∧ inB (bt s j : Int) punctL = true
theorem byte9_at (s : ByteArray) (i : Nat) (h : i < s.size) : (bytesL s)[i]? = some (s.get! i) := by
  have h2 : sfx s i = s.get! i :: sfx s (i + 1) := sfx_cons s i h
  have h3 : (sfx s i)[0]? = (bytesL s)[i]? := by unfold sfx; rw [List.getElem?_drop, Nat.add_zero]
  rw [← h3, h2]; rfl
theorem byte_of (s : ByteArray) {b : UInt8} (h : b ∈ bytesL s) : ∃ j, j < s.size ∧ b = s.get! j := by
  obtain ⟨j, hj, e⟩ := List.getElem_of_mem h
  have hj2 := hj
  rw [bytesL_length] at hj2
  have h4 := byte9_at s j hj2
  rw [List.getElem?_eq_getElem hj] at h4
  injection h4 with h4
  exact ⟨j, hj2, by rw [← e]; exact h4⟩
theorem take_step (s : ByteArray) (i : Nat) (h : i < s.size) : (bytesL s).take (i + 1) = (bytesL s).take i ++ [s.get! i] := by
  have h2 : sfx s i = s.get! i :: sfx s (i + 1) := sfx_cons s i h
  rw [List.take_add_one]
  congr 1
  have h3 : (sfx s i)[0]? = (bytesL s)[i]? := by unfold sfx; rw [List.getElem?_drop, Nat.add_zero]
  rw [← h3, h2]; rfl
theorem byte_ext (s : ByteArray) (i : Nat) (h : i < s.size) : bytesL (s.extract i (i + 1)) = [s.get! i] := by
  rw [bytesL_sub]
  have h1 : sub s i (i + 1) = (sfx s i).take (i + 1 - i) := rfl
  rw [h1, sfx_cons s i h, show i + 1 - i = 1 by omega]; rfl
end Go.Pub
namespace Go.Proofs.YtcjkgmfidkgamaaDoor
open Go.RowKit Go.Pub
set_option maxRecDepth 100000 in
set_option maxHeartbeats 4000000 in
theorem law9_escapes (s : ByteArray) (hz : s.size ≤ 9223372036854775807) (m : Int) (w : World) (hm : w.cell? ⟨0, 0, none⟩ = some (.int .i64 m)) : Calls Tryd.prog 4 #[.string s] w fun e w' => e = .returned (.bool true) ∧ Below w.heap.size w w' := by
  have h0 := World.block_lt_of_cell? _ _ hm
  have HA : Hid (∀ W : World, Below w.heap.size w W → Calls Tryd.prog 7 #[] W fun e w' => e = .returned (.bool true) ∧ Below W.heap.size W w') := Lib.hid fun W hb => l9_awake m W ((hb.cell (p := ⟨0, 0, none⟩) h0).trans hm)
  have HB0 : Hid (Below w.heap.size w w) := Lib.hid (Below.refl _ _)
  by_cases h120 : s.size ≤ 120
  · have HP := Lib.hid fun (b : Nat) W => rPunct_any (b : Int) W
    have HS : Hid (∀ W, Below w.heap.size w W → (∀ j, j < s.size → escB s j) → Calls Tryd.prog 8 #[.string (mk (escL ((bytesL s).take s.size)))] W fun e w' => Below W.heap.size W w' ∧ ∃ v, e = .returned v ∧ PcOwn w' W.heap.size v (escP 0 (bytesL s))) := Lib.hid fun W hb hg => by
      have e1 : (bytesL s).take s.size = bytesL s := List.take_of_length_le (by rw [bytesL_length]; exact Nat.le_refl _)
      rw [e1]
      have h := s_Scan (mk (escL (bytesL s))) m W (by rw [mk_size, escL_len, bytesL_length]; omega) ((hb.cell (p := ⟨0, 0, none⟩) h0).trans hm)
      unfold ScanPost at h
      rwa [esc_scan (bytesL s) fun b hb => by
        obtain ⟨j, hj, rfl⟩ := byte_of s hb
        exact hg j hj] at h
    clear hm h0
    go_enter Tryd.func4, Tryd.ntmps4
    go_wp2_with fail
    go_loopw [3, 4] (fun v3 v4 wr => ∃ i : Nat, v4 = .int .i64 i ∧ i ≤ s.size ∧ v3 = .string (mk (escL ((bytesL s).take i))) ∧ Hid (∀ j, j < i → escB s j) ∧ Hid (Below w.heap.size w wr)) (fun _ v4 _ => s.size - (intOf v4).toNat)
    case atStart => exact ⟨0, rfl, Nat.zero_le _, rfl, Lib.hid fun j h => by omega, HB0⟩
    case round =>
      clear HB0
      obtain ⟨i, rfl, hi, rfl, HG, HB⟩ := hrel
      by_cases hl : i < s.size
      · have hg := get_bt s i hl
        have hlt := bt_lt s i
        by_cases h128 : 128 ≤ bt s i
        · have z1 : (128 ≤ ((bt s i : Nat) : Int)) := by omega
          clear HG HP HS
          generalize bt s i = b at *
          go_wp2_with fail
          ((with_reducible refine (HA.out _ HB.out).mono ?_))
          rintro e w3 ⟨rfl, b3⟩
          go_wp2_with fail
          go_ret
          exact ⟨rfl, HB.out.trans (b3.mono HB.out.size)⟩
        · have HPi := Lib.hid (HP.out (bt s i))
          cases hp : inB (bt s i : Int) punctL
          · rw [hp] at HPi
            clear HG HP HS hp
            generalize bt s i = b at *
            go_wp2_with fail
            ((with_reducible refine (HPi.out _).mono ?_))
            rintro e w2 ⟨rfl, b2⟩
            have HB2 := Lib.hid (HB.out.trans (b2.mono HB.out.size))
            clear b2
            go_wp2_with fail
            ((with_reducible refine (HA.out _ HB2.out).mono ?_))
            rintro e w3 ⟨rfl, b3⟩
            go_wp2_with fail
            go_ret
            exact ⟨rfl, HB2.out.trans (b3.mono HB2.out.size)⟩
          · have HG2 : Hid (∀ j, j < i + 1 → escB s j) := Lib.hid fun j hj => by
              rcases (by omega : j < i ∨ j = i) with h | rfl
              · exact HG.out j h
              · exact ⟨by omega, hp⟩
            rw [hp] at HPi
            have HE : Hid (escL ((bytesL s).take i) ++ [92, s.get! i] = escL ((bytesL s).take (i + 1))) := Lib.hid (by rw [take_step s i hl, escL_app]; rfl)
            have hEl : (escL ((bytesL s).take i)).length ≤ 240 := by rw [escL_len, List.length_take]; omega
            have hb1 := byte_ext s i hl
            have hz1 : (s.extract i (i + 1)).size = 1 := by rw [ByteArray.size_extract]; omega
            have hz2 : (mk [92, s.get! i]).size = 2 := mk_size _
            have cat1 : ∀ w : World, (Op.stringOp .add ⟨#[92]⟩ (s.extract i (i + 1))).run Tryd.prog w = .ok (.string (mk [92, s.get! i])) w := fun w => cat_mk w [92] _ _ (by rw [hz1]; simp) (by rw [hb1]; rfl)
            have cat2 : ∀ w : World, (Op.stringOp .add (mk (escL ((bytesL s).take i))) (mk [92, s.get! i])).run Tryd.prog w = .ok (.string (mk (escL ((bytesL s).take (i + 1))))) w := fun w => cat_mk w _ _ _ (by rw [hz2]; omega) (by rw [bytesL_mk', HE.out])
            have hsl : i ≤ i + 1 := by omega
            clear HG HP HS hp HE hEl hb1 hz1 hz2
            generalize mk [92, s.get! i] = q at *
            generalize mk (escL ((bytesL s).take i)) = X at *
            generalize hY : mk (escL ((bytesL s).take (i + 1))) = Y at *
            have HY := Lib.hid hY
            clear hY
            generalize bt s i = b at *
            go_wp2_with fail
            ((with_reducible refine (HPi.out _).mono ?_))
            rintro e w2 ⟨rfl, b2⟩
            have HB2 := Lib.hid (HB.out.trans (b2.mono HB.out.size))
            clear b2
            go_wp2_with fail
            go_roundw
            case rel => exact ⟨i + 1, by go_num, by omega, by rw [HY.out], HG2, HB2⟩
            case measure => simp [intOf]; omega
      · obtain rfl : i = s.size := by omega
        have HSw := Lib.hid (HS.out wr HB.out HG.out)
        clear HS HG HP
        generalize mk (escL ((bytesL s).take s.size)) = X at *
        go_wp2_with fail
        ((with_reducible refine (HSw.out).mono ?_))
        rintro e w1 ⟨b1, v, rfl, ho⟩
        obtain ⟨A, c, rfl⟩ := ho.shape
        have HB1 := Lib.hid (HB.out.trans (b1.mono HB.out.size))
        have HO := Lib.hid ho
        have hpl : (escP 0 (bytesL s)).length = s.size := by rw [escP_len, bytesL_length]
        rw [hpl]
        clear b1 ho HSw HB
        have z1 : ((s.size : Int) != (s.size : Int)) = false := by simp
        go_wp2_with fail
        go_loopw [6] (fun v6 wz => ∃ i : Nat, v6 = .int .i64 i ∧ i ≤ s.size ∧ Hid (Below w1.heap.size w1 wz)) (fun v6 _ => s.size - (intOf v6).toNat)
        case atStart => exact ⟨0, rfl, Nat.zero_le _, Lib.hid (Below.refl _ _)⟩
        case round =>
          obtain ⟨i, rfl, hi, HBz⟩ := hrel
          by_cases hl : i < s.size
          · obtain ⟨g, rfl, _, _, _, hp⟩ := (HO.out.below HBz.out).look (by omega)
            have hat := hp i (by omega)
            have hpe : (escP 0 (bytesL s))[i]'(by omega) = { inl := spn 1 (mk [s.get! i]), bg := 0 + 2 * i, nd := 0 + 2 * i + 2 } := by
              have := escP_at (bytesL s) 0 i (s.get! i) (byte9_at s i hl)
              rw [List.getElem?_eq_getElem (by omega)] at this
              exact Option.some.inj this
            rw [hpe] at hat
            have c0 := hat.kind
            have c1 := hat.ik
            have c2 := hat.text
            have hey : mk [s.get! i] = s.extract i (i + 1) := by rw [← byte_ext s i hl, mk_bytesL]
            simp only [spn, hey] at c0 c1 c2
            have hsl : i ≤ i + 1 := by omega
            have zt : ((s.extract i (i + 1)).toList != (s.extract i (i + 1)).toList) = false := by simp
            clear hp hat hpe hey hpl HA
            go_wp2_with fail
            go_quiet (fail)
            go_wp2_with fail
            go_roundw
            case rel => exact ⟨i + 1, by go_num, by omega, Lib.hid (below_drewN HBz.out _)⟩
            case measure => simp [intOf]; omega
          · obtain rfl : i = s.size := by omega
            have HB3 := Lib.hid (HB1.out.trans (HBz.out.mono HB1.out.size))
            go_wp2_with fail
            ((with_reducible refine (HA.out _ HB3.out).mono ?_))
            rintro e w3 ⟨rfl, b3⟩
            go_wp2_with fail
            go_ret
            exact ⟨rfl, HB3.out.trans (b3.mono HB3.out.size)⟩
  · clear hm h0
    go_enter Tryd.func4, Tryd.ntmps4
    go_wp2_with fail
    ((with_reducible refine (HA.out _ (Below.refl _ _)).mono ?_))
    rintro e w3 ⟨rfl, b3⟩
    go_wp2_with fail
    go_ret
    exact ⟨rfl, b3⟩

end Go.Proofs.YtcjkgmfidkgamaaDoor
