/-
  Texts of the proof, put together (what this law reaches): NsYA, Row, RowS, RowTC.
-/
import Derived.Test.YtpoafhgbhnblmaaGreatDoorD21
import Derived.Test.YtpoafhgbhnblmaaGreatDoorD22
import Derived.Below
import Derived.ChangeSame
import Derived.ProofKit
import Derived.Handed
import Derived.HandedShaped
import Derived.Test.YtpoafhgbhnblmaaGreatDoorD07
import Derived.Test.YtpoafhgbhnblmaaGreatDoorProg
import Derived.SliceStrings
import Derived.OpenShut
import Derived.Carry
set_option linter.unusedVariables false
set_option linter.unusedSimpArgs false
namespace Go.Proofs.YtpoafhgbhnblmaaGreatDoor
open Go.RowKit Go.Pub
theorem covB_lt {zs : List ByteArray} : ∀ {rs : List (Nat × Nat)} {a : Nat}, covB zs a rs → ∀ k (hk : k < rs.length), rs[k].1 < rs[k].2
  | r :: rs, a, h, 0, _ => h.2.1
  | r :: rs, a, h, k + 1, hk => covB_lt h.2.2.2.2 k (Nat.lt_of_succ_lt_succ hk)
/-- One block of many. -/
theorem KidsV.sub {w : World} {S : Nat → Prop} {g off n c c' : Nat} {bs : List BkT} (h : KidsV w S (.slice (some ⟨g, off, none⟩) n c) bs) (k : Nat) (hk : k < bs.length) : KidsV w S (.slice (some ⟨g, off + k * 11, none⟩) 1 c') [bs[k]] := by
  obtain ⟨g', off', c0, e, hg, hc⟩ := h.get (by omega)
  obtain ⟨rfl, rfl⟩ : g = g' ∧ off = off' := by injection e with e; injection e with e; injection e with e1 e2; exact ⟨e1, e2⟩
  obtain ⟨vb, h1, h2⟩ := hc k hk
  refine ⟨_, c', [vb], rfl, .cons _ _ _ _ h1 .nil, ⟨by rw [List.flatMap_cons]; simp [h1.size], (by decide : 1 ≤ maxLen)⟩, fun _ => ⟨_, rfl, hg, fun j u hj => ?_⟩⟩
  have hs := h1.size
  have hj' : vb[j]? = some u := by simpa using hj
  have hlt : j < 11 := by rw [← hs]; exact (Array.getElem?_eq_some_iff.1 hj').1
  have := (h2 j hlt).trans hj'
  unfold Addr.add
  by_cases h0 : j = 0
  · subst h0; rw [if_pos rfl]; exact this
  · rw [if_neg h0]; show w.cell? ⟨g, off + k * 11 + j, none⟩ = _; rw [Nat.add_assoc]; exact this
set_option maxRecDepth 100000 in
set_option maxHeartbeats 2000000 in
theorem law7_pieces (MM : Int) (zs : List ByteArray) (A : Option Addr) (c : Nat) (w : World) (hm : w.cell? ⟨0, 0, none⟩ = some (.int .i64 MM)) (hr : Reads w w.heap.size 1 A zs.length (strs zs)) (hl : zs.length ≤ maxLen) (hx : ∀ x ∈ zs, x.size ≤ maxLen) (hc : zs.length ≤ c) (hcm : c ≤ maxLen) :
    Calls Tryz.prog 7 #[.slice A zs.length c] w fun e w' => e = .returned (.bool true) ∧ Below w.heap.size w w' := by
  have hp0 := World.block_lt_of_cell? _ _ hm
  have HM : Hid (∀ W, Below w.heap.size w W → W.cell? ⟨0, 0, none⟩ = some (.int .i64 MM)) := Lib.hid fun W h => (h.cell (p := ⟨0, 0, none⟩) hp0).trans hm
  have HA : Hid (∀ W, Below w.heap.size w W → Calls Tryz.prog 11 #[] W fun e w' => e = .returned (.bool true) ∧ Below W.heap.size W w') := Lib.hid fun W h => l7_awake MM W (HM.out W h)
  have HCl := Lib.hid (l7_clean zs A c w hr hl hx)
  have HLn : Hid (CleanOk zs → LinesAt w A zs MM) := Lib.hid fun h => ⟨hr, by have := h.1; omega, fun z hz => Nat.le_trans (h.2 z hz) (by decide), hm⟩
  have HC := Lib.hid hc
  have HCM := Lib.hid hcm
  clear hr hl hx hm hc hcm
  go_enter Tryz.func7, Tryz.ntmps7
  go_wp2_with fail
  ((with_reducible refine (HCl.out).mono ?_))
  rintro e w1 ⟨⟨b, rfl, hok⟩, b1⟩
  have HB1 := Lib.hid b1
  cases b with
  | false =>
    go_wp2_with fail
    ((with_reducible refine (HA.out _ HB1.out).mono ?_))
    rintro e w2 ⟨rfl, b2⟩
    go_wp2_with fail
    go_ret
    exact ⟨rfl, HB1.out.trans (b2.mono HB1.out.size)⟩
  | true =>
    have hL := HLn.out (hok rfl)
    have hlen := hL.len
    have h60 := (hok rfl).1
    have HL := Lib.hid hL
    have HP : Hid (∀ W, Below w.heap.size w W → Calls Tryz.prog 12 #[.slice A zs.length c] W (NsPPost (blocksN 16 zs) W)) := Lib.hid fun W h => n_Parse zs A c MM W (HL.out.below h) HC.out HCM.out
    have HR : Hid (∀ W, Below w.heap.size w W → Calls Tryz.prog 15 #[.slice A zs.length c] W (NsRPost (blocksN 16 zs) W)) := Lib.hid fun W h => n_Ranges zs A c MM W (HL.out.below h) HC.out HCM.out
    have HCov := Lib.hid (blocksN_cov 16 zs)
    have HPc := Lib.hid (blocksN_pieces 16 zs)
    clear hL hok b1 HLn HCl
    unfold NsPPost at HP
    unfold NsRPost at HR
    cases hbk : blocksN 16 zs with
    | none =>
      rw [hbk] at HP HR
      simp only [] at HP HR
      clear hbk HCov HPc
      go_wp2_with fail
      ((with_reducible refine (HP.out _ HB1.out).mono ?_))
      rintro e w2 ⟨b2, rfl⟩
      have HB2 := Lib.hid (HB1.out.trans (b2.mono HB1.out.size))
      clear b2
      go_wp2_with fail
      ((with_reducible refine (HR.out _ HB2.out).mono ?_))
      rintro e w3 ⟨b3, rfl⟩
      have HB3 := Lib.hid (HB2.out.trans (b3.mono HB2.out.size))
      clear b3 HP HR
      go_wp2_with fail
      ((with_reducible refine (HA.out _ HB3.out).mono ?_))
      rintro e w4 ⟨rfl, b4⟩
      go_wp2_with fail
      go_ret
      exact ⟨rfl, HB3.out.trans (b4.mono HB3.out.size)⟩
    | some p =>
      rw [hbk] at HP HR
      simp only [] at HP HR
      obtain ⟨hcov, hll⟩ := HCov.out p hbk
      replace HPc := Lib.hid (HPc.out p hbk)
      have hrl := covB_len zs p.2 0 (Nat.zero_le _) hcov
      have HCv := Lib.hid (covB_lt hcov)
      clear hbk HCov hcov
      generalize p.2 = rs at *
      generalize p.1 = bs at *
      go_wp2_with fail
      ((with_reducible refine (HP.out _ HB1.out).mono ?_))
      rintro e w2 ⟨b2, A2, c2, rfl, hk2, hc2⟩
      have HB2 := Lib.hid (HB1.out.trans (b2.mono HB1.out.size))
      have HK2 := Lib.hid hk2
      clear b2 hk2
      go_wp2_with fail
      ((with_reducible refine (HR.out _ HB2.out).mono ?_))
      rintro e w3 ⟨b3, A3, c3, rfl, hrd⟩
      have HB3 := Lib.hid (HB2.out.trans (b3.mono HB2.out.size))
      have HRd := Lib.hid hrd
      have HK : Hid (∀ W, Below w3.heap.size w3 W → KidsV W (fun g => g < w3.heap.size) (.slice A2 bs.length c2) bs) := Lib.hid fun W hb => HK2.out.keep (fun g hg => (hb.block g (Nat.lt_of_lt_of_le hg.2 b3.size)).trans (b3.block g hg.2)) fun g hg => Nat.lt_of_lt_of_le hg.2 b3.size
      clear b3 hrd HP HR
      have dll : ((bs.length : Int) != (rs.length : Int)) = false := by rw [bne_eq_false_iff_eq, hll]
      have dll2 : ((bs.length : Int) == (rs.length : Int)) = true := by rw [beq_iff_eq, hll]
      go_wp2_with fail
      go_loopw [7] (fun v7 wr => ∃ k : Nat, v7 = .int .i64 k ∧ k ≤ rs.length ∧ Hid (Below w3.heap.size w3 wr)) (fun v7 _ => rs.length - (intOf v7).toNat)
      case atStart => exact ⟨0, rfl, Nat.zero_le _, Lib.hid (Below.refl _ _)⟩
      case round =>
        obtain ⟨k, rfl, hk, HBW⟩ := hrel
        by_cases hlt : k < rs.length
        · have h2 := HCv.out k hlt
          obtain ⟨-, h3, hone⟩ := HPc.out k (by omega) hlt
          obtain ⟨g4, o4, rfl, hg4, hcs⟩ := HRd.out.row (by omega) (by decide)
          have hf3 := hcs (k * 2) _ (rngs_at rs k hlt).1
          have ht3 : w3.cell? ⟨g4, o4 + k * 2 + 1, none⟩ = some (.int .i64 rs[k].2) := by rw [Nat.add_assoc]; exact hcs (k * 2 + 1) _ (rngs_at rs k hlt).2
          have hg42 : g4 < w3.heap.size := hg4.2
          have HOne := Lib.hid hone
          clear hcs hone hg4
          generalize rs[k].1 = f at *
          generalize rs[k].2 = t at *
          have hf2 := (HBW.out.cell (p := ⟨g4, o4 + k * 2, none⟩) hg42).trans hf3
          have ht2 := (HBW.out.cell (p := ⟨g4, o4 + k * 2 + 1, none⟩) hg42).trans ht3
          obtain ⟨b, off, rfl, hb, -⟩ := HL.out.get (by omega)
          obtain ⟨g5, o5, c5, e5, -, -⟩ := (HK.out _ (Below.refl _ _)).get (by omega)
          obtain rfl : A2 = some ⟨g5, o5, none⟩ := by injection e5
          clear e5
          have HS5 : Hid (∀ W, Below w3.heap.size w3 W → ∀ c', KidsV W (fun g => g < w3.heap.size) (.slice (some ⟨g5, o5 + k * 11, none⟩) 1 c') [bs[k]'(by omega)]) := Lib.hid fun W hb c' => (HK.out W hb).sub k (by omega)
          have HP5 : Hid (∀ W, Below w.heap.size w W → Calls Tryz.prog 12 #[.slice (some ⟨b, off + f, none⟩) (t - f) (c - f)] W fun e w' => Below W.heap.size W w' ∧ ∃ A c, e = .returned (.tuple #[.slice A 1 c, .int .i64 0]) ∧ KidsV w' (Rg W.heap.size w') (.slice A 1 c) [bs[k]'(by omega)]) := Lib.hid fun W h => by
            have hcl := cutL_len zs f t (by omega) h3
            have h1 := n_Parse (cutL zs f t) (some ⟨b, off + f, none⟩) (c - f) MM W ((HL.out.below h).cut f t (by omega) h3) (by rw [hcl]; have := HC.out; omega) (by have := HCM.out; omega)
            rw [hcl, HOne.out] at h1
            exact h1.mono fun e w' ⟨b, A, c, e, hk, _⟩ => ⟨b, A, c, e, hk⟩
          have hcz := HC.out
          have z0 : decide ((f : Int) < 0) = false := decide_eq_false (by omega)
          have z1 : decide ((zs.length : Int) < (t : Int)) = false := decide_eq_false (by omega)
          have z2 : decide ((t : Int) < (f : Int)) = false := decide_eq_false (by omega)
          have y1 : decide (zs.length < t) = false := decide_eq_false (by omega)
          have y2 : decide (t < f) = false := decide_eq_false (by omega)
          have x1 : t ≤ c := by omega
          have x2 : f ≤ t := by omega
          have x3 : ¬ c = f := by omega
          have x4 : (f : Int) ≤ (t : Int) := by omega
          have x5 : (t : Int) ≤ (c : Int) := by omega
          clear HOne
          generalize (bs[k]'(by omega)) = bk at *
          have HSm : Hid (∀ W A6 c6, Below w3.heap.size w3 W → KidsV W (Rg w3.heap.size W) (.slice A6 1 c6) [bk] → Calls Tryz.prog 14 #[.slice A6 1 c6, .slice (some ⟨g5, o5 + k * 11, none⟩) 1 (c2 - k)] W fun e w' => e = .returned (.bool true) ∧ Below W.heap.size W w') := Lib.hid fun W A6 c6 hb hk => r4_same _ [bk] (Nat.le_refl _) A6 (some ⟨g5, o5 + k * 11, none⟩) c6 (c2 - k) _ _ W hk (HS5.out W hb _) (fun g hg => hg.2) (fun g hg => Nat.lt_of_lt_of_le hg hb.size)
          have x6 : k + 1 ≤ c2 := by omega
          have x7 : ¬ c2 = k := by omega
          have x8 : (k : Int) + 1 ≤ (c2 : Int) := by omega
          go_wp2_with fail
          go_quiet (fail)
          replace HBW := Lib.hid (below_drewN HBW.out nq)
          generalize wr.drewN nq = W5 at *
          replace hf2 := True.intro
          replace ht2 := True.intro
          have hf5 := (HBW.out.cell (p := ⟨g4, o4 + k * 2, none⟩) hg42).trans hf3
          have ht5 := (HBW.out.cell (p := ⟨g4, o4 + k * 2 + 1, none⟩) hg42).trans ht3
          go_upto_region 12 with fail
          refine wp_region_held_drew (S := fun W' => Below w3.heap.size w3 W') (by kernel_rfl) HBW.out.drew (fun hHeld => ?_)
          refine wpAnyH_take (i := 0) (v := .slice (some ⟨b, off, none⟩) zs.length c) rfl (by kernel_rfl) (by kernel_rfl) (by kernel_rfl) (fun _ _ _ h => h) (Or.inl ⟨by kernel_rfl, fun W' hSw => ?_⟩) hHeld ?_
          · go_simp
          try simp only [Act.put, List.setIfInBounds_toArray, List.set_cons_zero, List.set_cons_succ]
          refine wpAnyH_take (i := 1) (v := .slice (some ⟨g4, o4, none⟩) rs.length c3) rfl (by kernel_rfl) (by kernel_rfl) (by kernel_rfl) (fun _ _ _ h => h) (Or.inl ⟨by kernel_rfl, fun W' hSw => ?_⟩) hHeld ?_
          · go_simp
          try simp only [Act.put, List.setIfInBounds_toArray, List.set_cons_zero, List.set_cons_succ]
          refine wpAnyH_take (i := 2) (v := .int .i64 k) rfl (by kernel_rfl) (by kernel_rfl) (by kernel_rfl) (fun _ _ _ h => h) (Or.inl ⟨by kernel_rfl, fun W' hSw => ?_⟩) hHeld ?_
          · go_simp
          try simp only [Act.put, List.setIfInBounds_toArray, List.set_cons_zero, List.set_cons_succ]
          refine wpAnyH_take (i := 3) (v := .pointer (some ⟨g4, o4 + k * 2, none⟩)) rfl (by kernel_rfl) (by kernel_rfl) (by kernel_rfl) (fun _ _ _ h => h) (Or.inl ⟨by kernel_rfl, fun W' hSw => ?_⟩) hHeld ?_
          · go_simp
          try simp only [Act.put, List.setIfInBounds_toArray, List.set_cons_zero, List.set_cons_succ]
          refine wpAnyH_take (i := 4) (v := .pointer (some ⟨g4, o4 + k * 2, none⟩)) rfl (by kernel_rfl) (by kernel_rfl) (by kernel_rfl) (fun _ _ _ h => h) (Or.inl ⟨by kernel_rfl, fun W' hSw => ?_⟩) hHeld ?_
          · go_simp
          try simp only [Act.put, List.setIfInBounds_toArray, List.set_cons_zero, List.set_cons_succ]
          refine wpAnyH_take (i := 5) (v := .int .i64 f) rfl (by kernel_rfl) (by kernel_rfl) (by kernel_rfl) (fun _ _ _ h => h) (Or.inl ⟨by kernel_rfl, fun W' hSw => ?_⟩) hHeld ?_
          · have hq := (hSw.cell (p := ⟨g4, o4 + k * 2, none⟩) hg42).trans hf3
            go_simp
          try simp only [Act.put, List.setIfInBounds_toArray, List.set_cons_zero, List.set_cons_succ]
          refine wpAnyH_take (i := 6) (v := .slice (some ⟨g4, o4, none⟩) rs.length c3) rfl (by kernel_rfl) (by kernel_rfl) (by kernel_rfl) (fun _ _ _ h => h) (Or.inl ⟨by kernel_rfl, fun W' hSw => ?_⟩) hHeld ?_
          · go_simp
          try simp only [Act.put, List.setIfInBounds_toArray, List.set_cons_zero, List.set_cons_succ]
          refine wpAnyH_take (i := 7) (v := .int .i64 k) rfl (by kernel_rfl) (by kernel_rfl) (by kernel_rfl) (fun _ _ _ h => h) (Or.inl ⟨by kernel_rfl, fun W' hSw => ?_⟩) hHeld ?_
          · go_simp
          try simp only [Act.put, List.setIfInBounds_toArray, List.set_cons_zero, List.set_cons_succ]
          refine wpAnyH_take (i := 8) (v := .pointer (some ⟨g4, o4 + k * 2, none⟩)) rfl (by kernel_rfl) (by kernel_rfl) (by kernel_rfl) (fun _ _ _ h => h) (Or.inl ⟨by kernel_rfl, fun W' hSw => ?_⟩) hHeld ?_
          · go_simp
          try simp only [Act.put, List.setIfInBounds_toArray, List.set_cons_zero, List.set_cons_succ]
          refine wpAnyH_take (i := 9) (v := .pointer (some ⟨g4, o4 + k * 2 + 1, none⟩)) rfl (by kernel_rfl) (by kernel_rfl) (by kernel_rfl) (fun _ _ _ h => h) (Or.inl ⟨by kernel_rfl, fun W' hSw => ?_⟩) hHeld ?_
          · go_simp
          try simp only [Act.put, List.setIfInBounds_toArray, List.set_cons_zero, List.set_cons_succ]
          refine wpAnyH_take (i := 10) (v := .int .i64 t) rfl (by kernel_rfl) (by kernel_rfl) (by kernel_rfl) (fun _ _ _ h => h) (Or.inl ⟨by kernel_rfl, fun W' hSw => ?_⟩) hHeld ?_
          · have hq := (hSw.cell (p := ⟨g4, o4 + k * 2 + 1, none⟩) hg42).trans ht3
            go_simp
          try simp only [Act.put, List.setIfInBounds_toArray, List.set_cons_zero, List.set_cons_succ]
          refine wpAnyH_take (i := 11) (v := .slice (some ⟨b, off + f, none⟩) (t - f) (c - f)) rfl (by kernel_rfl) (by kernel_rfl) (by kernel_rfl) (fun _ _ _ h => h) (Or.inl ⟨by kernel_rfl, fun W' hSw => ?_⟩) hHeld ?_
          · go_simp
          try simp only [Act.put, List.setIfInBounds_toArray, List.set_cons_zero, List.set_cons_succ]
          refine wpAnyH_ready (rs := [12]) (by kernel_rfl) (by simp) (AllReadyH.cons rfl (fun K hK => ?_) AllReadyH.nil)
          go_simp
          ((with_reducible refine (HP5.out _ (HB3.out.trans (hHeld.mono HB3.out.size))).mono ?_))
          rintro e w6 ⟨b6, A6, c6, rfl, hk6⟩
          have HK6 := Lib.hid (show KidsV w6 (Rg w3.heap.size w6) _ _ from hk6.keep (fun _ _ => rfl) fun g hg => ⟨Nat.le_trans hHeld.size hg.1, hg.2⟩)
          have HB6 := Lib.hid (hHeld.trans (b6.mono hHeld.size))
          refine hK.out _ _ (HB6.out) (fun hHeld => ?_)
          clear hK K
          try simp only [Act.put, List.setIfInBounds_toArray, List.set_cons_zero, List.set_cons_succ]
          refine wpAnyH_take (i := 13) (v := .tuple #[.slice A6 1 c6, .int .i64 0]) rfl (by kernel_rfl) (by kernel_rfl) (by kernel_rfl) (fun _ _ _ h => h) (Or.inl ⟨by kernel_rfl, fun W' hSw => ?_⟩) hHeld ?_
          · go_simp
          try simp only [Act.put, List.setIfInBounds_toArray, List.set_cons_zero, List.set_cons_succ]
          refine wpAnyH_take (i := 14) (v := .slice A6 1 c6) rfl (by kernel_rfl) (by kernel_rfl) (by kernel_rfl) (fun _ _ _ h => h) (Or.inl ⟨by kernel_rfl, fun W' hSw => ?_⟩) hHeld ?_
          · go_simp
          try simp only [Act.put, List.setIfInBounds_toArray, List.set_cons_zero, List.set_cons_succ]
          refine wpAnyH_take (i := 15) (v := .int .i64 0) rfl (by kernel_rfl) (by kernel_rfl) (by kernel_rfl) (fun _ _ _ h => h) (Or.inl ⟨by kernel_rfl, fun W' hSw => ?_⟩) hHeld ?_
          · go_simp
          try simp only [Act.put, List.setIfInBounds_toArray, List.set_cons_zero, List.set_cons_succ]
          refine wpAnyH_ready (rs := [16]) (by kernel_rfl) (by simp) (AllReadyH.cons rfl (fun K hK => ?_) AllReadyH.nil)
          go_simp
          refine hK.out _ _ (hHeld) (fun hHeld => ?_)
          clear hK K
          try simp only [Act.put, List.setIfInBounds_toArray, List.set_cons_zero, List.set_cons_succ]
          refine wpAnyH_ready (rs := [17]) (by kernel_rfl) (by simp) (AllReadyH.cons rfl (fun K hK => ?_) AllReadyH.nil)
          go_simp
          refine hK.out _ _ (hHeld) (fun hHeld => ?_)
          clear hK K
          try simp only [Act.put, List.setIfInBounds_toArray, List.set_cons_zero, List.set_cons_succ]
          refine wpAnyH_done (by kernel_rfl) ?_ _
          go_wp2_with fail
          ((with_reducible refine (HSm.out _ A6 c6 HB6.out HK6.out).mono ?_))
          rintro e w7 ⟨rfl, b7⟩
          go_wp2_with fail
          go_roundw
          case rel => exact ⟨k + 1, by go_num, by omega, Lib.hid (HB6.out.trans (b7.mono HB6.out.size))⟩
          case measure => simp [intOf]; omega
        · go_wp2_with fail
          ((with_reducible refine (HA.out _ (HB3.out.trans (HBW.out.mono HB3.out.size))).mono ?_))
          rintro e w4 ⟨rfl, b4⟩
          go_wp2_with fail
          go_ret
          exact ⟨rfl, (HB3.out.trans (HBW.out.mono HB3.out.size)).trans (b4.mono (HB3.out.trans (HBW.out.mono HB3.out.size)).size)⟩

end Go.Proofs.YtpoafhgbhnblmaaGreatDoor
namespace Go.Pub
open Go.RowKit Go.WideShapes Go.ChangeShapes
section
variable {H : Type} {enc : TypeId × Value → H} {P : Program}
theorem post_of_below {f : Func} {s : ChangeSpec} {apart fresh handsOn again : Bool} {W W' : World} {args : Array Value} {v : Value} {ds gs : List (DataW H)} {before pa pv : List MemPlace}
    (hW : DataW.Whole enc P f.params.toList s.vars apart W args.toList ds gs before)
    (hres : ∀ (b : Nat) (sp : Nat → Bool) (hd : Bool), DataW.TrodAll enc P W' b sp hd f.resultTypes.toList (v.resultList f.resultTypes.size) (s.fn H (ds ++ gs)).results [])
    (hargs : ∀ sp : Nat → Bool, (∀ p ∈ before, sp p.block = true) → DataW.TrodAll enc P W' 0 sp true f.params.toList args.toList (s.fn H (ds ++ gs)).args pa)
    (hvars : ∀ sp : Nat → Bool, (∀ p ∈ before, sp p.block = true) → DataW.TrodVars enc P W' sp s.vars (s.fn H (ds ++ gs)).vars pv)
    (hps : before = pa ++ pv) (hb : Below W.heap.size W W')
    (hok : ∀ (j : Nat) (t : TypeId) (r : Value), f.resultTypes[j]? = some t → (v.resultList f.resultTypes.size)[j]? = some r → Value.okWide P W' .any 0 t r) :
    s.post enc P f apart fresh handsOn again W args v W' := by
  have hlt : ∀ p ∈ before, p.block < W.heap.size := fun p hp => hW.lt p hp
  have hold : ∀ p ∈ before, (fun b => decide (b < W.heap.size)) p.block = true := fun p hp => by simpa using hlt p hp
  refine ⟨ds, gs, before, [], pa, pv, hW, hres _ _ _, hargs _ hold, hvars _ hold, World.keptBut_mono (fun p hp => ⟨hp, ?_⟩) (hb.frame (· ∈ before)), fun _ => ?_⟩
  · rw [hps, List.mem_append] at hp
    exact Or.inr hp
  · obtain ⟨_, _, _, _, _, hz, hn⟩ := hW
    refine ⟨hok, _, _, ([] ++ pa) ++ pv, ⟨[] ++ pa, pv, trodAll_append (hargs _ (fun _ _ => rfl)) (hres _ _ _), hvars _ (fun _ _ => rfl), rfl, ?_, ?_⟩, ?_⟩
    · intro b off hp
      have hin : MemPlace.cell b off ∈ before := by rw [hps]; simpa using hp
      rw [hb.frozen (hlt _ hin)]
      exact hz b off hin
    · intro ha
      have := hn ha
      rw [hps] at this
      simpa using this
    · intro p hp _
      rw [hps]
      simpa using hp
end
end Go.Pub
namespace Go.Pub
open Go
theorem change_and_shaped {H : Type} {enc : TypeId × Value → H} {a : Assume} {C : Checked} {os : Os} {f : FuncId} {fn : Func} {s : ChangeSpec} {conds : List PathCond} {apart fresh handsOn again : Bool} {X : World → Array Value → Prop}
    (hX : ∀ (w w' : World) (args : Array Value), w.heap = w'.heap → X w args → X w' args)
    (own : ownKnob C.prog.godebug = none) (started : os.Started) (noInit : C.prog.inits.idxOf? f = none) (hfn : C.prog.funcs[f]? = some fn)
    (witness : ∃ (w : World) (tape : Tape) (i : Input), w.os = os ∧ (w.forCall tape i).Shaped C.prog ∧ i.vars = [] ∧ Input.okWide C.prog (w.forCall tape i) .any w.heap.size f i ∧
      ((s.pre enc C.prog fn conds apart (w.forCall tape i).memory i.args ∧ X (w.forCall tape i).memory i.args) ∧ sizedMet enc C.prog fn (OpenSpec.ofChange s) apart (w.forCall tape i).memory i.args) ∧ a.holds C.prog (lone (Frame.enter C.prog f i.args .normal) [] (w.forCall tape i)))
    (contract : ∀ (W : World) (base : Nat) (args : Array Value) (ds gs : List (DataW H)) (before : List MemPlace),
      (∀ (j : Nat) t v, fn.params[j]? = some t → args[j]? = some v → Value.okWide C.prog W .any base t v) →
      DataW.Whole enc C.prog fn.params.toList s.vars apart W args.toList ds gs before →
      conds.all (PathCond.test C.prog ⟨fn.params.toList, ds, s.plain.varTypes C.prog, gs⟩) = true →
      (DataW.weightsEach C.prog (fn.params.toList ++ s.plain.varTypes C.prog) (ds ++ gs)).all (· ≤ reachBytes) = true → X W args → W.ShapedOpen C.prog →
      a.holds C.prog (lone (Frame.enter C.prog f args .normal) [] W) →
      Calls C.prog f args W fun e W' => ∃ v, e = .returned v ∧ s.post enc C.prog fn apart fresh handsOn again W args v W') :
    ReturnsInHanded a C os f .any (fun w args => (s.pre enc C.prog fn conds apart w args ∧ X w args) ∧ sizedMet enc C.prog fn (OpenSpec.ofChange s) apart w args) (s.post enc C.prog fn apart fresh handsOn again) := by
  refine returnsInHanded_of_calls own started noInit witness ?_
  intro w tape i _ hsh _ hok hpre hholds
  obtain ⟨_, _, _, fn', hfn', _, _, _, _, hval⟩ := hok
  obtain rfl : fn' = fn := Option.some.inj (hfn'.symm.trans hfn)
  obtain ⟨⟨⟨ds, gs, before, hw, hc⟩, hx⟩, hz⟩ := hpre
  refine (contract (w.forCall tape i) w.heap.size i.args ds gs before hval (DataW.Whole.of_heap (w' := w.forCall tape i) (by rfl) hw) hc (hz.weights hw) (hX _ _ _ (by rfl) hx) hsh hholds).mono fun e W' ⟨v, he, hp⟩ => ?_
  subst he
  exact ChangeSpec.post_blind hp
end Go.Pub
namespace Go.Proofs.YtpoafhgbhnblmaaGreatDoor
open Go.RowKit Go.Pub Go.ChangeShapes Go.WideShapes
set_option maxRecDepth 100000 in
theorem open_strsC {H : Type} {enc : TypeId × Value → H} {W : World} {r : Reach} {b0 : Nat} {v : Value} {d : DataW H} {p : List MemPlace} (hv : Value.okWide Tryz.prog W r b0 22 v) (h : DataW.Trod enc Tryz.prog W 0 (fun _ => true) true 22 v d p) :
    ∃ zs A c, v = .slice A zs.length c ∧ Reads W W.heap.size 1 A zs.length (Pub.strs zs) ∧ zs.length ≤ maxLen ∧ (∀ x ∈ zs, x.size ≤ maxLen) ∧ zs.length ≤ c ∧ c ≤ maxLen := by
  obtain ⟨a0, len0, cap0, rfl⟩ := okWide_slice Tryz.underlying22 hv
  obtain ⟨fuel, hf⟩ := h
  rcases open_strings Tryz.underlying22 Tryz.underlying9 (by kernel_rfl) hf with ⟨e1, -⟩ | ⟨ad, len, cap, ss, e1, -, hl, hm, hlen, -, hc, hsz⟩
  · have e1 : [Value.slice a0 len0 cap0] = [.slice none 0 0] := e1
    injection e1 with e1 _
    exact ⟨[], none, 0, e1, Reads.none_, Nat.zero_le _, fun x hx => absurd hx (by simp), Nat.le_refl _, Nat.zero_le _⟩
  · have e1 : [Value.slice a0 len0 cap0] = [.slice (some ad) len cap] := e1
    injection e1 with e1 _
    simp at hlen
    have hlt : (ss.take len).length = len := by rw [List.length_take]; omega
    refine ⟨ss.take len, some ad, cap, by rw [hlt]; exact e1, ⟨by rw [hlt, strs_len, hlt]; omega, fun hn => ⟨ad, rfl, ?_, fun j u hu => ?_⟩⟩, by omega, fun x hx => hsz x (List.mem_of_mem_take hx), by rw [hlt]; exact hl, hm⟩
    · have := World.block_lt_of_cell? W _ (hc 0 (by omega))
      rwa [block_of_add] at this
    · have hj : j < (Pub.strs (ss.take len)).length := (List.getElem?_eq_some_iff.1 hu).1
      rw [strs_len] at hj
      rw [strs_at _ j hj] at hu
      injection hu with hu
      subst hu
      have := hc j (by omega)
      rw [this]
      simp [List.getD_eq_getElem?_getD, List.getElem?_eq_getElem (show j < ss.length by omega)]

end Go.Proofs.YtpoafhgbhnblmaaGreatDoor
