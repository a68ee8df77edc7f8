/-
  Texts of the proof, put together: RmE, RmI, RmJ, RmK.
-/
import Derived.Test.YthfienjmigidbaaGreatDoorB37
import Derived.Test.YthfienjmigidbaaGreatDoorB22
set_option linter.unusedVariables false
set_option linter.unusedSimpArgs false
namespace Go.Proofs.YthfienjmigidbaaGreatDoor
open Go.RowKit Go.Pub

theorem note_eq (c : ByteArray) (h2 : 2 ≤ c.size) : noteX (c.extract 2 c.size) = if nameB (c.extract 2 (brkA c 2)) = true ∧ brkA c 2 + 1 < c.size ∧ bt c (brkA c 2 + 1) = 58 then some { kind := 10, info := c.extract 2 (brkA c 2), off := 4, rest := stripB (c.extract (brkA c 2 + 2) c.size) 1 } else none := by
  unfold noteX brkA
  rw [ext_eq]
  have e2 : bytesL (ext c 2) = sfx c 2 := ext_bytes c 2
  unfold cutB cutRest cutHead
  rw [e2, ext_eq, ext_ext]
  generalize brk (sfx c 2) = b
  have hz : (ext c 2).size = c.size - 2 := ext_size c 2
  have hh : mk ((sfx c 2).take b) = c.extract 2 (2 + b) := by
    rw [← mk_bytesL (c.extract 2 (2 + b)), bytesL_sub]
    show mk ((sfx c 2).take b) = mk ((sfx c 2).take (2 + b - 2))
    rw [show 2 + b - 2 = b by omega]
  rw [hh]
  have e3 : 2 + (b + 1) = 2 + b + 1 := by omega
  rw [e3]
  have hp := pre_one (ext c (2 + b + 1)) 58
  rw [ext_size] at hp
  by_cases hb : b < (ext c 2).size
  · rw [if_pos hb, decide_eq_true hb]
    by_cases hn : nameB (c.extract 2 (2 + b)) = true
    · by_cases hq : 2 + b + 1 < c.size ∧ bt c (2 + b + 1) = 58
      · have hp1 : Lib.hasPrefix (bytesL (ext c (2 + b + 1))) [58] = true := hp.2 ⟨by omega, by rw [ext_bt c _ 0 (by omega)]; exact hq.2⟩
        rw [if_pos ⟨rfl, hn, hp1⟩, if_pos ⟨hn, hq⟩, tl1_sfx, ext_sfx, ext_eq]
        rfl
      · rw [if_neg, if_neg (fun e => hq e.2)]
        rintro ⟨_, _, e⟩
        have h7 := hp.1 e
        have h8 : 2 + b + 1 < c.size := by omega
        have h9 := h7.2
        rw [ext_bt c _ 0 (by omega)] at h9
        exact hq ⟨h8, h9⟩
    · rw [if_neg (fun e => hn e.2.1), if_neg (fun e => hn e.1)]
  · rw [if_neg (fun e => hb (of_decide_eq_true e.1)), if_neg (fun e => by have := e.2.1; omega)]

set_option maxRecDepth 100000 in
set_option maxHeartbeats 4000000 in
theorem r5_note (c : ByteArray) (w : World) (hs : c.size ≤ 1000000) : Calls Tryz.prog 51 #[.string c] w (MkPost ((noteM c).getD {}) w) := by
  have hB : Hid (∀ x y z, Below w.heap.size w (w.alloc (.cells x y z))) := Lib.hid fun _ _ _ => (Below.refl _ w).alloc (Nat.le_refl _) _
  by_cases h2 : c.size < 2
  · have HF : Hid (noteM c = none) := Lib.hid (by
      unfold noteM
      rw [if_neg]
      intro h
      have := pre_len h
      simp at this
      omega)
    have d3 : decide ((c.size : Int) < 2) = true := decide_eq_true (by omega)
    have d4 : decide (c.size < 2) = true := decide_eq_true h2
    generalize noteM c = R at *
    go_enter Tryz.func51, Tryz.ntmps51
    go_wp2_with fail
    exact rnote_ret (Blk.new w _ _) rfl rfl (rmk_none HF.out (hB.out _ _ _))
  have h2' : 2 ≤ c.size := by omega
  have h2i : (2 : Int) ≤ (c.size : Int) := by omega
  have d3 : decide ((c.size : Int) < 2) = false := decide_eq_false (by omega)
  have d4 : decide (c.size < 2) = false := decide_eq_false h2
  have HR : Hid (noteM c = if ((c.extract 0 2).toList == (⟨#[91, 94]⟩ : ByteArray).toList) = true then noteX (c.extract 2 c.size) else none) := Lib.hid (by unfold noteM; rw [pre_two c 91 94 h2'])
  generalize noteM c = R at *
  generalize hX : c.extract 0 2 = X at *
  cases hp : (X.toList == (⟨#[91, 94]⟩ : ByteArray).toList)
  · have HF : Hid (R = none) := Lib.hid (by rw [HR.out, hp]; rfl)
    have hl : (⟨#[91, 94]⟩ : ByteArray).toList = [91, 94] := by decide +kernel
    have hp' : (X.toList == [91, 94]) = false := by rw [← hl]; exact hp
    clear HR
    go_enter Tryz.func51, Tryz.ntmps51
    go_wp2_with fail
    exact rnote_ret (Blk.new w _ _) rfl rfl (rmk_none HF.out (hB.out _ _ _))
  have HR2 : Hid (R = if nameB (c.extract 2 (brkA c 2)) = true ∧ brkA c 2 + 1 < c.size ∧ bt c (brkA c 2 + 1) = 58 then some { kind := 10, info := c.extract 2 (brkA c 2), off := 4, rest := stripB (c.extract (brkA c 2 + 2) c.size) 1 } else none) := Lib.hid (by rw [HR.out, hp, ← note_eq c h2']; rfl)
  obtain rfl : X = ⟨#[91, 94]⟩ := (Lib.bytes_beq_iff _ _).1 hp
  have hp' : ((⟨#[91, 94]⟩ : ByteArray).toList != (⟨#[91, 94]⟩ : ByteArray).toList) = false := by simp
  clear HR hp
  obtain ⟨K, hK⟩ : ∃ K, K = brkA c 2 := ⟨_, rfl⟩
  rw [← hK] at HR2
  have HK := Lib.hid hK.symm
  clear hK
  have HZ0 : Hid (ZM (w.alloc (.cells #[.int .i64 0, .int .i64 0, .string ⟨#[]⟩, .int .i64 0, .string ⟨#[]⟩, .string ⟨#[]⟩, .string ⟨#[]⟩, .string ⟨#[]⟩, .string ⟨#[]⟩, .slice none 0 0, .slice none 0 0] 27)) w.heap.size) := Lib.hid (Blk.new w _ _)
  have HB0 : Hid (Below w.heap.size w (w.alloc (.cells #[.int .i64 0, .int .i64 0, .string ⟨#[]⟩, .int .i64 0, .string ⟨#[]⟩, .string ⟨#[]⟩, .string ⟨#[]⟩, .string ⟨#[]⟩, .string ⟨#[]⟩, .slice none 0 0, .slice none 0 0] 27))) := Lib.hid (hB.out _ _ _)
  go_enter Tryz.func51, Tryz.ntmps51
  go_wp2_with fail
  go_loop [3] (fun v => ∃ k : Nat, v = .int .i64 k ∧ 2 ≤ k ∧ k ≤ c.size ∧ Hid (brkA c k = K)) (fun v => c.size - (intOf v).toNat)
  case atStart => exact ⟨2, rfl, Nat.le_refl _, h2', HK⟩
  case round =>
    obtain ⟨k, rfl, hk2, hks, Hk⟩ := hrel
    clear HK
    have hmain : (∃ h : k < c.size, (((c[k].toNat : Nat) : Int) != 93) = true ∧ Hid (brkA c (k + 1) = K)) ∨ (((decide ((k : Int) < (c.size : Int)) = false ∧ decide (k < c.size) = false) ∨ ∃ h : k < c.size, (((c[k].toNat : Nat) : Int) != 93) = false) ∧ K = k) := by
      by_cases hlt : k < c.size
      · by_cases hc : bt c k = 93
        · right; exact ⟨Or.inr ⟨hlt, by rw [get_bt c k hlt, hc]; rfl⟩, by rw [← Hk.out, brkA_stop c k hlt hc]⟩
        · left; exact ⟨hlt, by rw [get_bt c k hlt, bne_iff_ne]; omega, Lib.hid (by rw [← Hk.out, brkA_step c k hlt hc])⟩
      · right; exact ⟨Or.inl ⟨decide_eq_false (by omega), decide_eq_false hlt⟩, by rw [← Hk.out, brkA_end c k (by omega)]⟩
    clear Hk
    rcases hmain with ⟨hlt, z1, HN⟩ | ⟨hex, rfl⟩
    · go_wp2_with fail
      go_round
      case rel => exact ⟨k + 1, by go_num, by omega, by omega, HN⟩
      case measure => simp [intOf]; omega
    have hnz : (c.extract 2 K).size < 9223372036854775807 := by rw [ByteArray.size_extract]; omega
    have HNa := Lib.hid fun W => rname_any (c.extract 2 K) W hnz
    have hKi : (2 : Int) ≤ (K : Int) := by omega
    have hKs : (K : Int) ≤ (c.size : Int) := by omega
    generalize hNN : c.extract 2 K = NM at *
    have htest : (nameB NM = false ∧ Hid (R = none)) ∨ (nameB NM = true ∧ (decide ((c.size : Int) ≤ (K : Int) + 1) = true ∧ decide (c.size ≤ K + 1) = true) ∧ Hid (R = none)) ∨ (nameB NM = true ∧ (decide ((c.size : Int) ≤ (K : Int) + 1) = false ∧ decide (c.size ≤ K + 1) = false) ∧ ∃ h : K + 1 < c.size, ((((c[K + 1].toNat : Nat) : Int) != 58) = true ∧ Hid (R = none)) ∨ ((((c[K + 1].toNat : Nat) : Int) != 58) = false ∧ Hid (R = some { kind := 10, info := NM, off := 4, rest := stripB (c.extract (K + 2) c.size) 1 }))) := by
      cases hn : nameB NM
      · left; exact ⟨rfl, Lib.hid (by rw [HR2.out, if_neg (fun e => by rw [hn] at e; cases e.1)])⟩
      · right
        by_cases h1 : K + 1 < c.size
        · right
          refine ⟨rfl, ⟨decide_eq_false (by omega), decide_eq_false (by omega)⟩, h1, ?_⟩
          by_cases hc : bt c (K + 1) = 58
          · right; exact ⟨by rw [get_bt c _ h1, hc]; rfl, Lib.hid (by rw [HR2.out, if_pos ⟨hn, h1, hc⟩])⟩
          · left; exact ⟨by rw [get_bt c _ h1, bne_iff_ne]; omega, Lib.hid (by rw [HR2.out, if_neg (fun e => hc e.2.2)])⟩
        · left; exact ⟨rfl, ⟨decide_eq_true (by omega), decide_eq_true (by omega)⟩, Lib.hid (by rw [HR2.out, if_neg (fun e => h1 e.2.1)])⟩
    clear HR2
    rcases htest with ⟨t1, HF⟩ | ⟨t1, t2, HF⟩ | ⟨t1, t2, h1, ⟨t3, HF⟩ | ⟨t3, HF⟩⟩
    · rw [t1] at HNa
      rcases hex with ⟨x1, x2⟩ | ⟨x0, x1⟩
      all_goals
        go_wp2_with fail
        ((with_reducible refine (HNa.out _).mono ?_))
        rintro e w0 ⟨rfl, rfl⟩
        go_wp2_with fail
        exact rnote_ret (Blk.new w _ _) rfl rfl (rmk_none HF.out HB0.out)
    · rw [t1] at HNa
      obtain ⟨t2, t2'⟩ := t2
      rcases hex with ⟨x1, x2⟩ | ⟨x0, x1⟩
      all_goals
        go_wp2_with fail
        ((with_reducible refine (HNa.out _).mono ?_))
        rintro e w0 ⟨rfl, rfl⟩
        go_wp2_with fail
        exact rnote_ret (Blk.new w _ _) rfl rfl (rmk_none HF.out HB0.out)
    · rw [t1] at HNa
      obtain ⟨t2, t2'⟩ := t2
      rcases hex with ⟨x1, x2⟩ | ⟨x0, x1⟩
      all_goals
        go_wp2_with fail
        ((with_reducible refine (HNa.out _).mono ?_))
        rintro e w0 ⟨rfl, rfl⟩
        go_wp2_with fail
        exact rnote_ret (Blk.new w _ _) rfl rfl (rmk_none HF.out HB0.out)
    · rw [t1] at HNa
      obtain ⟨t2, t2'⟩ := t2
      have HAf : Hid (∀ W, Calls Tryz.prog 92 #[.string c, .int .i64 ((K : Int) + 2)] W fun e w' => e = .returned (.string (stripB (c.extract (K + 2) c.size) 1)) ∧ w' = W) := Lib.hid fun W => by
        have h := r5_after c (K + 2) W hs (by omega)
        exact h.mono fun e w' hh => ⟨hh.1, hh.2.symm⟩
      generalize stripB (c.extract (K + 2) c.size) 1 = S at *
      have hwr : IntKind.i64.wrap ((K : Int) + 2) = (K : Int) + 2 := by rw [IntKind.wrap_i64]; omega
      have HZ := HZ0.out
      obtain ⟨k0, k1, k2, k3, k4, k5, k6, k7, k8, k9, k10, y0, y1, y2, y3, y4, y5, y6, y7, y8, y9, y10⟩ := ZM.facts HZ
      rcases hex with ⟨x1, x2⟩ | ⟨x0, x1⟩
      all_goals
        go_wp2_with fail
        ((with_reducible refine (HNa.out _).mono ?_))
        rintro e w0 ⟨rfl, rfl⟩
        go_wp2_with fail
        have HB1 := HB0.out
        generalize w.alloc (.cells #[.int .i64 0, .int .i64 0, .string ⟨#[]⟩, .int .i64 0, .string ⟨#[]⟩, .string ⟨#[]⟩, .string ⟨#[]⟩, .string ⟨#[]⟩, .string ⟨#[]⟩, .slice none 0 0, .slice none 0 0] 27) = W3 at *
        refine wp_region_still_tail 8 (by kernel_rfl) (by kernel_rfl) ?_
        simp only [List.take_succ_cons, List.take_zero, List.drop_succ_cons, List.drop_zero]
        repeat still_step
        still_call (HAf.out _)
        repeat still_step
        refine wpStill_nil ?_
        go_wp2_with fail
        exact rnote_ret (Blk.drewN (blk11 HZ _ _ _ _ _ _ _ _ _ _ _) 1) rfl rfl (rmk_plain (m := { kind := 10, info := NM, off := 4, rest := S }) HF.out rfl (below_drewN (below11 HB1 (Nat.le_refl _) _ _ _ _ _ _ _ _ _ _ _) 1))
end Go.Proofs.YthfienjmigidbaaGreatDoor
namespace Go.Proofs.YthfienjmigidbaaGreatDoor
open Go.RowKit Go.Pub

set_option maxRecDepth 100000 in
set_option maxHeartbeats 4000000 in
theorem r5_div (c : ByteArray) (w : World) (hs : c.size ≤ 1000000) : Calls Tryz.prog 50 #[.string c] w (MkPost ((divM c).getD {}) w) := by
  have HRn : Hid (∀ W, Calls Tryz.prog 31 #[.string c, .int .i64 0, .int .u8 58] W fun e w' => e = .returned (.int .i64 (firstN c (· != 58))) ∧ W = w') := Lib.hid fun W => r5_run c 58 W hs (by omega)
  have hnl := firstN_le c (· != 58)
  have HR : Hid (divM c = if 3 ≤ firstN c (· != 58) then divT (mk (trimS (sfx c (firstN c (· != 58))))) (firstN c (· != 58)) else none) := Lib.hid rfl
  generalize divM c = R at *
  generalize firstN c (· != 58) = n at *
  have hB : Hid (∀ x y z, Below w.heap.size w (w.alloc (.cells x y z))) := Lib.hid fun _ _ _ => (Below.refl _ w).alloc (Nat.le_refl _) _
  by_cases h3 : n < 3
  · have HF : Hid (R = none) := Lib.hid (by rw [HR.out, if_neg (by omega)])
    have y1 : decide ((n : Int) < 3) = true := decide_eq_true (by omega)
    have y2 : decide (n < 3) = true := decide_eq_true h3
    clear HR
    go_enter Tryz.func50, Tryz.ntmps50
    go_wp2_with fail
    ((with_reducible refine (HRn.out _).mono ?_))
    rintro e w0 ⟨rfl, rfl⟩
    go_wp2_with fail
    exact rdiv_ret (Blk.new w _ _) rfl rfl (rmk_none HF.out (hB.out _ _ _))
  have y1 : decide ((n : Int) < 3) = false := decide_eq_false (by omega)
  have y2 : decide (n < 3) = false := decide_eq_false h3
  have HR2 := Lib.hid (HR.out.trans ((if_pos (by omega)).trans (div_eq c n hnl)))
  clear HR
  have HSp : Hid (∀ W, Calls Tryz.prog 30 #[.string c, .int .i64 n] W fun e w' => e = .returned (.int .i64 (indA c n)) ∧ W = w') := Lib.hid fun W => r5_spaces c n W hs hnl
  have hbd := indA_bd c n hnl
  generalize indA c n = b at *
  have HWd := Lib.hid fun W => r5_word c b W hs hbd.2
  have hwl := runF_le c b partN
  generalize runF c b partN = K at *
  have hnz : (c.extract b (b + K)).size < 9223372036854775807 := by rw [ByteArray.size_extract]; omega
  have HNa := Lib.hid fun W => rname_any (c.extract b (b + K)) W hnz
  have HAr : Hid (∀ W, Calls Tryz.prog 32 #[.string c, .int .i64 ((b : Int) + (K : Int))] W (ClPost (optA (attrRestM c (b + K))) W)) := Lib.hid fun W => r5_attrRest c (b + K) W hs (by omega)
  generalize attrRestM c (b + K) = AR at *
  have hwr : IntKind.i64.wrap ((b : Int) + (K : Int)) = (b : Int) + (K : Int) := by rw [IntKind.wrap_i64]; omega
  have hbi : (b : Int) ≤ (c.size : Int) := by omega
  have hbK : (b : Int) + (K : Int) ≤ (c.size : Int) := by omega
  have hbK2 : (b : Int) ≤ (b : Int) + (K : Int) := by omega
  have hbK3 : ((b : Int) + (K : Int)).toNat = b + K := by omega
  have hbK4 : b + K ≤ c.size := by omega
  generalize hNN : c.extract b (b + K) = NM at *
  cases hnm : nameB NM
  · have HF : Hid (R = none) := Lib.hid (by rw [HR2.out, if_neg (by rw [hnm]; exact Bool.false_ne_true)])
    rw [hnm] at HNa
    clear HR2 HAr
    go_enter Tryz.func50, Tryz.ntmps50
    go_wp2_with fail
    ((with_reducible refine (HRn.out _).mono ?_))
    rintro e w0 ⟨rfl, rfl⟩
    go_wp2_with fail
    ((with_reducible refine (HSp.out _).mono ?_))
    rintro e w0 ⟨rfl, rfl⟩
    go_wp2_with fail
    ((with_reducible refine (HWd.out _).mono ?_))
    rintro e w0 ⟨rfl, rfl⟩
    go_wp2_with fail
    ((with_reducible refine (HNa.out _).mono ?_))
    rintro e w0 ⟨rfl, rfl⟩
    go_wp2_with fail
    exact rdiv_ret (Blk.new w _ _) rfl rfl (rmk_none HF.out (hB.out _ _ _))
  rw [hnm] at HNa
  have HR3 : Hid (R = AR.map fun a => { kind := 9, n := n, info := NM, att := a }) := Lib.hid (by rw [HR2.out, if_pos hnm])
  clear HR2
  cases AR with
  | none =>
    have HF : Hid (R = none) := Lib.hid HR3.out
    clear HR3
    go_enter Tryz.func50, Tryz.ntmps50
    go_wp2_with fail
    ((with_reducible refine (HRn.out _).mono ?_))
    rintro e w0 ⟨rfl, rfl⟩
    go_wp2_with fail
    ((with_reducible refine (HSp.out _).mono ?_))
    rintro e w0 ⟨rfl, rfl⟩
    go_wp2_with fail
    ((with_reducible refine (HWd.out _).mono ?_))
    rintro e w0 ⟨rfl, rfl⟩
    go_wp2_with fail
    ((with_reducible refine (HNa.out _).mono ?_))
    rintro e w0 ⟨rfl, rfl⟩
    go_wp2_with fail
    ((with_reducible refine (HAr.out _).mono ?_))
    rintro e w1 ⟨⟨vC, vP, rfl, ho⟩, b1⟩
    obtain ⟨qA, qc, rfl⟩ := own_slice ho.cls
    obtain ⟨qD, qd, rfl⟩ := own_slice ho.prs
    obtain ⟨HZ1, HB1⟩ := zw_after b1
    simp only [optA] at *
    have HZ := Blk.alloc HZ1 (.cells #[.string emptyA.id, .slice qA emptyA.cl.length qc, .slice qD emptyA.pr.length qd] 25)
    have HB := HB1.alloc HB1.size (.cells #[.string emptyA.id, .slice qA emptyA.cl.length qc, .slice qD emptyA.pr.length qd] 25)
    obtain ⟨k0, k1, k2, k3, k4, k5, k6, k7, k8, k9, k10, v0, v1, v2, v3, v4, v5, v6, v7, v8, v9, v10⟩ := ZM.facts HZ
    go_wp2_with fail
    exact rdiv_ret (blk11 HZ _ _ _ _ _ _ _ _ _ _ _) rfl rfl (rmk_none HF.out (below11 HB (Nat.le_refl _) _ _ _ _ _ _ _ _ _ _ _))
  | some a =>
    have HF : Hid (R = some { kind := 9, n := n, info := NM, att := a }) := Lib.hid HR3.out
    clear HR3
    have HAr2 : Hid (∀ W, Calls Tryz.prog 32 #[.string c, .int .i64 ((b : Int) + (K : Int))] W (ClPost (a, true) W)) := HAr
    clear HAr
    go_enter Tryz.func50, Tryz.ntmps50
    go_wp2_with fail
    ((with_reducible refine (HRn.out _).mono ?_))
    rintro e w0 ⟨rfl, rfl⟩
    go_wp2_with fail
    ((with_reducible refine (HSp.out _).mono ?_))
    rintro e w0 ⟨rfl, rfl⟩
    go_wp2_with fail
    ((with_reducible refine (HWd.out _).mono ?_))
    rintro e w0 ⟨rfl, rfl⟩
    go_wp2_with fail
    ((with_reducible refine (HNa.out _).mono ?_))
    rintro e w0 ⟨rfl, rfl⟩
    go_wp2_with fail
    ((with_reducible refine (HAr2.out _).mono ?_))
    rintro e w1 ⟨⟨vC, vP, rfl, ho⟩, b1⟩
    obtain ⟨qA, qc, rfl⟩ := own_slice ho.cls
    obtain ⟨qD, qd, rfl⟩ := own_slice ho.prs
    obtain ⟨HZ1, HB1⟩ := zw_after b1
    have HZ := Blk.alloc HZ1 (.cells #[.string a.id, .slice qA a.cl.length qc, .slice qD a.pr.length qd] 25)
    have HB := Lib.hid (HB1.alloc HB1.size (.cells #[.string a.id, .slice qA a.cl.length qc, .slice qD a.pr.length qd] 25))
    have ho2 : OwnA w1 (w.heap.size + 1) a (.slice qA a.cl.length qc) (.slice qD a.pr.length qd) := by
      have e : (zw w).heap.size = w.heap.size + 1 := zw_size w
      rw [← e]; exact ho
    have HO := Lib.hid (ho2.below ((Below.refl _ _).alloc (Nat.le_refl _) (.cells #[.string a.id, .slice qA a.cl.length qc, .slice qD a.pr.length qd] 25)))
    have hn := Blk.new w1 25 #[.string a.id, .slice qA a.cl.length qc, .slice qD a.pr.length qd]
    have e0 := hn.cell 0
    have e1 := hn.cell 1
    have e2 := hn.cell 2
    clear b1 ho ho2 HZ1 HB1 hn
    obtain ⟨k0, k1, k2, k3, k4, k5, k6, k7, k8, k9, k10, v0, v1, v2, v3, v4, v5, v6, v7, v8, v9, v10⟩ := ZM.facts HZ
    go_wp2_with fail
    generalize (w1.alloc (.cells #[.string a.id, .slice qA a.cl.length qc, .slice qD a.pr.length qd] 25)) = W3 at *
    refine wp_region_still_tail 7 (by kernel_rfl) (by kernel_rfl) ?_
    simp only [List.take_succ_cons, List.take_zero, List.drop_succ_cons, List.drop_zero]
    repeat still_step
    refine wpStill_nil ?_
    go_wp2_with fail
    refine rdiv_ret (Blk.drewN (blk11 HZ _ _ _ _ _ _ _ _ _ _ _) 1) rfl rfl (rmk_own (m := { kind := 9, n := n, info := NM, att := a }) HF.out ?_ (below_drewN (below11 HB.out (Nat.le_refl _) _ _ _ _ _ _ _ _ _ _ _) 1))
    exact ownA_low ((ownA_far HO.out (grown11 _ _ _ _ _ _ _ _ _ _ _ _ _) (Nat.lt_succ_self _)).below (below_drewN (Below.refl _ _) 1)) (Nat.le_succ _)
end Go.Proofs.YthfienjmigidbaaGreatDoor
namespace Go.Proofs.YthfienjmigidbaaGreatDoor
open Go.RowKit Go.Pub

theorem ruleCnt_next (c : ByteArray) (k : Nat) : ruleCnt c (k + 1) = ruleCnt c k + if bt c k = bt c 0 then 1 else 0 := by
  unfold ruleCnt
  rw [List.range_succ, List.filter_append, List.length_append]
  by_cases h : bt c k = bt c 0
  · rw [if_pos h, List.filter_cons_of_pos (by rw [beq_iff_eq]; exact h)]; rfl
  · rw [if_neg h, List.filter_cons_of_neg (by rw [beq_iff_eq]; exact h)]; rfl
theorem ruleAll_iff (c : ByteArray) : ruleAll c = true ↔ ∀ j, j < c.size → ruleOk c j = true := by
  unfold ruleAll
  rw [List.all_eq_true]
  exact ⟨fun h j hj => h j (List.mem_range.2 hj), fun h j hj => h j (List.mem_range.1 hj)⟩

set_option maxRecDepth 100000 in
set_option maxHeartbeats 8000000 in
theorem r5_rule (c : ByteArray) (w : World) (hs : c.size ≤ 1000000) (h0 : 0 < c.size) : Calls Tryz.prog 45 #[.string c] w (MkPost ((ruleM c).getD {}) w) := by
  have hg := get_bt c 0 h0
  have HR : Hid (ruleM c = if (bt c 0 = 45 ∨ bt c 0 = 42 ∨ bt c 0 = 95) ∧ ruleAll c = true then (if decide (3 ≤ ruleCnt c c.size) = true then some { kind := 3, ch := c.extract 0 1 } else none) else none) := Lib.hid rfl
  generalize ruleM c = R at *
  have hB : Hid (∀ x y z, Below w.heap.size w (w.alloc (.cells x y z))) := Lib.hid fun _ _ _ => (Below.refl _ w).alloc (Nat.le_refl _) _
  by_cases hq : bt c 0 = 45 ∨ bt c 0 = 42 ∨ bt c 0 = 95
  case neg =>
    have z1 : (((bt c 0 : Nat) : Int) != 45) = true := by rw [bne_iff_ne]; omega
    have z2 : (((bt c 0 : Nat) : Int) != 42) = true := by rw [bne_iff_ne]; omega
    have z3 : (((bt c 0 : Nat) : Int) != 95) = true := by rw [bne_iff_ne]; omega
    have HF : Hid (R = none) := Lib.hid (by rw [HR.out, if_neg (fun h => hq h.1)])
    clear HR hq
    go_enter Tryz.func45, Tryz.ntmps45
    go_wp2_with fail
    exact rrule_ret (Blk.new w _ _) rfl rfl (rmk_none HF.out (hB.out _ _ _))
  have HR2 : Hid (R = if ruleAll c = true then (if decide (3 ≤ ruleCnt c c.size) = true then some { kind := 3, ch := c.extract 0 1 } else none) else none) := Lib.hid (by
    rw [HR.out]
    by_cases h : ruleAll c = true
    · rw [if_pos h, if_pos ⟨hq, h⟩]
    · rw [if_neg h, if_neg (fun e => h e.2)])
  have h1 : 1 ≤ c.size := h0
  have h1i : (1 : Int) ≤ (c.size : Int) := by omega
  have h0i : (0 : Int) < (c.size : Int) := by omega
  have HZ0 : Hid (ZM (w.alloc (.cells #[.int .i64 0, .int .i64 0, .string ⟨#[]⟩, .int .i64 0, .string ⟨#[]⟩, .string ⟨#[]⟩, .string ⟨#[]⟩, .string ⟨#[]⟩, .string ⟨#[]⟩, .slice none 0 0, .slice none 0 0] 27)) w.heap.size) := Lib.hid (Blk.new w _ _)
  have HB0 := Lib.hid (hB.out #[.int .i64 0, .int .i64 0, .string ⟨#[]⟩, .int .i64 0, .string ⟨#[]⟩, .string ⟨#[]⟩, .string ⟨#[]⟩, .string ⟨#[]⟩, .string ⟨#[]⟩, .slice none 0 0, .slice none 0 0] 27 (0, 0))
  have hcase : (((bt c 0 : Nat) : Int) != 45) = false ∨ ((((bt c 0 : Nat) : Int) != 45) = true ∧ (((bt c 0 : Nat) : Int) != 42) = false) ∨ ((((bt c 0 : Nat) : Int) != 45) = true ∧ (((bt c 0 : Nat) : Int) != 42) = true ∧ (((bt c 0 : Nat) : Int) != 95) = false) := by
    rcases hq with h | h | h
    · left; rw [h]; rfl
    · right; left; rw [h]; exact ⟨rfl, rfl⟩
    · right; right; rw [h]; exact ⟨rfl, rfl, rfl⟩
  clear HR hq
  obtain ⟨q0, hq0⟩ : ∃ q0, q0 = bt c 0 := ⟨_, rfl⟩
  have HQ0 := Lib.hid hq0
  clear hq0
  rcases hcase with z1 | ⟨z1, z2⟩ | ⟨z1, z2, z3⟩
  all_goals
    go_enter Tryz.func45, Tryz.ntmps45
    go_wp2_with fail
    go_loopw [3, 4] (fun p m wr => ∃ k q : Nat, p = .int .i64 q ∧ m = .int .i64 k ∧ k ≤ c.size ∧ q ≤ k ∧ Hid (q = ruleCnt c k) ∧ Hid (∀ j, j < k → ruleOk c j = true) ∧ Hid (ZM wr w.heap.size) ∧ Hid (Below w.heap.size w wr)) (fun p m wr => c.size - (intOf m).toNat)
    case atStart => exact ⟨0, 0, rfl, rfl, Nat.zero_le _, Nat.le_refl _, Lib.hid rfl, Lib.hid (fun j hj => absurd hj (Nat.not_lt_zero j)), HZ0, HB0⟩
    case round =>
      obtain ⟨k, q, rfl, rfl, hks, hqk, Hq, Hall, HZh, HBh⟩ := hrel
      clear HZ0 HB0 hB z1
      have HZ := HZh.out
      obtain ⟨k0, k1, k2, k3, k4, k5, k6, k7, k8, k9, k10, v0, v1, v2, v3, v4, v5, v6, v7, v8, v9, v10⟩ := ZM.facts HZ
      by_cases hlt : k < c.size
      · have hgk := get_bt c k hlt
        have hki : (k : Int) < (c.size : Int) := by omega
        have hstep := ruleCnt_next c k
        by_cases he : bt c k = bt c 0
        · have HN : Hid (q + 1 = ruleCnt c (k + 1)) := Lib.hid (by rw [hstep, if_pos he, Hq.out])
          have HA : Hid (∀ j, j < k + 1 → ruleOk c j = true) := Lib.hid (by
            intro j hj
            by_cases h : j < k
            · exact Hall.out j h
            · obtain rfl : j = k := by omega
              unfold ruleOk; rw [he, beq_self_eq_true]; rfl)
          have y1 : (((c[k].toNat : Nat) : Int) == ((bt c 0 : Nat) : Int)) = true := by rw [hgk, he, beq_self_eq_true]
          clear hstep he hgk Hq Hall
          go_wp2_with fail
          go_quiet (fail)
          go_wp2_with fail
          go_roundw
          case rel => exact ⟨k + 1, q + 1, by go_num, by go_num, by omega, by omega, HN, HA, Lib.hid (Blk.drewN HZh.out _), Lib.hid (below_drewN HBh.out _)⟩
          case measure => simp [intOf]; omega
        · have HN : Hid (q = ruleCnt c (k + 1)) := Lib.hid (by rw [hstep, if_neg he, Hq.out]; rfl)
          have y1 : (((c[k].toNat : Nat) : Int) == ((bt c 0 : Nat) : Int)) = false := by rw [hgk, beq_eq_false_iff_ne]; omega
          by_cases h32 : bt c k = 32
          · have HA : Hid (∀ j, j < k + 1 → ruleOk c j = true) := Lib.hid (by
              intro j hj
              by_cases h : j < k
              · exact Hall.out j h
              · obtain rfl : j = k := by omega
                unfold ruleOk; rw [h32]; simp)
            have y2 : (((c[k].toNat : Nat) : Int) != 32) = false := by rw [hgk, h32]; rfl
            clear hstep he hgk Hq Hall h32
            go_wp2_with fail
            go_quiet (fail)
            go_wp2_with fail
            go_roundw
            case rel => exact ⟨k + 1, q, by go_num, by go_num, by omega, by omega, HN, HA, Lib.hid (Blk.drewN HZh.out _), Lib.hid (below_drewN HBh.out _)⟩
            case measure => simp [intOf]; omega
          · have HF : Hid (R = none) := Lib.hid (by
              rw [HR2.out, if_neg]
              intro e
              have := (ruleAll_iff c).1 e k hlt
              unfold ruleOk at this
              rw [beq_eq_false_iff_ne.2 he, beq_eq_false_iff_ne.2 h32] at this
              cases this)
            have y2 : (((c[k].toNat : Nat) : Int) != 32) = true := by rw [hgk, bne_iff_ne]; omega
            clear hstep he hgk Hq Hall h32 HN HR2
            go_wp2_with fail
            go_quiet (fail)
            go_wp2_with fail
            exact rrule_ret (blk11 (Blk.drewN HZh.out _) _ _ _ _ _ _ _ _ _ _ _) rfl rfl (rmk_none HF.out (below11 (below_drewN HBh.out _) (Nat.le_refl _) _ _ _ _ _ _ _ _ _ _ _))
      · obtain rfl : k = c.size := by omega
        have HA : Hid (ruleAll c = true) := Lib.hid ((ruleAll_iff c).2 Hall.out)
        by_cases h3 : q < 3
        · have HF : Hid (R = none) := Lib.hid (by rw [HR2.out, if_pos HA.out, ← Hq.out, decide_eq_false (by omega)]; rfl)
          have d1 : decide ((q : Int) < 3) = true := decide_eq_true (by omega)
          have d2 : decide (q < 3) = true := decide_eq_true h3
          clear Hq Hall HA HR2
          go_wp2_with fail
          exact rrule_ret (blk11 HZ _ _ _ _ _ _ _ _ _ _ _) rfl rfl (rmk_none HF.out (below11 HBh.out (Nat.le_refl _) _ _ _ _ _ _ _ _ _ _ _))
        · have HF : Hid (R = some { kind := 3, ch := c.extract 0 1 }) := Lib.hid (by rw [HR2.out, if_pos HA.out, ← Hq.out, decide_eq_true (by omega)]; rfl)
          have d1 : decide ((q : Int) < 3) = false := decide_eq_false (by omega)
          have d2 : decide (q < 3) = false := decide_eq_false h3
          clear Hq Hall HA HR2
          go_wp2_with fail
          exact rrule_ret (blk11 HZ _ _ _ _ _ _ _ _ _ _ _) rfl rfl (rmk_plain (m := { kind := 3, ch := c.extract 0 1 }) HF.out rfl (below11 HBh.out (Nat.le_refl _) _ _ _ _ _ _ _ _ _ _ _))
end Go.Proofs.YthfienjmigidbaaGreatDoor
namespace Go.Proofs.YthfienjmigidbaaGreatDoor
open Go.RowKit Go.Pub

/-- An item by indices: n digits, their value v. -/
def itemT (c : ByteArray) (ind n v : Nat) : Option MkL :=
  if n ≤ 9 ∧ n < c.size ∧ ¬ (n + 1 < c.size ∧ bt c (n + 1) ≠ 32) ∧ ((n = 0 ∧ (bt c 0 = 45 ∨ bt c 0 = 43 ∨ bt c 0 = 42)) ∨ (0 < n ∧ (bt c n = 46 ∨ bt c n = 41)))
  then some { kind := if n = 0 then 5 else 6, n := v, ch := c.extract n (n + 1), info := c.extract 0 n, off := ind + n + 2, rest := stripB (c.extract (n + 1) c.size) 1 } else none
/-- An item. -/
def itemM (c : ByteArray) (ind : Nat) : Option MkL := itemT c ind (runF c 0 digN) (numVal c (runF c 0 digN))

theorem tl1_strip (c : ByteArray) (k : Nat) (hk : k ≤ c.size) (h : ¬ (k < c.size ∧ bt c k ≠ 32)) : tl1 (c.extract k c.size) = stripB (c.extract k c.size) 1 := by
  rw [after_strip c k hk]
  unfold tl1
  by_cases hl : k < c.size
  · have h32 : bt c k = 32 := by
      by_cases e : bt c k = 32
      · exact e
      · exact absurd ⟨hl, e⟩ h
    rw [if_pos ⟨hl, h32⟩, ext_eq, ext_eq, ext_eq, ext_ext]
  · obtain rfl : k = c.size := by omega
    rw [if_neg (fun e => hl e.1)]
    have hz : (c.extract c.size c.size).size = 0 := by rw [ByteArray.size_extract]; omega
    rw [hz, ext_eq, ← mk_bytesL ((ext c c.size).extract 1 0), bytesL_sub]
    unfold sub ext
    rw [sfx_nil c _ (Nat.le_refl _)]
    rfl
theorem numDig_run (c : ByteArray) : numDig c = runF c 0 digN := firstN_run c digN _ (fun b => rfl)
theorem item_bullet (c : ByteArray) (ind : Nat) (h0 : 0 < c.size) (h : runF c 0 digN = 0) : bulletM c ind = itemM c ind ∧ numberM c ind = none := by
  constructor
  · unfold bulletM itemM itemT
    rw [h]
    have hs := spB_at c 1 (by omega)
    have ht : tl1 c = c.extract 1 c.size := rfl
    rw [ht]
    by_cases hb : bt c 0 = 45 ∨ bt c 0 = 43 ∨ bt c 0 = 42
    · rw [if_pos hb]
      by_cases hsp : spB (c.extract 1 c.size) = true
      · have hn := hs.1 hsp
        rw [if_pos hsp, if_pos ⟨by omega, h0, hn, Or.inl ⟨rfl, hb⟩⟩, tl1_strip c 1 (by omega) hn]
        have e0 : c.extract 0 0 = ⟨#[]⟩ := by
          rw [← mk_bytesL (c.extract 0 0), bytesL_sub]; rfl
        rw [e0]
        rfl
      · rw [if_neg hsp, if_neg (fun e => hsp (hs.2 e.2.2.1))]
    · rw [if_neg hb, if_neg]
      rintro ⟨_, _, _, ⟨_, e⟩ | ⟨e, _⟩⟩
      · exact hb e
      · omega
  · unfold numberM numR
    rw [numDig_run, h, if_neg (fun e => by have := e.1.1; omega)]
theorem item_number (c : ByteArray) (ind : Nat) (h0 : 0 < c.size) (h : runF c 0 digN ≠ 0) : bulletM c ind = none ∧ numberM c ind = itemM c ind := by
  have hd : digN (bt c 0) = true := by
    cases e : digN (bt c 0)
    · exact absurd (runF_no c 0 digN h0 e) h
    · rfl
  have hd2 := (digN_iff _).1 hd
  constructor
  · unfold bulletM; rw [if_neg (by omega)]
  · unfold numberM numR itemM itemT
    rw [numDig_run]
    generalize runF c 0 digN = n at *
    generalize numVal c n = v
    by_cases hk : (1 ≤ n ∧ n ≤ 9 ∧ n < c.size) ∧ (bt c n = 46 ∨ bt c n = 41)
    · have hs := spB_at c (n + 1) (by omega)
      rw [if_pos hk]
      by_cases hsp : spB (c.extract (n + 1) c.size) = true
      · have hn := hs.1 hsp
        rw [if_pos hsp, if_pos ⟨hk.1.2.1, hk.1.2.2, hn, Or.inr ⟨by omega, hk.2⟩⟩, tl1_strip c (n + 1) (by omega) hn, if_neg h]
      · rw [if_neg hsp, if_neg (fun e => hsp (hs.2 e.2.2.1))]
    · rw [if_neg hk, if_neg]
      rintro ⟨e1, e2, _, ⟨e, _⟩ | ⟨e3, e4⟩⟩
      · exact h e
      · exact hk ⟨⟨by omega, e1, e2⟩, e4⟩
theorem first_item (c : ByteArray) (ind : Nat) (h0 : 0 < c.size) (l : List (Option MkL)) : firstS (bulletM c ind :: numberM c ind :: l) = firstS (itemM c ind :: l) := by
  by_cases h : runF c 0 digN = 0
  · obtain ⟨e1, e2⟩ := item_bullet c ind h0 h
    rw [e1, e2]
    cases itemM c ind <;> rfl
  · obtain ⟨e1, e2⟩ := item_number c ind h0 h
    rw [e1, e2]
    rfl
/-- The nine readers in the reference's order find what the ten find. -/
theorem first_nine (c : ByteArray) (ind : Nat) (h0 : 0 < c.size) : firstS (rdrs c ind) = firstS [headM c, ruleM c, quoteM c ind, itemM c ind, fenceM c ind, mathM c, divM c, noteM c, defM c] := by
  unfold rdrs
  have h := first_item c ind h0 [fenceM c ind, mathM c, divM c, noteM c, defM c]
  cases headM c with
  | some m => rfl
  | none =>
    cases ruleM c with
    | some m => rfl
    | none =>
      cases quoteM c ind with
      | some m => rfl
      | none => exact h
end Go.Proofs.YthfienjmigidbaaGreatDoor
