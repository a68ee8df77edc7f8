/-
  Texts of the proof, put together (what this law reaches): MkG, MkH.
-/
import Derived.Test.YtpoafhgbhnblmaaGreatDoorX16
import Derived.Deep.CutRange
import Derived.Deep.DeepCutAuto
set_option linter.unusedVariables false
set_option linter.unusedSimpArgs false
namespace Go.Proofs.YtpoafhgbhnblmaaGreatDoor
open Go.RowKit Go.Pub
theorem grown11 (W : World) (g : Nat) (y0 y1 y2 y3 y4 y5 y6 y7 y8 y9 y10 : Value) : W.grownBy (((((((((((W.setCell ⟨g, 0, none⟩ y0).setCell ⟨g, 1, none⟩ y1).setCell ⟨g, 2, none⟩ y2).setCell ⟨g, 3, none⟩ y3).setCell ⟨g, 4, none⟩ y4).setCell ⟨g, 5, none⟩ y5).setCell ⟨g, 6, none⟩ y6).setCell ⟨g, 7, none⟩ y7).setCell ⟨g, 8, none⟩ y8).setCell ⟨g, 9, none⟩ y9).setCell ⟨g, 10, none⟩ y10) (some g) :=
  (only_store (only_store (only_store (only_store (only_store (only_store (only_store (only_store (only_store (only_store (only_store (only_refl W (some g)) 0 y0) 1 y1) 2 y2) 3 y3) 4 y4) 5 y5) 6 y6) 7 y7) 8 y8) 9 y9) 10 y10)
theorem ownA_far {W W' : World} {base g : Nat} {a : AttrL} {vC vP : Value} (h : OwnA W base a vC vP) (hg : W.grownBy W' (some g)) (hlt : g < base) : OwnA W' base a vC vP :=
  ⟨own_only h.cls hg hlt, own_only h.prs hg hlt, Nat.le_trans h.le hg.size, h.c32, h.p32⟩
theorem ownA_low {W : World} {base base' : Nat} {a : AttrL} {vC vP : Value} (h : OwnA W base a vC vP) (hb : base' ≤ base) : OwnA W base' a vC vP :=
  ⟨own_base h.cls hb, own_base h.prs hb, Nat.le_trans hb h.le, h.c32, h.p32⟩
theorem mkVal_own {W : World} {base : Nat} {m : MkL} {vC vP : Value} (h : OwnA W base m.att vC vP) : MkVal W base (.agg (m.cells vC vP)) m := ⟨_, _, rfl, h⟩
theorem trim_tl (X : ByteArray) (h : spB X = true) : trimS (bytesL (tl1 X)) = trimS (bytesL X) := by
  have e : bytesL (tl1 X) = (bytesL X).drop 1 := by
    unfold tl1
    rw [extract_drop, bytesL_mk']; rfl
  rw [e]
  rcases Nat.eq_zero_or_pos X.size with h0 | h0
  · rw [(size_nil X).1 h0]; rfl
  · have hb : bt X 0 = 32 := by
      unfold spB at h
      rw [decide_eq_false (by omega)] at h
      simpa using h
    have := sfx_cons X 0 h0
    have e0 : sfx X 0 = bytesL X := by unfold sfx; rfl
    rw [e0] at this
    rw [this, (g32 X 0).2 hb]
    unfold trimS
    rw [trimF_sp]; rfl
def headM (c : ByteArray) : Option MkL :=
  if 1 ≤ firstN c (· != 35) ∧ firstN c (· != 35) ≤ 6 then (if spB (c.extract (firstN c (· != 35)) c.size) = true then some { kind := 2, n := firstN c (· != 35), rest := (attrEndR (mk (trimS (sfx c (firstN c (· != 35)))))).1, att := (attrEndR (mk (trimS (sfx c (firstN c (· != 35)))))).2 } else none) else none
set_option maxRecDepth 100000 in
set_option maxHeartbeats 2000000 in
theorem m_head (c : ByteArray) (ind : Nat) (w : World) (hs : c.size ≤ 1000000) (h0 : 0 < c.size) : Calls Tryz.prog 59 #[.string c, .int .i64 ind] w (RdPost (headM c) w) := by
  have hnl := firstN_le c (· != 35)
  have HRn : Hid (∀ W, Calls Tryz.prog 102 #[.string c, .int .u8 35] W fun e w' => e = .returned (.int .i64 (firstN c (· != 35))) ∧ Below W.heap.size W w') := Lib.hid fun W => m_run c 35 (by omega) W hs
  have HR : Hid (headM c = if 1 ≤ firstN c (· != 35) ∧ firstN c (· != 35) ≤ 6 then (if spB (c.extract (firstN c (· != 35)) c.size) = true then some { kind := 2, n := firstN c (· != 35), rest := (attrEndR (mk (trimS (sfx c (firstN c (· != 35)))))).1, att := (attrEndR (mk (trimS (sfx c (firstN c (· != 35)))))).2 } else none) else none) := Lib.hid rfl
  generalize headM c = R at *
  generalize firstN c (· != 35) = n at *
  have hxs : (c.extract n c.size).size ≤ 1000000 := by rw [ByteArray.size_extract]; omega
  have HAf := Lib.hid fun W => m_after (c.extract n c.size) W hxs
  have htl := tl1_size (c.extract n c.size)
  have HX := Lib.hid (extract_drop c n)
  have HTr : Hid (spB (c.extract n c.size) = true → ∀ W, Calls Tryz.prog 105 #[.string (tl1 (c.extract n c.size))] W fun e w' => e = .returned (.string (mk (trimS (sfx c n)))) ∧ W = w') := Lib.hid fun hsp W => by
    have h := t_trim (tl1 (c.extract n c.size)) W (by omega)
    rw [trim_tl _ hsp, HX.out, bytesL_mk', ← HX.out] at h
    exact h
  have htz : (mk (trimS (sfx c n))).size ≤ 1000000 := by rw [mk_size]; have := trimS_len (sfx c n); rw [sfx_len] at this; omega
  have HAE := Lib.hid fun W => m_attrEnd (mk (trimS (sfx c n))) W htz
  clear HX htl
  generalize attrEndR (mk (trimS (sfx c n))) = AE at *
  generalize mk (trimS (sfx c n)) = T at *
  generalize tl1 (c.extract n c.size) = Y at *
  generalize spB (c.extract n c.size) = q at *
  by_cases h1 : n < 1
  · have HF : Hid (R = none) := Lib.hid (by rw [HR.out, if_neg (by omega)])
    have d1 : decide ((n : Int) < 1) = true := decide_eq_true (by omega)
    have d2 : decide (n < 1) = true := decide_eq_true h1
    have d3 : decide (n = 0) = true := decide_eq_true (by omega)
    clear HR
    go_enter Tryz.func59, Tryz.ntmps59
    go_wp2_with fail
    ((with_reducible refine (HRn.out _).mono ?_))
    rintro e w' ⟨rfl, b1⟩
    obtain ⟨HZ, HB⟩ := zw_after b1
    obtain ⟨k0, k1, k2, k3, k4, k5, k6, k7, k8, k9, k10, y0, y1, y2, y3, y4, y5, y6, y7, y8, y9, y10⟩ := ZM.facts HZ
    go_wp2_with fail
    exact head_ret (blk11 HZ _ _ _ _ _ _ _ _ _ _ _) rfl rfl rfl (rd_none HF.out ⟨_, _, _, _, _, _, _, _, _, _, _, _, _, _, _, rfl⟩ (below11 HB (Nat.le_refl _) _ _ _ _ _ _ _ _ _ _ _))
  have d1 : decide ((n : Int) < 1) = false := decide_eq_false (by omega)
  have d2 : decide (n < 1) = false := decide_eq_false h1
  have d3 : decide (n = 0) = false := decide_eq_false (by omega)
  by_cases h6 : 6 < n
  · have HF : Hid (R = none) := Lib.hid (by rw [HR.out, if_neg (by omega)])
    have d4 : decide (6 < (n : Int)) = true := decide_eq_true (by omega)
    have d5 : decide (6 < n) = true := decide_eq_true h6
    clear HR
    go_enter Tryz.func59, Tryz.ntmps59
    go_wp2_with fail
    ((with_reducible refine (HRn.out _).mono ?_))
    rintro e w' ⟨rfl, b1⟩
    obtain ⟨HZ, HB⟩ := zw_after b1
    obtain ⟨k0, k1, k2, k3, k4, k5, k6, k7, k8, k9, k10, y0, y1, y2, y3, y4, y5, y6, y7, y8, y9, y10⟩ := ZM.facts HZ
    go_wp2_with fail
    exact head_ret (blk11 HZ _ _ _ _ _ _ _ _ _ _ _) rfl rfl rfl (rd_none HF.out ⟨_, _, _, _, _, _, _, _, _, _, _, _, _, _, _, rfl⟩ (below11 HB (Nat.le_refl _) _ _ _ _ _ _ _ _ _ _ _))
  have d4 : decide (6 < (n : Int)) = false := decide_eq_false (by omega)
  have d5 : decide (6 < n) = false := decide_eq_false h6
  have HF : Hid (R = if q = true then some { kind := 2, n := n, rest := AE.1, att := AE.2 } else none) := Lib.hid (by rw [HR.out, if_pos (by omega)])
  clear HR
  cases q
  · have HF2 : Hid (R = none) := Lib.hid (by rw [HF.out]; rfl)
    clear HF
    go_enter Tryz.func59, Tryz.ntmps59
    go_wp2_with fail
    ((with_reducible refine (HRn.out _).mono ?_))
    rintro e w' ⟨rfl, b1⟩
    obtain ⟨HZ1, HB1⟩ := zw_after b1
    clear b1
    go_wp2_with fail
    ((with_reducible refine (HAf.out _).mono ?_))
    rintro e w2 ⟨rfl, b2⟩
    have HZ := ZM.below HZ1 b2
    have HB := HB1.trans (b2.mono HB1.size)
    clear HZ1 HB1 b2
    obtain ⟨k0, k1, k2, k3, k4, k5, k6, k7, k8, k9, k10, y0, y1, y2, y3, y4, y5, y6, y7, y8, y9, y10⟩ := ZM.facts HZ
    go_wp2_with fail
    exact head_ret (blk11 HZ _ _ _ _ _ _ _ _ _ _ _) rfl rfl rfl (rd_none HF2.out ⟨_, _, _, _, _, _, _, _, _, _, _, _, _, _, _, rfl⟩ (below11 HB (Nat.le_refl _) _ _ _ _ _ _ _ _ _ _ _))
  · have HF2 : Hid (R = some { kind := 2, n := n, rest := AE.1, att := AE.2 }) := Lib.hid (by rw [HF.out]; rfl)
    have HTr2 := Lib.hid (HTr.out rfl)
    clear HF HTr
    obtain ⟨er, ea⟩ := AE
    simp only at HF2
    go_enter Tryz.func59, Tryz.ntmps59
    go_wp2_with fail
    ((with_reducible refine (HRn.out _).mono ?_))
    rintro e w' ⟨rfl, b1⟩
    obtain ⟨HZ1, HB1⟩ := zw_after b1
    clear b1
    go_wp2_with fail
    ((with_reducible refine (HAf.out _).mono ?_))
    rintro e w2 ⟨rfl, b2⟩
    have HZ2 := ZM.below HZ1 b2
    have HB2 := HB1.trans (b2.mono HB1.size)
    clear HZ1 HB1 b2
    go_wp2_with fail
    ((with_reducible refine (HTr2.out _).mono ?_))
    rintro e w0 ⟨rfl, rfl⟩
    go_wp2_with fail
    ((with_reducible refine (HAE.out _).mono ?_))
    rintro e w3 ⟨vC, vP, rfl, hO, b3⟩
    obtain ⟨qA, qc, rfl⟩ := own_slice hO.cls
    obtain ⟨qD, qd, rfl⟩ := own_slice hO.prs
    simp only at hO
    have HZ3 : ZM (w3.alloc (.cells #[.string ea.id, .slice qA ea.cl.length qc, .slice qD ea.pr.length qd] 43)) w.heap.size := Blk.alloc (ZM.below HZ2 b3) _
    have HB3 := (HB2.trans (b3.mono HB2.size)).alloc (Nat.le_trans HB2.size b3.size) (.cells #[.string ea.id, .slice qA ea.cl.length qc, .slice qD ea.pr.length qd] 43)
    have HO3 : Hid (OwnA (w3.alloc (.cells #[.string ea.id, .slice qA ea.cl.length qc, .slice qD ea.pr.length qd] 43)) w2.heap.size ea (.slice qA ea.cl.length qc) (.slice qD ea.pr.length qd)) := Lib.hid (hO.below ((Below.refl _ _).alloc (Nat.le_refl _) _))
    have hlt : w.heap.size < w2.heap.size := HZ2.lt
    have HBn := Blk.new w3 43 #[.string ea.id, .slice qA ea.cl.length qc, .slice qD ea.pr.length qd]
    have e0 := HBn.cell 0
    have e1 := HBn.cell 1
    have e2 := HBn.cell 2
    clear HZ2 hO b3 HBn
    obtain ⟨k0, k1, k2, k3, k4, k5, k6, k7, k8, k9, k10, y0, y1, y2, y3, y4, y5, y6, y7, y8, y9, y10⟩ := ZM.facts HZ3
    go_wp2_with fail
    refine head_ret (blk11 HZ3 _ _ _ _ _ _ _ _ _ _ _) rfl rfl rfl (rd_some HF2.out (mkVal_own (m := { kind := 2, n := n, rest := er, att := ea }) ?_) (below11 HB3 (Nat.le_refl _) _ _ _ _ _ _ _ _ _ _ _))
    exact ownA_low (ownA_far HO3.out (grown11 _ _ _ _ _ _ _ _ _ _ _ _ _) hlt) HB2.size

end Go.Proofs.YtpoafhgbhnblmaaGreatDoor
namespace Go.Pub
open Go Go.RowKit
theorem Blk.drew {w : World} {g : Nat} {t : TypeId} {cs : Array Value} (h : Blk w g t cs) : Blk w.drew g t cs := h
theorem blk_kept {W : World} {g D : Nat} {t : TypeId} {cs : Array Value} {o : Obj} (h : Blk W g t cs) (hK : W.heap[D]? = some (.deferred (some []))) : Blk (W.putObj D o) g t cs :=
  Blk.grown h (grownBy_putObj' W D o) (fun e => by cases e; unfold Blk at h; rw [h] at hK; cases hK)
end Go.Pub
namespace Go.Proofs.YtpoafhgbhnblmaaGreatDoor
open Go.RowKit Go.Pub Go.Shelf
attribute [local go_sem] Oper.semAt_some
def ruleOk (c : ByteArray) (j : Nat) : Bool := bt c j == bt c 0 || bt c j == 32
def ruleAll (c : ByteArray) : Bool := (List.range c.size).all (ruleOk c)
def ruleCnt (c : ByteArray) (k : Nat) : Nat := ((List.range k).filter fun j => bt c j == bt c 0).length
def ruleM (c : ByteArray) : Option MkL :=
  if (bt c 0 = 45 ∨ bt c 0 = 42 ∨ bt c 0 = 95) ∧ ruleAll c = true then (if decide (3 ≤ ruleCnt c c.size) = true then some { kind := 3, ch := c.extract 0 1 } else none) else none
def cntF (c : ByteArray) {n : Nat} (l : List (Fin n)) : Nat := (l.filter fun j => bt c j.1 == bt c 0).length
theorem cntF_le (c : ByteArray) {n : Nat} (l : List (Fin n)) : cntF c l ≤ l.length := List.length_filter_le _ _
theorem cntF_all (c : ByteArray) (l : List (Fin c.size)) (h : l.map Fin.val = List.range c.size) : cntF c l = ruleCnt c c.size := by
  unfold ruleCnt cntF
  rw [← h, List.filter_map, List.length_map]
  rfl
theorem cntF_snoc (c : ByteArray) {n : Nat} (l : List (Fin n)) (x : Fin n) : cntF c (l ++ [x]) = cntF c l + if bt c x.1 = bt c 0 then 1 else 0 := by
  unfold cntF
  rw [List.filter_append, List.length_append]
  by_cases h : bt c x.1 = bt c 0
  · rw [if_pos h, List.filter_cons_of_pos (by rw [beq_iff_eq]; exact h)]; rfl
  · rw [if_neg h, List.filter_cons_of_neg (by rw [beq_iff_eq]; exact h)]; rfl
/-- The world in which a rule's bytes are counted. -/
structure RuleW (c : ByteArray) (w W : World) : Prop where
  zm : ZM W w.heap.size
  b1 : Boxed W (w.heap.size + 1) 4 (.bool false)
  b2 : Boxed W (w.heap.size + 1 + 1) 5 (.int .u8 (bt c 0))
  sz : W.heap.size = w.heap.size + 3
  bel : Below w.heap.size w W
theorem ruleW_start (c : ByteArray) (w : World) : RuleW c w (((zw w).alloc (.cells #[.bool false] 4)).alloc (.cells #[.int .u8 (bt c 0)] 5)) := by
  refine ⟨Blk.alloc (Blk.alloc (zw_zm w) _) _, ?_, ?_, by simp [zw_size], ((zw_below w).alloc (zw_below w).size _).alloc (by simp; have := (zw_below w).size; omega) _⟩
  · have := (Boxed.new (zw w) 4 (.bool false)).alloc (.cells #[.int .u8 (bt c 0)] 5)
    rw [zw_size] at this
    exact this
  · have := Boxed.new ((zw w).alloc (.cells #[.bool false] 4)) 5 (.int .u8 (bt c 0))
    rw [World.size_alloc, zw_size] at this
    exact this
set_option maxRecDepth 100000 in
set_option maxHeartbeats 8000000 in
theorem m_rule (c : ByteArray) (ind : Nat) (w : World) (hs : c.size ≤ 1000000) (h0 : 0 < c.size) : Calls Tryz.prog 60 #[.string c, .int .i64 ind] w (RdPost (ruleM c) w) := by
  have HP := Lib.hid fun W => characters_any c W
  have hg := get_bt c 0 h0
  have HR : Hid (ruleM c = if (bt c 0 = 45 ∨ bt c 0 = 42 ∨ bt c 0 = 95) ∧ ruleAll c = true then (if decide (3 ≤ ruleCnt c c.size) = true then some { kind := 3, ch := c.extract 0 1 } else none) else none) := Lib.hid rfl
  generalize ruleM c = R at *
  by_cases hq : bt c 0 = 45 ∨ bt c 0 = 42 ∨ bt c 0 = 95
  case neg =>
    have z1 : (((bt c 0 : Nat) : Int) != 45) = true := by rw [bne_iff_ne]; omega
    have z2 : (((bt c 0 : Nat) : Int) != 42) = true := by rw [bne_iff_ne]; omega
    have z3 : (((bt c 0 : Nat) : Int) != 95) = true := by rw [bne_iff_ne]; omega
    have HF : Hid (R = none) := Lib.hid (by rw [HR.out, if_neg (fun h => hq h.1)])
    clear HR hq
    go_enter Tryz.func60, Tryz.ntmps60
    go_wp2_with fail
    exact rule_ret (q := ⟨w.heap.size + 1, 0, none⟩) (ruleW_start c w).zm rfl rfl (ruleW_start c w).b1.cell rfl (rd_none HF.out ⟨_, _, _, _, _, _, _, _, _, _, _, _, _, _, _, rfl⟩ (ruleW_start c w).bel)
  have HR2 : Hid (R = if ruleAll c = true then (if decide (3 ≤ ruleCnt c c.size) = true then some { kind := 3, ch := c.extract 0 1 } else none) else none) := Lib.hid (by
    rw [HR.out]
    by_cases h : ruleAll c = true
    · rw [if_pos h, if_pos ⟨hq, h⟩]
    · rw [if_neg h, if_neg (fun e => h e.2)])
  have HQ := Lib.hid hq
  clear HR hq
  refine (callsIn_wide (n := 5)).1 ?_
  refine callsIn_of_wp_marks Tryz.func60 rfl trivial ?_ rfl
  simp only [Tryz.ntmps60, List.size_toArray, List.length_cons, List.length_nil, Nat.reduceAdd, Nat.reduceSub, Array.replicate_succ, Array.replicate_zero, List.push_toArray, List.append_toArray, List.nil_append, List.cons_append]
  refine wpIn_wide.2 ?_
  go_upto_region 2 with fail
  go_cut [21] from 12 to 21 (fun s21 wx => s21 = .bool false ∧ RuleW c w wx)
  case first =>
    have hW : RuleW c w (((zw w).alloc (.cells #[.bool false] 4)).alloc (.cells #[.int .u8 (bt c 0)] 5)) := ruleW_start c w
    rcases HQ.out with h | h | h
    · have z1 : (((bt c 0 : Nat) : Int) != 45) = false := by rw [h]; rfl
      clear h
      go_wp2_with fail
      go_meet
      exact ⟨rfl, hW⟩
    · have z1 : (((bt c 0 : Nat) : Int) != 45) = true := by rw [h]; rfl
      have z2 : (((bt c 0 : Nat) : Int) != 42) = false := by rw [h]; rfl
      clear h
      go_wp2_with fail
      go_meet
      exact ⟨rfl, hW⟩
    · have z1 : (((bt c 0 : Nat) : Int) != 45) = true := by rw [h]; rfl
      have z2 : (((bt c 0 : Nat) : Int) != 42) = true := by rw [h]; rfl
      have z3 : (((bt c 0 : Nat) : Int) != 95) = false := by rw [h]; rfl
      clear h
      go_wp2_with fail
      go_meet
      exact ⟨rfl, hW⟩
  case rest =>
  obtain ⟨rfl, HW⟩ := hcut
  have hsz := HW.sz
  go_wp2_with fail
  ((with_reducible refine (HP.out _).mono ?_))
  rintro e w' ⟨rfl, rfl⟩
  go_wp2_with fail
  refine (wpIn_wide (n := 5)).1 ?_
  have hZ : ZM ((wc.alloc (.cells #[.int .i64 0] 3)).alloc (.cells #[.string c] 9)) w.heap.size := Blk.alloc (Blk.alloc HW.zm _) _
  have hF : Boxed ((wc.alloc (.cells #[.int .i64 0] 3)).alloc (.cells #[.string c] 9)) (w.heap.size + 1) 4 (.bool false) := (HW.b1.alloc _).alloc _
  have hC : Boxed ((wc.alloc (.cells #[.int .i64 0] 3)).alloc (.cells #[.string c] 9)) (w.heap.size + 1 + 1) 5 (.int .u8 (bt c 0)) := (HW.b2.alloc _).alloc _
  have hN : Boxed ((wc.alloc (.cells #[.int .i64 0] 3)).alloc (.cells #[.string c] 9)) (w.heap.size + 3) 3 (.int .i64 0) := by
    have := (Boxed.new wc 3 (.int .i64 0)).alloc (.cells #[.string c] 9)
    rw [hsz] at this
    exact this
  have hS : Boxed ((wc.alloc (.cells #[.int .i64 0] 3)).alloc (.cells #[.string c] 9)) (w.heap.size + 3 + 1) 9 (.string c) := by
    have := Boxed.new (wc.alloc (.cells #[.int .i64 0] 3)) 9 (.string c)
    rw [World.size_alloc, hsz] at this
    exact this
  have hB0 : Below w.heap.size w ((wc.alloc (.cells #[.int .i64 0] 3)).alloc (.cells #[.string c] 9)) := (HW.bel.alloc HW.bel.size _).alloc (by simp; have := HW.bel.size; omega) _
  have hz5 : ((wc.alloc (.cells #[.int .i64 0] 3)).alloc (.cells #[.string c] 9)).heap.size = w.heap.size + 5 := by simp [hsz]
  generalize ((wc.alloc (.cells #[.int .i64 0] 3)).alloc (.cells #[.string c] 9)) = W0 at *
  clear HW hsz HQ hg
  have hmx : Tryz.prog.follows .mixedOrders = true := by kernel_rfl
  refine wpIn_rangeFunc_ownG rfl (by omega) (gf := 163) (lb := #[.pointer (some ⟨w.heap.size + 3 + 1, 0, none⟩)]) rfl trivial (enters_of Tryz.func163 (by kernel_rfl) rfl)
    (chars_stops 4 (by omega) (w.heap.size + 3 + 1) c hs _ hS) (Kp := KpB (w.heap.size + 3 + 1)) (fun h1 h2 => h2.trans h1) (fun W l o o' hl ho hc _ => World.putObj_heap_other (fun e => by omega)) (Below.refl _ _) (fun _ => rfl)
    (fun (pre : List (Fin c.size)) W => (Boxed W (w.heap.size + 1 + 1) 5 (.int .u8 (bt c 0)) ∧ Boxed W (w.heap.size + 3 + 1) 9 (.string c)) ∧ (ZM W w.heap.size ∧ Boxed W (w.heap.size + 1) 4 (.bool false)) ∧ (∀ j ∈ pre, ruleOk c j.1 = true) ∧ Boxed W (w.heap.size + 3) 3 (.int .i64 (cntF c pre : Nat)) ∧ Below w.heap.size w W)
    (fun q (pre : List (Fin c.size)) W => (q = Code.ret ∧ ∃ pr x, pre = pr ++ [x] ∧ ruleOk c x.1 = false) ∧ (ZM W w.heap.size ∧ Boxed W (w.heap.size + 1) 4 (.bool false)) ∧ Below w.heap.size w W)
    (OwnFrom.and (OwnFrom.and (Own.from (boxed_own _ _ (fun _ => .int .u8 (bt c 0))) _) (Own.from (boxed_own _ _ (fun _ => .string c)) _)) (OwnFrom.and (OwnFrom.and (Own.from (blk_own _ _ (fun _ => #[.int .i64 0, .int .i64 0, .string ⟨#[]⟩, .int .i64 0, .string ⟨#[]⟩, .string ⟨#[]⟩, .string ⟨#[]⟩, .string ⟨#[]⟩, .string ⟨#[]⟩, .slice none 0 0, .slice none 0 0])) _) (Own.from (boxed_own _ _ (fun _ => .bool false)) _)) (OwnFrom.and (ownFrom_pure _ _) (OwnFrom.and (Own.from (boxed_own _ _ (fun (pre : List (Fin c.size)) => .int .i64 (cntF c pre : Nat))) _) (ownFrom_below (Nat.le_refl _) (by omega))))))
    (fun q => OwnFrom.and (ownFrom_pure _ _) (OwnFrom.and (OwnFrom.and (Own.from (blk_own _ _ (fun _ => #[.int .i64 0, .int .i64 0, .string ⟨#[]⟩, .int .i64 0, .string ⟨#[]⟩, .string ⟨#[]⟩, .string ⟨#[]⟩, .string ⟨#[]⟩, .string ⟨#[]⟩, .slice none 0 0, .slice none 0 0])) _) (Own.from (boxed_own _ _ (fun _ => .bool false)) _)) (ownFrom_below (Nat.le_refl _) (by omega))))
    ⟨⟨hC, hS⟩, ⟨hZ, hF⟩, fun j h => absurd h (by simp), hN, hB0⟩
    (fun (x : Fin c.size) => { tmps := #[.string c, .int .i64 ind, undef, undef, .pointer (some ⟨w.heap.size, 0, none⟩), .pointer (some ⟨w.heap.size + 1, 0, none⟩), .pointer (some ⟨w.heap.size + 1 + 1, 0, none⟩), .pointer (some ⟨w.heap.size + 3, 0, none⟩), undef, .int .u8 (bt c x.1), .string c, .int .u8 (bt c 0), u12, u13, u14, u15, u16, u17, u18, u19, u20, .bool false, undef, .string c, .func (.func 163) #[] #[.pointer (some ⟨w.heap.size + 3 + 1, 0, none⟩)], .int .i64 (x.1 : Nat), .int .u8 (bt c x.1), undef, undef, undef, undef, undef, undef, undef, undef, undef, undef, undef, undef, undef, undef], defers := [] }) ?assign ?body ?done ?stop
  case assign =>
    intro l x W K hK
    gi_wp2_with fail
    exact hK
  case body =>
    rintro l pre x W ⟨⟨hC, hS⟩, ⟨hZ, hF⟩, hg, hN, hB⟩ hlt
    have HG := Lib.hid hg
    clear hg
    have c1 := hC.cell
    have n1 := hN.cell
    have n2 := hN.frozen
    have hcl := cntF_le c pre
    have hsn := cntF_snoc c pre x
    have NX : ruleOk c x.1 = true → ∀ j ∈ pre ++ [x], ruleOk c j.1 = true := fun h j hj => by
      rcases List.mem_append.1 hj with hj | hj
      · exact HG.out j hj
      · rw [List.mem_singleton] at hj; rw [hj]; exact h
    by_cases hx : bt c x.1 = bt c 0
    · have d1 : (((bt c x.1 : Nat) : Int) == ((bt c 0 : Nat) : Int)) = true := by rw [beq_iff_eq]; omega
      have d2 : (bt c x.1 == bt c 0) = true := by rw [beq_iff_eq]; exact hx
      have HN' := Lib.hid (NX (by unfold ruleOk; rw [d2]; rfl))
      rw [if_pos hx] at hsn
      have HSN := Lib.hid hsn
      clear NX hx hsn
      generalize cntF c pre = n at *
      gi_wp2_with fail
      exact ⟨(KeepsOthers.setCell _ ⟨w.heap.size + 3, 0, none⟩ _).from _, Blk.far hS (by simp) _ |>.trans hS.symm, ⟨Blk.far hC (by simp) _, Blk.far hS (by simp) _⟩, ⟨Blk.far hZ (by simp) _, Blk.far hF (by simp) _⟩, HN'.out, by rw [HSN.out]; exact hN.set _, hB.setCell (p := ⟨w.heap.size + 3, 0, none⟩) (by show w.heap.size ≤ w.heap.size + 3; omega) _⟩
    · have d1 : (((bt c x.1 : Nat) : Int) == ((bt c 0 : Nat) : Int)) = false := by rw [beq_eq_false_iff_ne]; omega
      have d2 : (bt c x.1 == bt c 0) = false := by rw [beq_eq_false_iff_ne]; exact hx
      rw [if_neg hx, Nat.add_zero] at hsn
      have HSN := Lib.hid hsn
      clear hsn hx
      by_cases hsp : bt c x.1 = 32
      · have d3 : (((bt c x.1 : Nat) : Int) == 32) = true := by rw [hsp]; rfl
        have HN' := Lib.hid (NX (by unfold ruleOk; rw [hsp]; simp))
        clear NX hsp
        gi_wp2_with fail
        exact ⟨(KeepsOthers.refl _).from _, rfl, ⟨hC, hS⟩, ⟨hZ, hF⟩, HN'.out, by rw [HSN.out]; exact hN, hB⟩
      · have d3 : (((bt c x.1 : Nat) : Int) == 32) = false := by rw [beq_eq_false_iff_ne]; omega
        have HX : Hid (ruleOk c x.1 = false) := Lib.hid (by unfold ruleOk; rw [d2, Bool.false_or, beq_eq_false_iff_ne]; exact hsp)
        clear NX hsp
        have f1 := hF.cell
        have f2 := hF.frozen
        obtain ⟨k0, k1, k2, k3, k4, k5, k6, k7, k8, k9, k10, y0, y1, y2, y3, y4, y5, y6, y7, y8, y9, y10⟩ := ZM.facts hZ
        have hzz : Hid (ZM (((((((((((W.setCell ⟨w.heap.size, 0, none⟩ (.int .i64 0)).setCell ⟨w.heap.size, 1, none⟩ (.int .i64 0)).setCell ⟨w.heap.size, 2, none⟩ (.string ⟨#[]⟩)).setCell ⟨w.heap.size, 3, none⟩ (.int .i64 0)).setCell ⟨w.heap.size, 4, none⟩ (.string ⟨#[]⟩)).setCell ⟨w.heap.size, 5, none⟩ (.string ⟨#[]⟩)).setCell ⟨w.heap.size, 6, none⟩ (.string ⟨#[]⟩)).setCell ⟨w.heap.size, 7, none⟩ (.string ⟨#[]⟩)).setCell ⟨w.heap.size, 8, none⟩ (.string ⟨#[]⟩)).setCell ⟨w.heap.size, 9, none⟩ (.slice none 0 0)).setCell ⟨w.heap.size, 10, none⟩ (.slice none 0 0)) w.heap.size) := Lib.hid (blk11 hZ _ _ _ _ _ _ _ _ _ _ _)
        have hff : Boxed (((((((((((W.setCell ⟨w.heap.size, 0, none⟩ (.int .i64 0)).setCell ⟨w.heap.size, 1, none⟩ (.int .i64 0)).setCell ⟨w.heap.size, 2, none⟩ (.string ⟨#[]⟩)).setCell ⟨w.heap.size, 3, none⟩ (.int .i64 0)).setCell ⟨w.heap.size, 4, none⟩ (.string ⟨#[]⟩)).setCell ⟨w.heap.size, 5, none⟩ (.string ⟨#[]⟩)).setCell ⟨w.heap.size, 6, none⟩ (.string ⟨#[]⟩)).setCell ⟨w.heap.size, 7, none⟩ (.string ⟨#[]⟩)).setCell ⟨w.heap.size, 8, none⟩ (.string ⟨#[]⟩)).setCell ⟨w.heap.size, 9, none⟩ (.slice none 0 0)).setCell ⟨w.heap.size, 10, none⟩ (.slice none 0 0)) (w.heap.size + 1) 4 (.bool false) := hF.kept (grown11 W w.heap.size _ _ _ _ _ _ _ _ _ _ _) (by simp)
        have f1' := hff.cell
        have f2' := hff.frozen
        have hkk : KeepsOthers W (((((((((((W.setCell ⟨w.heap.size, 0, none⟩ (.int .i64 0)).setCell ⟨w.heap.size, 1, none⟩ (.int .i64 0)).setCell ⟨w.heap.size, 2, none⟩ (.string ⟨#[]⟩)).setCell ⟨w.heap.size, 3, none⟩ (.int .i64 0)).setCell ⟨w.heap.size, 4, none⟩ (.string ⟨#[]⟩)).setCell ⟨w.heap.size, 5, none⟩ (.string ⟨#[]⟩)).setCell ⟨w.heap.size, 6, none⟩ (.string ⟨#[]⟩)).setCell ⟨w.heap.size, 7, none⟩ (.string ⟨#[]⟩)).setCell ⟨w.heap.size, 8, none⟩ (.string ⟨#[]⟩)).setCell ⟨w.heap.size, 9, none⟩ (.slice none 0 0)).setCell ⟨w.heap.size, 10, none⟩ (.slice none 0 0)) := (((((((((((KeepsOthers.refl W).trans (KeepsOthers.setCell _ ⟨w.heap.size, 0, none⟩ (.int .i64 0))).trans (KeepsOthers.setCell _ ⟨w.heap.size, 1, none⟩ (.int .i64 0))).trans (KeepsOthers.setCell _ ⟨w.heap.size, 2, none⟩ (.string ⟨#[]⟩))).trans (KeepsOthers.setCell _ ⟨w.heap.size, 3, none⟩ (.int .i64 0))).trans (KeepsOthers.setCell _ ⟨w.heap.size, 4, none⟩ (.string ⟨#[]⟩))).trans (KeepsOthers.setCell _ ⟨w.heap.size, 5, none⟩ (.string ⟨#[]⟩))).trans (KeepsOthers.setCell _ ⟨w.heap.size, 6, none⟩ (.string ⟨#[]⟩))).trans (KeepsOthers.setCell _ ⟨w.heap.size, 7, none⟩ (.string ⟨#[]⟩))).trans (KeepsOthers.setCell _ ⟨w.heap.size, 8, none⟩ (.string ⟨#[]⟩))).trans (KeepsOthers.setCell _ ⟨w.heap.size, 9, none⟩ (.slice none 0 0))).trans (KeepsOthers.setCell _ ⟨w.heap.size, 10, none⟩ (.slice none 0 0))
        gi_wp2_with fail
        exact ⟨(hkk.trans (KeepsOthers.setCell _ ⟨w.heap.size + 1, 0, none⟩ _)).from _, ⟨rfl, pre, x, rfl, HX.out⟩, ⟨Blk.far hzz.out (by simp) _, hff.set _⟩, (below11 hB (Nat.le_refl _) _ _ _ _ _ _ _ _ _ _ _).setCell (p := ⟨w.heap.size + 1, 0, none⟩) (by show w.heap.size ≤ w.heap.size + 1; omega) _⟩
  case done =>
    rintro D ys W hD hys ⟨⟨hC, hS⟩, ⟨hZ, hF⟩, hg, hN, hB⟩ hK
    have hall : ruleAll c = true := by
      unfold ruleAll
      rw [List.all_eq_true]
      intro j hj
      rw [← hys] at hj
      obtain ⟨y, hy, rfl⟩ := List.mem_map.1 hj
      exact hg y hy
    rw [cntF_all c ys hys] at hN
    have hcl : ruleCnt c c.size ≤ c.size := by
      unfold ruleCnt
      have := List.length_filter_le (fun j => bt c j == bt c 0) (List.range c.size)
      rwa [List.length_range] at this
    have HE : Hid (R = if decide (3 ≤ ruleCnt c c.size) = true then some { kind := 3, ch := c.extract 0 1 } else none) := Lib.hid (by rw [HR2.out, if_pos hall])
    clear hall hg hys HR2
    generalize ruleCnt c c.size = n at *
    have hdn : decide (3 ≤ (n : Int)) = decide (3 ≤ n) := by rw [decide_eq_decide]; omega
    generalize decide (3 ≤ n) = q at *
    have h1i : (1 : Int) ≤ (c.size : Int) := by omega
    have n1 := hN.cell
    have f1 := hF.cell
    have f2 := hF.frozen
    obtain ⟨k0, k1, k2, k3, k4, k5, k6, k7, k8, k9, k10, y0, y1, y2, y3, y4, y5, y6, y7, y8, y9, y10⟩ := ZM.facts hZ
    go_wp2_with fail
    go_region_held3 (fun w' => w'.cell? ⟨w.heap.size + 3, 0, none⟩ = some (.int .i64 (n : Nat))) (go_keep) (fail)
    have hz1 := blk11 hZ (.int .i64 3) (.int .i64 0) (.string (c.extract 0 1)) (.int .i64 0) (.string ⟨#[]⟩) (.string ⟨#[]⟩) (.string ⟨#[]⟩) (.string ⟨#[]⟩) (.string ⟨#[]⟩) (.slice none 0 0) (.slice none 0 0)
    have hz3 := Blk.drew (Blk.far hz1 (p := ⟨w.heap.size + 1, 0, none⟩) (by simp) (.bool q))
    have hf1 := Blk.drew ((hF.kept (grown11 W w.heap.size (.int .i64 3) (.int .i64 0) (.string (c.extract 0 1)) (.int .i64 0) (.string ⟨#[]⟩) (.string ⟨#[]⟩) (.string ⟨#[]⟩) (.string ⟨#[]⟩) (.string ⟨#[]⟩) (.slice none 0 0) (.slice none 0 0)) (by simp)).set (.bool q))
    have hK3 := ((((((((((((((KeepsOthers.refl W).trans (KeepsOthers.setCell _ ⟨w.heap.size, 0, none⟩ (.int .i64 3))).trans (KeepsOthers.setCell _ ⟨w.heap.size, 1, none⟩ (.int .i64 0))).trans (KeepsOthers.setCell _ ⟨w.heap.size, 2, none⟩ (.string (c.extract 0 1)))).trans (KeepsOthers.setCell _ ⟨w.heap.size, 3, none⟩ (.int .i64 0))).trans (KeepsOthers.setCell _ ⟨w.heap.size, 4, none⟩ (.string ⟨#[]⟩))).trans (KeepsOthers.setCell _ ⟨w.heap.size, 5, none⟩ (.string ⟨#[]⟩))).trans (KeepsOthers.setCell _ ⟨w.heap.size, 6, none⟩ (.string ⟨#[]⟩))).trans (KeepsOthers.setCell _ ⟨w.heap.size, 7, none⟩ (.string ⟨#[]⟩))).trans (KeepsOthers.setCell _ ⟨w.heap.size, 8, none⟩ (.string ⟨#[]⟩))).trans (KeepsOthers.setCell _ ⟨w.heap.size, 9, none⟩ (.slice none 0 0))).trans (KeepsOthers.setCell _ ⟨w.heap.size, 10, none⟩ (.slice none 0 0))).trans (KeepsOthers.setCell _ ⟨w.heap.size + 1, 0, none⟩ (.bool q))).trans (KeepsOthers.drew _)).same D _ hK rfl
    have hb3 := Below.drew ((below11 hB (Nat.le_refl _) (.int .i64 3) (.int .i64 0) (.string (c.extract 0 1)) (.int .i64 0) (.string ⟨#[]⟩) (.string ⟨#[]⟩) (.string ⟨#[]⟩) (.string ⟨#[]⟩) (.string ⟨#[]⟩) (.slice none 0 0) (.slice none 0 0)).setCell (p := ⟨w.heap.size + 1, 0, none⟩) (by show w.heap.size ≤ w.heap.size + 1; omega) (.bool q))
    clear n1 f1 f2 k0 k1 k2 k3 k4 k5 k6 k7 k8 k9 k10 y0 y1 y2 y3 y4 y5 y6 y7 y8 y9 y10 hZ hF hN hK hdn
    go_wp2_with fail
    generalize ((((((((((((W.setCell ⟨w.heap.size, 0, none⟩ (.int .i64 3)).setCell ⟨w.heap.size, 1, none⟩ (.int .i64 0)).setCell ⟨w.heap.size, 2, none⟩ (.string (c.extract 0 1))).setCell ⟨w.heap.size, 3, none⟩ (.int .i64 0)).setCell ⟨w.heap.size, 4, none⟩ (.string ⟨#[]⟩)).setCell ⟨w.heap.size, 5, none⟩ (.string ⟨#[]⟩)).setCell ⟨w.heap.size, 6, none⟩ (.string ⟨#[]⟩)).setCell ⟨w.heap.size, 7, none⟩ (.string ⟨#[]⟩)).setCell ⟨w.heap.size, 8, none⟩ (.string ⟨#[]⟩)).setCell ⟨w.heap.size, 9, none⟩ (.slice none 0 0)).setCell ⟨w.heap.size, 10, none⟩ (.slice none 0 0)).setCell ⟨w.heap.size + 1, 0, none⟩ (.bool q)).drew = W9 at *
    refine ⟨by simp, .inl ⟨_, _, rfl, run_takeDeferred hK3, ?_⟩⟩
    have hzk := blk_kept (o := .deferred none) hz3 hK3
    have hfk := blk_kept (o := .deferred none) hf1 hK3
    have b0 := hfk.cell 0
    obtain ⟨k0, k1, k2, k3, k4, k5, k6, k7, k8, k9, k10, y0, y1, y2, y3, y4, y5, y6, y7, y8, y9, y10⟩ := mk_facts hzk
    have hbb := hb3.trans (belowK_b (w := w) (Nat.le_refl _) _ D _ (.deferred none) (by omega) hK3 rfl rfl)
    refine ⟨.tuple #[.agg #[.int .i64 3, .int .i64 0, .string (c.extract 0 1), .int .i64 0, .string ⟨#[]⟩, .string ⟨#[]⟩, .string ⟨#[]⟩, .string ⟨#[]⟩, .string ⟨#[]⟩, .slice none 0 0, .slice none 0 0], .bool q], by simp [results, Tryz.results60, go_sem, b0, k0, k1, k2, k3, k4, k5, k6, k7, k8, k9, k10], rd_if HE.out (mkVal_plain (m := { kind := 3, ch := c.extract 0 1 }) rfl hbb.size) hbb⟩
  case stop =>
    rintro D q pre W hD hpre ⟨⟨rfl, pr, x, rfl, hx⟩, ⟨hZ, hF⟩, hB⟩ hK
    have HE : Hid (R = none) := Lib.hid (by
      rw [HR2.out, if_neg]
      intro h
      have := List.all_eq_true.1 h x.1 (List.mem_range.2 x.2)
      rw [hx] at this
      cases this)
    clear hx hpre HR2
    gi_wp2_with fail
    refine ⟨by simp, .inl ⟨_, _, rfl, run_takeDeferred hK, ?_⟩⟩
    have hzk := blk_kept (o := .deferred none) hZ hK
    have hfk := blk_kept (o := .deferred none) (t := 4) (cs := #[.bool false]) hF hK
    have b0 := hfk.cell 0
    obtain ⟨k0, k1, k2, k3, k4, k5, k6, k7, k8, k9, k10, y0, y1, y2, y3, y4, y5, y6, y7, y8, y9, y10⟩ := ZM.facts hzk
    refine ⟨.tuple #[.agg #[.int .i64 0, .int .i64 0, .string ⟨#[]⟩, .int .i64 0, .string ⟨#[]⟩, .string ⟨#[]⟩, .string ⟨#[]⟩, .string ⟨#[]⟩, .string ⟨#[]⟩, .slice none 0 0, .slice none 0 0], .bool false], by simp [results, Tryz.results60, go_sem, b0, k0, k1, k2, k3, k4, k5, k6, k7, k8, k9, k10], rd_none HE.out ⟨_, _, _, _, _, _, _, _, _, _, _, _, _, _, _, rfl⟩ ?_⟩
    exact hB.trans (belowK_b (w := w) (Nat.le_refl _) _ D _ _ (by omega) hK rfl rfl)

end Go.Proofs.YtpoafhgbhnblmaaGreatDoor
