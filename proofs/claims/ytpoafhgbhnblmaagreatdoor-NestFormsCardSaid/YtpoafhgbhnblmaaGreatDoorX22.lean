/-
  Texts of the proof, put together (what this law reaches): LinkL, MkN.
-/
import Derived.Test.YtpoafhgbhnblmaaGreatDoorX21
import Derived.Lib.TrimByte
import Derived.Lib.IndexAny
import Derived.Test.YtpoafhgbhnblmaaGreatDoorX13
import Derived.Test.YtpoafhgbhnblmaaGreatDoorX20
import Derived.Test.YtpoafhgbhnblmaaGreatDoorX15
set_option linter.unusedVariables false
set_option linter.unusedSimpArgs false
namespace Go.Pub
/-- Without the leading spaces. -/
def triL (l : List UInt8) : List UInt8 := Lib.trimLeftB l 32
theorem triL_cons (c : UInt8) (l : List UInt8) : triL (c :: l) = if c = 32 then triL l else c :: l := by
  unfold triL Lib.trimLeftB
  by_cases h : c = 32 <;> simp [h]
theorem triL_len (l : List UInt8) : (triL l).length ≤ l.length := by
  induction l with
  | nil => simp [triL, Lib.trimLeftB]
  | cons c l ih => rw [triL_cons]; split <;> simp <;> omega
def triB (s : ByteArray) : ByteArray := mk (triL (bytesL s))
theorem triB_size (s : ByteArray) : (triB s).size ≤ s.size := by
  unfold triB; rw [mk_size, ← bytesL_length s]; exact triL_len _
end Go.Pub
namespace Go.Proofs.YtpoafhgbhnblmaaGreatDoor
open Go.RowKit Go.Pub
theorem trim_any (s : ByteArray) (w : World) : Calls Tryz.prog 113 #[.string s, .string ⟨#[32]⟩] w fun e w' => e = .returned (.string (triB s)) ∧ w = w' := by
  refine (Tryz.strings_TrimLeft_one s 32 (by decide) w).mono ?_
  rintro e w' ⟨rfl, rfl⟩
  exact ⟨rfl, rfl⟩
end Go.Proofs.YtpoafhgbhnblmaaGreatDoor
namespace Go.Proofs.YtpoafhgbhnblmaaGreatDoor
open Go.RowKit Go.Pub
def defTitle (L : ByteArray) (d : List UInt8) (A : ByteArray) (m : Nat) : Option MkL :=
  if A.size = 0 then some { kind := 11, info := L, dest := mk d } else if A.size = m then none
  else match titleR A 0 with
    | none => none
    | some (t, q) => if blankB (A.extract q A.size) = true then some { kind := 11, info := L, dest := mk d, title := mk t } else none
def defTail (L : ByteArray) (r : ByteArray) : Option MkL :=
  match destR r 0 with
  | none => none
  | some (d, p) => defTitle L d (triB (r.extract p r.size)) (r.size - p)
def defM (c : ByteArray) : Option MkL :=
  if bt c 0 = 91 ∧ cutB (tl1 c) = true ∧ Lib.hasPrefix (bytesL (cutRest (tl1 c))) [58] = true ∧ labelL (bytesL (cutHead (tl1 c))) ≠ [] then defTail (mk (labelL (bytesL (cutHead (tl1 c))))) (triB (tl1 (cutRest (tl1 c)))) else none
set_option maxRecDepth 100000 in
set_option maxHeartbeats 8000000 in
theorem m_def (c : ByteArray) (ind : Nat) (w : World) (hs : c.size ≤ 1000000) (h0 : 0 < c.size) : Calls Tryz.prog 68 #[.string c, .int .i64 ind] w (RdPost (defM c) w) := by
  have hg := get_bt c 0 h0
  have h1c : 1 ≤ c.size := h0
  have HR : Hid (defM c = if bt c 0 = 91 ∧ cutB (tl1 c) = true ∧ Lib.hasPrefix (bytesL (cutRest (tl1 c))) [58] = true ∧ labelL (bytesL (cutHead (tl1 c))) ≠ [] then defTail (mk (labelL (bytesL (cutHead (tl1 c))))) (triB (tl1 (cutRest (tl1 c)))) else none) := Lib.hid rfl
  have hX0 : tl1 c = c.extract 1 c.size := rfl
  have hxz := tl1_size c
  generalize defM c = R at *
  by_cases hq : bt c 0 = 91
  case neg =>
    have z1 : (((bt c 0 : Nat) : Int) != 91) = true := by rw [bne_iff_ne]; omega
    have HF : Hid (R = none) := Lib.hid (by rw [HR.out, if_neg (fun h => hq h.1)])
    clear HR hq hX0
    go_enter Tryz.func68, Tryz.ntmps68
    go_wp2_with fail
    exact def_ret (Blk.new w _ _) rfl rfl rfl (rd_none HF.out ⟨_, _, _, _, _, _, _, _, _, _, _, _, _, _, _, rfl⟩ ((Below.refl _ w).alloc (Nat.le_refl _) _))
  have z91 : (((bt c 0 : Nat) : Int) != 91) = false := by rw [hq]; rfl
  have HR2 : Hid (R = if cutB (tl1 c) = true ∧ Lib.hasPrefix (bytesL (cutRest (tl1 c))) [58] = true ∧ labelL (bytesL (cutHead (tl1 c))) ≠ [] then defTail (mk (labelL (bytesL (cutHead (tl1 c))))) (triB (tl1 (cutRest (tl1 c)))) else none) := Lib.hid (by
    rw [HR.out]
    by_cases h : cutB (tl1 c) = true ∧ Lib.hasPrefix (bytesL (cutRest (tl1 c))) [58] = true ∧ labelL (bytesL (cutHead (tl1 c))) ≠ []
    · rw [if_pos h, if_pos ⟨hq, h⟩]
    · rw [if_neg h, if_neg (fun e => h e.2)])
  clear HR hq
  have HC := Lib.hid fun W => cut_all (tl1 c) W (by omega)
  have hcz := cutHead_size (tl1 c)
  have hrz := cutRest_size (tl1 c)
  unfold Cut3Post at HC
  generalize cutB (tl1 c) = cb at *
  generalize cutHead (tl1 c) = N at *
  generalize cutRest (tl1 c) = Y at *
  generalize tl1 c = X at *
  rw [hX0] at HC
  clear hX0
  have HP2 : Hid (∀ W, Calls Tryz.prog 108 #[.string Y, .string ⟨#[58]⟩] W fun e w' => e = .returned (.bool (Lib.hasPrefix (bytesL Y) [58])) ∧ W = w') := Lib.hid fun W => (Tryz.strings_HasPrefix Y ⟨#[58]⟩ W).mono fun e w' ⟨h, h'⟩ => ⟨h, h'.symm⟩
  have hyl : Lib.hasPrefix (bytesL Y) [58] = true → 1 ≤ Y.size := fun h => pre_len h
  have hty := tl1_size Y
  have HTy : Hid (tl1 Y = Y.extract 1 Y.size) := Lib.hid rfl
  have HLb := Lib.hid fun W => m_label N W (by omega)
  have HTL := Lib.hid fun W => trim_any (tl1 Y) W
  have htz := triB_size (tl1 Y)
  have HD := Lib.hid fun W => m_dest (triB (tl1 Y)) W (by omega)
  rw [HTy.out] at HTL
  rw [← HTy.out] at HTL
  generalize triB (tl1 Y) = r at *
  have hrs : r.size ≤ 1000000 := by omega
  rw [HTy.out] at HTL
  clear HTy hty
  generalize Lib.hasPrefix (bytesL Y) [58] = pb at *
  cases cb
  · have HF : Hid (R = none) := Lib.hid (by rw [HR2.out]; simp)
    clear HR2
    go_enter Tryz.func68, Tryz.ntmps68
    go_wp2_with fail
    ((with_reducible refine (HC.out _).mono ?_))
    rintro e w1 ⟨rfl, b1⟩
    obtain ⟨HZ1, HB1⟩ := zw_after b1
    clear b1
    obtain ⟨k0, k1, k2, k3, k4, k5, k6, k7, k8, k9, k10, y0, y1, y2, y3, y4, y5, y6, y7, y8, y9, y10⟩ := ZM.facts HZ1
    go_wp2_with fail
    exact def_ret (blk11 HZ1 _ _ _ _ _ _ _ _ _ _ _) rfl rfl rfl (rd_none HF.out ⟨_, _, _, _, _, _, _, _, _, _, _, _, _, _, _, rfl⟩ (below11 HB1 (Nat.le_refl _) _ _ _ _ _ _ _ _ _ _ _))
  cases pb
  · have HF : Hid (R = none) := Lib.hid (by rw [HR2.out]; simp)
    clear HR2
    go_enter Tryz.func68, Tryz.ntmps68
    go_wp2_with fail
    ((with_reducible refine (HC.out _).mono ?_))
    rintro e w1 ⟨rfl, b1⟩
    obtain ⟨HZ1, HB1⟩ := zw_after b1
    clear b1
    go_wp2_with fail
    ((with_reducible refine (HP2.out _).mono ?_))
    rintro e w0 ⟨rfl, rfl⟩
    obtain ⟨k0, k1, k2, k3, k4, k5, k6, k7, k8, k9, k10, y0, y1, y2, y3, y4, y5, y6, y7, y8, y9, y10⟩ := ZM.facts HZ1
    go_wp2_with fail
    exact def_ret (blk11 HZ1 _ _ _ _ _ _ _ _ _ _ _) rfl rfl rfl (rd_none HF.out ⟨_, _, _, _, _, _, _, _, _, _, _, _, _, _, _, rfl⟩ (below11 HB1 (Nat.le_refl _) _ _ _ _ _ _ _ _ _ _ _))
  have hy1 := hyl rfl
  clear hyl
  by_cases hlab : labelL (bytesL N) = []
  · have HF : Hid (R = none) := Lib.hid (by rw [HR2.out, hlab]; simp)
    clear HR2
    rw [hlab] at HLb
    clear hlab
    have HLb' : Hid (∀ W, Calls Tryz.prog 112 #[.string N] W fun e w' => e = .returned (.string ⟨#[]⟩) ∧ Below W.heap.size W w') := HLb
    clear HLb
    go_enter Tryz.func68, Tryz.ntmps68
    go_wp2_with fail
    ((with_reducible refine (HC.out _).mono ?_))
    rintro e w1 ⟨rfl, b1⟩
    obtain ⟨HZ1, HB1⟩ := zw_after b1
    clear b1
    go_wp2_with fail
    ((with_reducible refine (HP2.out _).mono ?_))
    rintro e w0 ⟨rfl, rfl⟩
    go_wp2_with fail
    ((with_reducible refine (HLb'.out _).mono ?_))
    rintro e w2 ⟨rfl, b2⟩
    have HZ2 := ZM.below HZ1 b2
    have HB2 := HB1.trans (b2.mono HB1.size)
    clear HZ1 HB1 b2
    obtain ⟨k0, k1, k2, k3, k4, k5, k6, k7, k8, k9, k10, y0, y1, y2, y3, y4, y5, y6, y7, y8, y9, y10⟩ := ZM.facts HZ2
    go_wp2_with fail
    exact def_ret (blk11 HZ2 _ _ _ _ _ _ _ _ _ _ _) rfl rfl rfl (rd_none HF.out ⟨_, _, _, _, _, _, _, _, _, _, _, _, _, _, _, rfl⟩ (below11 HB2 (Nat.le_refl _) _ _ _ _ _ _ _ _ _ _ _))
  have HR3 : Hid (R = defTail (mk (labelL (bytesL N))) r) := Lib.hid (by rw [HR2.out, if_pos ⟨rfl, rfl, hlab⟩])
  obtain ⟨l1, l2⟩ := cons_list (mk (labelL (bytesL N))) (by rw [bytesL_mk']; exact hlab)
  clear HR2 hlab
  generalize mk (labelL (bytesL N)) = L at *
  have hdl : ∀ q, destR r 0 = some q → q.2 ≤ r.size := fun q h => by have := destR_le h; omega
  have HR4 : Hid (R = match destR r 0 with | none => none | some (d, p) => defTitle L d (triB (r.extract p r.size)) (r.size - p)) := HR3
  clear HR3
  generalize destR r 0 = DR at *
  cases DR with
  | none =>
    have HF : Hid (R = none) := Lib.hid HR4.out
    clear HR4 hdl
    go_enter Tryz.func68, Tryz.ntmps68
    go_wp2_with fail
    ((with_reducible refine (HC.out _).mono ?_))
    rintro e w1 ⟨rfl, b1⟩
    obtain ⟨HZ1, HB1⟩ := zw_after b1
    clear b1
    go_wp2_with fail
    ((with_reducible refine (HP2.out _).mono ?_))
    rintro e w0 ⟨rfl, rfl⟩
    go_wp2_with fail
    ((with_reducible refine (HLb.out _).mono ?_))
    rintro e w2 ⟨rfl, b2⟩
    have HZ2 := ZM.below HZ1 b2
    have HB2 := HB1.trans (b2.mono HB1.size)
    clear HZ1 HB1 b2
    go_wp2_with fail
    ((with_reducible refine (HTL.out _).mono ?_))
    rintro e w0 ⟨rfl, rfl⟩
    go_wp2_with fail
    ((with_reducible refine (HD.out _).mono ?_))
    rintro e w3 ⟨rfl, b3⟩
    have HZ3 := ZM.below HZ2 b3
    have HB3 := HB2.trans (b3.mono HB2.size)
    have HLT := Lib.hid (Nat.lt_of_lt_of_le HZ2.lt b3.size)
    clear HZ2 HB2 b3
    obtain ⟨k0, k1, k2, k3, k4, k5, k6, k7, k8, k9, k10, y0, y1, y2, y3, y4, y5, y6, y7, y8, y9, y10⟩ := ZM.facts HZ3
    go_wp2_with fail
    exact def_ret (blk11 HZ3 _ _ _ _ _ _ _ _ _ _ _) rfl rfl rfl (rd_none HF.out ⟨_, _, _, _, _, _, _, _, _, _, _, _, _, _, _, rfl⟩ (below11 HB3 (Nat.le_refl _) _ _ _ _ _ _ _ _ _ _ _))
  | some q =>
  obtain ⟨d, p⟩ := q
  have hpr := hdl _ rfl
  simp only at hpr
  have HR5 : Hid (R = defTitle L d (triB (r.extract p r.size)) (r.size - p)) := Lib.hid HR4.out
  clear HR4 hdl
  have hpri : (p : Int) ≤ (r.size : Int) := by omega
  have hsub : (r.size : Int) - (p : Int) = ((r.size - p : Nat) : Int) := by omega
  have hez : (r.extract p r.size).size ≤ 1000000 := by rw [ByteArray.size_extract]; omega
  have HTA := Lib.hid fun W => trim_any (r.extract p r.size) W
  have haz := triB_size (r.extract p r.size)
  generalize triB (r.extract p r.size) = A at *
  generalize r.size - p = m at *
  have HR6 : Hid (R = if A.size = 0 then some { kind := 11, info := L, dest := mk d } else if A.size = m then none else match titleR A 0 with | none => none | some (t, q) => if blankB (A.extract q A.size) = true then some { kind := 11, info := L, dest := mk d, title := mk t } else none) := HR5
  clear HR5
  by_cases ha0 : A.size = 0
  · have HF : Hid (R = some { kind := 11, info := L, dest := mk d }) := Lib.hid (by rw [HR6.out, if_pos ha0])
    have e0 : A = ⟨#[]⟩ := by rw [← mk_bytesL A, (size_nil A).1 ha0]; rfl
    clear HR6 ha0
    subst e0
    go_enter Tryz.func68, Tryz.ntmps68
    go_wp2_with fail
    ((with_reducible refine (HC.out _).mono ?_))
    rintro e w1 ⟨rfl, b1⟩
    obtain ⟨HZ1, HB1⟩ := zw_after b1
    clear b1
    go_wp2_with fail
    ((with_reducible refine (HP2.out _).mono ?_))
    rintro e w0 ⟨rfl, rfl⟩
    go_wp2_with fail
    ((with_reducible refine (HLb.out _).mono ?_))
    rintro e w2 ⟨rfl, b2⟩
    have HZ2 := ZM.below HZ1 b2
    have HB2 := HB1.trans (b2.mono HB1.size)
    clear HZ1 HB1 b2
    go_wp2_with fail
    ((with_reducible refine (HTL.out _).mono ?_))
    rintro e w0 ⟨rfl, rfl⟩
    go_wp2_with fail
    ((with_reducible refine (HD.out _).mono ?_))
    rintro e w3 ⟨rfl, b3⟩
    have HZ3 := ZM.below HZ2 b3
    have HB3 := HB2.trans (b3.mono HB2.size)
    have HLT := Lib.hid (Nat.lt_of_lt_of_le HZ2.lt b3.size)
    clear HZ2 HB2 b3
    have HZ4 : ZM (w3.alloc (.cells #[.int .i64 11, .int .i64 0, .string ⟨#[]⟩, .int .i64 0, .string L, .string ⟨#[]⟩, .string (mk d), .string ⟨#[]⟩, .string ⟨#[]⟩, .slice none 0 0, .slice none 0 0] 74)) w.heap.size := Blk.alloc HZ3 _
    have HB4 := HB3.alloc HB3.size (.cells #[.int .i64 11, .int .i64 0, .string ⟨#[]⟩, .int .i64 0, .string L, .string ⟨#[]⟩, .string (mk d), .string ⟨#[]⟩, .string ⟨#[]⟩, .slice none 0 0, .slice none 0 0] 74)
    have HM4 := Blk.new w3 74 #[.int .i64 11, .int .i64 0, .string ⟨#[]⟩, .int .i64 0, .string L, .string ⟨#[]⟩, .string (mk d), .string ⟨#[]⟩, .string ⟨#[]⟩, .slice none 0 0, .slice none 0 0]
    clear HZ3 HB3
    go_wp2_with fail
    ((with_reducible refine (HTA.out _).mono ?_))
    rintro e w0 ⟨rfl, rfl⟩
    obtain ⟨g0, g1, g2, g3, g4, g5, g6, g7, g8, g9, g10, z0, z1, z2, z3, z4, z5, z6, z7, z8, z9, z10⟩ := mk_facts HM4
    obtain ⟨k0, k1, k2, k3, k4, k5, k6, k7, k8, k9, k10, y0, y1, y2, y3, y4, y5, y6, y7, y8, y9, y10⟩ := ZM.facts HZ4
    go_wp2_with fail
    exact def_ret (blk11 HZ4 _ _ _ _ _ _ _ _ _ _ _) rfl rfl rfl (rd_some HF.out (mkVal_plain (m := { kind := 11, info := L, dest := mk d }) rfl (below11 HB4 (Nat.le_refl _) _ _ _ _ _ _ _ _ _ _ _).size) (below11 HB4 (Nat.le_refl _) _ _ _ _ _ _ _ _ _ _ _))
  rw [if_neg ha0] at HR6
  obtain ⟨a1, a2⟩ := cons_list A (fun e => ha0 ((size_nil A).2 e))
  clear ha0
  by_cases ham : A.size = m
  · have HF : Hid (R = none) := Lib.hid (by rw [HR6.out, if_pos ham])
    have d1 : (A.size == m) = true := by rw [beq_iff_eq]; exact ham
    have d2 : ((A.size : Int) == (m : Int)) = true := by rw [beq_iff_eq]; omega
    clear HR6 ham
    go_enter Tryz.func68, Tryz.ntmps68
    go_wp2_with fail
    ((with_reducible refine (HC.out _).mono ?_))
    rintro e w1 ⟨rfl, b1⟩
    obtain ⟨HZ1, HB1⟩ := zw_after b1
    clear b1
    go_wp2_with fail
    ((with_reducible refine (HP2.out _).mono ?_))
    rintro e w0 ⟨rfl, rfl⟩
    go_wp2_with fail
    ((with_reducible refine (HLb.out _).mono ?_))
    rintro e w2 ⟨rfl, b2⟩
    have HZ2 := ZM.below HZ1 b2
    have HB2 := HB1.trans (b2.mono HB1.size)
    clear HZ1 HB1 b2
    go_wp2_with fail
    ((with_reducible refine (HTL.out _).mono ?_))
    rintro e w0 ⟨rfl, rfl⟩
    go_wp2_with fail
    ((with_reducible refine (HD.out _).mono ?_))
    rintro e w3 ⟨rfl, b3⟩
    have HZ3 := ZM.below HZ2 b3
    have HB3 := HB2.trans (b3.mono HB2.size)
    have HLT := Lib.hid (Nat.lt_of_lt_of_le HZ2.lt b3.size)
    clear HZ2 HB2 b3
    have HZ4 : ZM (w3.alloc (.cells #[.int .i64 11, .int .i64 0, .string ⟨#[]⟩, .int .i64 0, .string L, .string ⟨#[]⟩, .string (mk d), .string ⟨#[]⟩, .string ⟨#[]⟩, .slice none 0 0, .slice none 0 0] 74)) w.heap.size := Blk.alloc HZ3 _
    have HB4 := HB3.alloc HB3.size (.cells #[.int .i64 11, .int .i64 0, .string ⟨#[]⟩, .int .i64 0, .string L, .string ⟨#[]⟩, .string (mk d), .string ⟨#[]⟩, .string ⟨#[]⟩, .slice none 0 0, .slice none 0 0] 74)
    have HM4 := Blk.new w3 74 #[.int .i64 11, .int .i64 0, .string ⟨#[]⟩, .int .i64 0, .string L, .string ⟨#[]⟩, .string (mk d), .string ⟨#[]⟩, .string ⟨#[]⟩, .slice none 0 0, .slice none 0 0]
    clear HZ3 HB3
    go_wp2_with fail
    ((with_reducible refine (HTA.out _).mono ?_))
    rintro e w0 ⟨rfl, rfl⟩
    obtain ⟨k0, k1, k2, k3, k4, k5, k6, k7, k8, k9, k10, y0, y1, y2, y3, y4, y5, y6, y7, y8, y9, y10⟩ := ZM.facts HZ4
    go_wp2_with fail
    exact def_ret (blk11 HZ4 _ _ _ _ _ _ _ _ _ _ _) rfl rfl rfl (rd_none HF.out ⟨_, _, _, _, _, _, _, _, _, _, _, _, _, _, _, rfl⟩ (below11 HB4 (Nat.le_refl _) _ _ _ _ _ _ _ _ _ _ _))
  rw [if_neg ham] at HR6
  have d1 : (A.size == m) = false := by rw [beq_eq_false_iff_ne]; exact ham
  have d2 : ((A.size : Int) == (m : Int)) = false := by rw [beq_eq_false_iff_ne]; omega
  clear ham
  have HTt := Lib.hid fun W => m_title A W (by omega)
  have htl : ∀ q, titleR A 0 = some q → q.2 ≤ A.size := fun q h => by have := titleR_le h; omega
  generalize titleR A 0 = TR at *
  cases TR with
  | none =>
    have HF : Hid (R = none) := Lib.hid HR6.out
    clear HR6 htl
    go_enter Tryz.func68, Tryz.ntmps68
    go_wp2_with fail
    ((with_reducible refine (HC.out _).mono ?_))
    rintro e w1 ⟨rfl, b1⟩
    obtain ⟨HZ1, HB1⟩ := zw_after b1
    clear b1
    go_wp2_with fail
    ((with_reducible refine (HP2.out _).mono ?_))
    rintro e w0 ⟨rfl, rfl⟩
    go_wp2_with fail
    ((with_reducible refine (HLb.out _).mono ?_))
    rintro e w2 ⟨rfl, b2⟩
    have HZ2 := ZM.below HZ1 b2
    have HB2 := HB1.trans (b2.mono HB1.size)
    clear HZ1 HB1 b2
    go_wp2_with fail
    ((with_reducible refine (HTL.out _).mono ?_))
    rintro e w0 ⟨rfl, rfl⟩
    go_wp2_with fail
    ((with_reducible refine (HD.out _).mono ?_))
    rintro e w3 ⟨rfl, b3⟩
    have HZ3 := ZM.below HZ2 b3
    have HB3 := HB2.trans (b3.mono HB2.size)
    have HLT := Lib.hid (Nat.lt_of_lt_of_le HZ2.lt b3.size)
    clear HZ2 HB2 b3
    have HZ4 : ZM (w3.alloc (.cells #[.int .i64 11, .int .i64 0, .string ⟨#[]⟩, .int .i64 0, .string L, .string ⟨#[]⟩, .string (mk d), .string ⟨#[]⟩, .string ⟨#[]⟩, .slice none 0 0, .slice none 0 0] 74)) w.heap.size := Blk.alloc HZ3 _
    have HB4 := HB3.alloc HB3.size (.cells #[.int .i64 11, .int .i64 0, .string ⟨#[]⟩, .int .i64 0, .string L, .string ⟨#[]⟩, .string (mk d), .string ⟨#[]⟩, .string ⟨#[]⟩, .slice none 0 0, .slice none 0 0] 74)
    have HM4 := Blk.new w3 74 #[.int .i64 11, .int .i64 0, .string ⟨#[]⟩, .int .i64 0, .string L, .string ⟨#[]⟩, .string (mk d), .string ⟨#[]⟩, .string ⟨#[]⟩, .slice none 0 0, .slice none 0 0]
    clear HZ3 HB3
    go_wp2_with fail
    ((with_reducible refine (HTA.out _).mono ?_))
    rintro e w0 ⟨rfl, rfl⟩
    go_wp2_with fail
    ((with_reducible refine (HTt.out _).mono ?_))
    rintro e w5 ⟨rfl, b5⟩
    have HZ5 := ZM.below HZ4 b5
    have HB5 := HB4.trans (b5.mono HB4.size)
    have HM5 := Blk.below HM4 b5 HM4.lt
    clear HZ4 HB4 HM4 b5
    obtain ⟨g0, g1, g2, g3, g4, g5, g6, g7, g8, g9, g10, z0, z1, z2, z3, z4, z5, z6, z7, z8, z9, z10⟩ := mk_facts HM5
    have HZ6 : ZM (w5.setCell ⟨w3.heap.size, 7, none⟩ (.string ⟨#[]⟩)) w.heap.size := Blk.far HZ5 (p := ⟨w3.heap.size, 7, none⟩) (Nat.ne_of_lt HLT.out) _
    have HB6 := HB5.setCell (p := ⟨w3.heap.size, 7, none⟩) (Nat.le_of_lt HLT.out) (.string ⟨#[]⟩)
    have HM6 : Blk (w5.setCell ⟨w3.heap.size, 7, none⟩ (.string ⟨#[]⟩)) w3.heap.size 74 #[.int .i64 11, .int .i64 0, .string ⟨#[]⟩, .int .i64 0, .string L, .string ⟨#[]⟩, .string (mk d), .string ⟨#[]⟩, .string ⟨#[]⟩, .slice none 0 0, .slice none 0 0] := Blk.set_ HM5 7 (.string ⟨#[]⟩)
    go_wp2_with fail
    clear g0 g1 g2 g3 g4 g5 g6 g7 g8 g9 g10 z0 z1 z2 z3 z4 z5 z6 z7 z8 z9 z10
    generalize w5.setCell ⟨w3.heap.size, 7, none⟩ (.string ⟨#[]⟩) = w6 at *
    obtain ⟨g0, g1, g2, g3, g4, g5, g6, g7, g8, g9, g10, z0, z1, z2, z3, z4, z5, z6, z7, z8, z9, z10⟩ := mk_facts HM6
    obtain ⟨k0, k1, k2, k3, k4, k5, k6, k7, k8, k9, k10, y0, y1, y2, y3, y4, y5, y6, y7, y8, y9, y10⟩ := ZM.facts HZ6
    have hne : ¬ w.heap.size = w3.heap.size := Nat.ne_of_lt HLT.out
    refine wp_region_held_drew (S := (fun w' => w'.cell? ⟨w3.heap.size, 0, none⟩ = some (.int .i64 11) ∧ w'.cell? ⟨w3.heap.size, 1, none⟩ = some (.int .i64 0) ∧ w'.cell? ⟨w3.heap.size, 2, none⟩ = some (.string ⟨#[]⟩) ∧ w'.cell? ⟨w3.heap.size, 3, none⟩ = some (.int .i64 0) ∧ w'.cell? ⟨w3.heap.size, 4, none⟩ = some (.string L) ∧ w'.cell? ⟨w3.heap.size, 5, none⟩ = some (.string ⟨#[]⟩) ∧ w'.cell? ⟨w3.heap.size, 6, none⟩ = some (.string (mk d)) ∧ w'.cell? ⟨w3.heap.size, 7, none⟩ = some (.string ⟨#[]⟩) ∧ w'.cell? ⟨w3.heap.size, 8, none⟩ = some (.string ⟨#[]⟩) ∧ w'.cell? ⟨w3.heap.size, 9, none⟩ = some (.slice none 0 0) ∧ w'.cell? ⟨w3.heap.size, 10, none⟩ = some (.slice none 0 0))) (by kernel_rfl) ⟨g0, g1, g2, g3, g4, g5, g6, g7, g8, g9, g10⟩ (fun hHeld => ?_)
    refine tk 0 (.agg #[.int .i64 11, .int .i64 0, .string ⟨#[]⟩, .int .i64 0, .string L, .string ⟨#[]⟩, .string (mk d), .string ⟨#[]⟩, .string ⟨#[]⟩, .slice none 0 0, .slice none 0 0]) rfl hHeld (fun W' hSw => ?_) ?_
    · obtain ⟨h0, h1, h2, h3, h4, h5, h6, h7, h8, h9, h10⟩ := hSw
      go_simp
    refine tk 1 (.bool false) rfl hHeld (fun W' hSw => ?_) ?_
    · go_simp
    refine tk 2 (.bool false) rfl hHeld (fun W' hSw => ?_) ?_
    · go_simp
    refine wpAnyH_ready (rs := [3, 4]) (by kernel_rfl) (by simp) (AllReadyH.cons rfl (fun K hK => ?_) (AllReadyH.cons rfl (fun K hK => ?_) AllReadyH.nil))
    · go_simp
      refine hK.out _ _ hHeld (fun _ => ?_)
      clear hK K
      refine rd1 4 rfl (fun K hK => ?_)
      go_simp
      refine hK.out _ _ hHeld (fun _ => ?_)
      clear hK K
      refine rd1 5 rfl (fun K hK => ?_)
      go_simp
      refine hK.out _ _ hHeld (fun _ => ?_)
      clear hK K
      refine rd1 6 rfl (fun K hK => ?_)
      go_simp
      refine hK.out _ _ hHeld (fun _ => ?_)
      clear hK K
      refine tk 7 (.bool false) rfl hHeld (fun W' hSw => ?_) ?_
      · go_simp
      refine rd1 8 rfl (fun K hK => ?_)
      go_simp
      refine hK.out _ _ (by go_keep) (fun hHeld => ?_)
      clear hK K
      refine rd1 9 rfl (fun K hK => ?_)
      go_simp
      refine hK.out _ _ hHeld (fun _ => ?_)
      clear hK K
      refine wpAnyH_done (by kernel_rfl) ?_ _
      go_wp2_with fail
      exact def_ret (Blk.drewN (blk11 HZ6 _ _ _ _ _ _ _ _ _ _ _) 1) rfl rfl rfl (rd_none HF.out ⟨_, _, _, _, _, _, _, _, _, _, _, _, _, _, _, rfl⟩ (below_drewN (below11 HB6 (Nat.le_of_eq rfl) _ _ _ _ _ _ _ _ _ _ _) 1))
    · go_simp
      refine hK.out _ _ hHeld (fun _ => ?_)
      clear hK K
      refine rd1 3 rfl (fun K hK => ?_)
      go_simp
      refine hK.out _ _ hHeld (fun _ => ?_)
      clear hK K
      refine rd1 5 rfl (fun K hK => ?_)
      go_simp
      refine hK.out _ _ hHeld (fun _ => ?_)
      clear hK K
      refine rd1 6 rfl (fun K hK => ?_)
      go_simp
      refine hK.out _ _ hHeld (fun _ => ?_)
      clear hK K
      refine tk 7 (.bool false) rfl hHeld (fun W' hSw => ?_) ?_
      · go_simp
      refine rd1 8 rfl (fun K hK => ?_)
      go_simp
      refine hK.out _ _ (by go_keep) (fun hHeld => ?_)
      clear hK K
      refine rd1 9 rfl (fun K hK => ?_)
      go_simp
      refine hK.out _ _ hHeld (fun _ => ?_)
      clear hK K
      refine wpAnyH_done (by kernel_rfl) ?_ _
      go_wp2_with fail
      exact def_ret (Blk.drewN (blk11 HZ6 _ _ _ _ _ _ _ _ _ _ _) 1) rfl rfl rfl (rd_none HF.out ⟨_, _, _, _, _, _, _, _, _, _, _, _, _, _, _, rfl⟩ (below_drewN (below11 HB6 (Nat.le_of_eq rfl) _ _ _ _ _ _ _ _ _ _ _) 1))
  | some q =>
    obtain ⟨t, q⟩ := q
    have hql := htl _ rfl
    simp only at hql
    have hqli : (q : Int) ≤ (A.size : Int) := by omega
    have HBl := Lib.hid fun W => t_blank (A.extract q A.size) W (by rw [ByteArray.size_extract]; omega)
    have HF : Hid (R = if blankB (A.extract q A.size) = true then some { kind := 11, info := L, dest := mk d, title := mk t } else none) := Lib.hid HR6.out
    clear HR6 htl
    generalize blankB (A.extract q A.size) = bb at *
    go_enter Tryz.func68, Tryz.ntmps68
    go_wp2_with fail
    ((with_reducible refine (HC.out _).mono ?_))
    rintro e w1 ⟨rfl, b1⟩
    obtain ⟨HZ1, HB1⟩ := zw_after b1
    clear b1
    go_wp2_with fail
    ((with_reducible refine (HP2.out _).mono ?_))
    rintro e w0 ⟨rfl, rfl⟩
    go_wp2_with fail
    ((with_reducible refine (HLb.out _).mono ?_))
    rintro e w2 ⟨rfl, b2⟩
    have HZ2 := ZM.below HZ1 b2
    have HB2 := HB1.trans (b2.mono HB1.size)
    clear HZ1 HB1 b2
    go_wp2_with fail
    ((with_reducible refine (HTL.out _).mono ?_))
    rintro e w0 ⟨rfl, rfl⟩
    go_wp2_with fail
    ((with_reducible refine (HD.out _).mono ?_))
    rintro e w3 ⟨rfl, b3⟩
    have HZ3 := ZM.below HZ2 b3
    have HB3 := HB2.trans (b3.mono HB2.size)
    have HLT := Lib.hid (Nat.lt_of_lt_of_le HZ2.lt b3.size)
    clear HZ2 HB2 b3
    have HZ4 : ZM (w3.alloc (.cells #[.int .i64 11, .int .i64 0, .string ⟨#[]⟩, .int .i64 0, .string L, .string ⟨#[]⟩, .string (mk d), .string ⟨#[]⟩, .string ⟨#[]⟩, .slice none 0 0, .slice none 0 0] 74)) w.heap.size := Blk.alloc HZ3 _
    have HB4 := HB3.alloc HB3.size (.cells #[.int .i64 11, .int .i64 0, .string ⟨#[]⟩, .int .i64 0, .string L, .string ⟨#[]⟩, .string (mk d), .string ⟨#[]⟩, .string ⟨#[]⟩, .slice none 0 0, .slice none 0 0] 74)
    have HM4 := Blk.new w3 74 #[.int .i64 11, .int .i64 0, .string ⟨#[]⟩, .int .i64 0, .string L, .string ⟨#[]⟩, .string (mk d), .string ⟨#[]⟩, .string ⟨#[]⟩, .slice none 0 0, .slice none 0 0]
    clear HZ3 HB3
    go_wp2_with fail
    ((with_reducible refine (HTA.out _).mono ?_))
    rintro e w0 ⟨rfl, rfl⟩
    go_wp2_with fail
    ((with_reducible refine (HTt.out _).mono ?_))
    rintro e w5 ⟨rfl, b5⟩
    have HZ5 := ZM.below HZ4 b5
    have HB5 := HB4.trans (b5.mono HB4.size)
    have HM5 := Blk.below HM4 b5 HM4.lt
    clear HZ4 HB4 HM4 b5
    obtain ⟨g0, g1, g2, g3, g4, g5, g6, g7, g8, g9, g10, z0, z1, z2, z3, z4, z5, z6, z7, z8, z9, z10⟩ := mk_facts HM5
    have HZ6 : ZM (w5.setCell ⟨w3.heap.size, 7, none⟩ (.string (mk t))) w.heap.size := Blk.far HZ5 (p := ⟨w3.heap.size, 7, none⟩) (Nat.ne_of_lt HLT.out) _
    have HB6 := HB5.setCell (p := ⟨w3.heap.size, 7, none⟩) (Nat.le_of_lt HLT.out) (.string (mk t))
    have HM6 : Blk (w5.setCell ⟨w3.heap.size, 7, none⟩ (.string (mk t))) w3.heap.size 74 #[.int .i64 11, .int .i64 0, .string ⟨#[]⟩, .int .i64 0, .string L, .string ⟨#[]⟩, .string (mk d), .string (mk t), .string ⟨#[]⟩, .slice none 0 0, .slice none 0 0] := Blk.set_ HM5 7 (.string (mk t))
    go_wp2_with fail
    clear g0 g1 g2 g3 g4 g5 g6 g7 g8 g9 g10 z0 z1 z2 z3 z4 z5 z6 z7 z8 z9 z10
    generalize w5.setCell ⟨w3.heap.size, 7, none⟩ (.string (mk t)) = w6 at *
    obtain ⟨g0, g1, g2, g3, g4, g5, g6, g7, g8, g9, g10, z0, z1, z2, z3, z4, z5, z6, z7, z8, z9, z10⟩ := mk_facts HM6
    obtain ⟨k0, k1, k2, k3, k4, k5, k6, k7, k8, k9, k10, y0, y1, y2, y3, y4, y5, y6, y7, y8, y9, y10⟩ := ZM.facts HZ6
    have hne : ¬ w.heap.size = w3.heap.size := Nat.ne_of_lt HLT.out
    go_region_held3 (fun w' => w'.cell? ⟨w3.heap.size, 0, none⟩ = some (.int .i64 11) ∧ w'.cell? ⟨w3.heap.size, 1, none⟩ = some (.int .i64 0) ∧ w'.cell? ⟨w3.heap.size, 2, none⟩ = some (.string ⟨#[]⟩) ∧ w'.cell? ⟨w3.heap.size, 3, none⟩ = some (.int .i64 0) ∧ w'.cell? ⟨w3.heap.size, 4, none⟩ = some (.string L) ∧ w'.cell? ⟨w3.heap.size, 5, none⟩ = some (.string ⟨#[]⟩) ∧ w'.cell? ⟨w3.heap.size, 6, none⟩ = some (.string (mk d)) ∧ w'.cell? ⟨w3.heap.size, 7, none⟩ = some (.string (mk t)) ∧ w'.cell? ⟨w3.heap.size, 8, none⟩ = some (.string ⟨#[]⟩) ∧ w'.cell? ⟨w3.heap.size, 9, none⟩ = some (.slice none 0 0) ∧ w'.cell? ⟨w3.heap.size, 10, none⟩ = some (.slice none 0 0)) (go_keep) ((go_at_call 57; refine (HBl.out _).mono ?_; rintro e w' ⟨rfl, rfl⟩))
    all_goals go_wp2_with fail
    exact def_ret (Blk.drewN (blk11 HZ6 _ _ _ _ _ _ _ _ _ _ _) 1) rfl rfl rfl (rd_if HF.out (mkVal_plain (m := { kind := 11, info := L, dest := mk d, title := mk t }) rfl (below_drewN (below11 HB6 (Nat.le_of_eq rfl) _ _ _ _ _ _ _ _ _ _ _) 1).size) (below_drewN (below11 HB6 (Nat.le_of_eq rfl) _ _ _ _ _ _ _ _ _ _ _) 1))

end Go.Proofs.YtpoafhgbhnblmaaGreatDoor
