/-
  Texts of the proof, put together: MkDB, LinkM, LawM.
-/
import Derived.Test.YthfienjmigidbaaGreatDoorB32
import Derived.Test.YthfienjmigidbaaGreatDoorB30
import Derived.Test.YthfienjmigidbaaGreatDoorB24
import Derived.Test.YthfienjmigidbaaGreatDoorB27
set_option linter.unusedVariables false
set_option linter.unusedSimpArgs false
namespace Go.Proofs.YthfienjmigidbaaGreatDoor
open Go.RowKit Go.Pub

theorem part_shape (r : Option (List UInt8 × Nat)) : ∃ x y z, partVal r = .agg #[.string x, .int .i64 y, .bool z] := by
  cases r with
  | none => exact ⟨_, _, _, rfl⟩
  | some p => exact ⟨_, _, _, rfl⟩
theorem sp_nat (s : ByteArray) (t : Nat) (W : World) (hs : s.size ≤ 1000000) (ht : t + 1 ≤ s.size) : Calls Tryz.prog 30 #[.string s, .int .i64 ((t : Int) + 1)] W fun e w' => e = .returned (.int .i64 (indA s (t + 1))) ∧ W = w' := by
  have h := r5_spaces s (t + 1) W hs ht
  rw [nat_succ] at h
  exact h

set_option maxRecDepth 100000 in
set_option maxHeartbeats 8000000 in
theorem r5_def (s : ByteArray) (w : World) (hs : s.size ≤ 1000000) : Calls Tryz.prog 19 #[.string s] w (MkPost ((defMk (defI s)).getD {}) w) := by
  have hil := indA_le s
  have HSp0 : Hid (∀ W, Calls Tryz.prog 30 #[.string s, .int .i64 0] W fun e w' => e = .returned (.int .i64 (indA s 0)) ∧ W = w') := Lib.hid fun W => r5_spaces s 0 W hs (Nat.zero_le _)
  have HL := Lib.hid fun W => r_readlabel s (indA s 0) W hs hil
  have HR : Hid (defI s = if 3 < indA s 0 then none else match brackR s (indA s 0) with | none => none | some b => if b.2 < s.size ∧ bt s b.2 = 58 then defDt s b.1 b.2 else none) := Lib.hid rfl
  have hbl : ∀ r, brackR s (indA s 0) = some r → r.2 ≤ s.size := fun r h => (brackR_le h).2
  generalize defI s = R at *
  obtain ⟨M, hM⟩ : ∃ M, M = (defMk R).getD {} := ⟨_, rfl⟩
  rw [← hM]
  have HM := Lib.hid hM
  clear hM
  generalize indA s 0 = i at *
  generalize brackR s i = BR at *
  by_cases h3 : 3 < i
  · have HF : Hid (M = {}) := Lib.hid (by rw [HM.out, HR.out, if_pos h3]; rfl)
    have d1 : decide (3 < (i : Int)) = true := decide_eq_true (by omega)
    have d2 : decide (3 < i) = true := decide_eq_true h3
    obtain ⟨x, y, z, hv⟩ := part_shape BR
    unfold RPartPost at HL
    rw [hv] at HL
    clear HM HR hbl hv
    go_enter Tryz.func19, Tryz.ntmps19
    go_wp2_with fail
    ((with_reducible refine (HSp0.out _).mono ?_))
    rintro e w0 ⟨rfl, rfl⟩
    go_wp2_with fail
    ((with_reducible refine (HL.out _).mono ?_))
    rintro e w1 ⟨he, b1⟩
    subst he
    obtain ⟨HZ1, HB1⟩ := zw_after b1
    have HZ := Blk.alloc HZ1 (.cells #[.string x, .int .i64 y, .bool z] 70)
    have HB := HB1.alloc HB1.size (.cells #[.string x, .int .i64 y, .bool z] 70)
    clear b1 HZ1 HB1
    obtain ⟨k0, k1, k2, k3, k4, k5, k6, k7, k8, k9, k10, y0, y1, y2, y3, y4, y5, y6, y7, y8, y9, y10⟩ := ZM.facts HZ
    go_wp2_with fail
    exact rdef_ret (blk11 HZ _ _ _ _ _ _ _ _ _ _ _) rfl rfl ⟨⟨_, rfl, by rw [HF.out]; exact mkVal_plain (m := {}) rfl (below11 HB (Nat.le_refl _) _ _ _ _ _ _ _ _ _ _ _).size⟩, below11 HB (Nat.le_refl _) _ _ _ _ _ _ _ _ _ _ _⟩
  have d1 : decide (3 < (i : Int)) = false := decide_eq_false (by omega)
  have d2 : decide (3 < i) = false := decide_eq_false h3
  rw [if_neg h3] at HR
  unfold RPartPost at HL
  cases BR with
  | none =>
    have HF : Hid (M = {}) := Lib.hid (by rw [HM.out, HR.out]; rfl)
    clear HM HR hbl
    go_enter Tryz.func19, Tryz.ntmps19
    go_wp2_with fail
    ((with_reducible refine (HSp0.out _).mono ?_))
    rintro e w0 ⟨rfl, rfl⟩
    go_wp2_with fail
    ((with_reducible refine (HL.out _).mono ?_))
    rintro e w1 ⟨he, b1⟩
    dsimp only [partVal] at he
    subst he
    obtain ⟨HZ1, HB1⟩ := zw_after b1
    have HZ := Blk.alloc HZ1 (.cells #[.string ⟨#[]⟩, .int .i64 0, .bool false] 70)
    have HB := HB1.alloc HB1.size (.cells #[.string ⟨#[]⟩, .int .i64 0, .bool false] 70)
    clear b1 HZ1 HB1
    obtain ⟨k0, k1, k2, k3, k4, k5, k6, k7, k8, k9, k10, y0, y1, y2, y3, y4, y5, y6, y7, y8, y9, y10⟩ := ZM.facts HZ
    go_wp2_with fail
    exact rdef_ret (blk11 HZ _ _ _ _ _ _ _ _ _ _ _) rfl rfl ⟨⟨_, rfl, by rw [HF.out]; exact mkVal_plain (m := {}) rfl (below11 HB (Nat.le_refl _) _ _ _ _ _ _ _ _ _ _ _).size⟩, below11 HB (Nat.le_refl _) _ _ _ _ _ _ _ _ _ _ _⟩
  | some b =>
    obtain ⟨l, t⟩ := b
    have htl : t ≤ s.size := hbl _ rfl
    simp only at HR
    clear hbl
    by_cases h4 : t < s.size
    case neg =>
      have HF : Hid (M = {}) := Lib.hid (by rw [HM.out, HR.out, if_neg (fun h => h4 h.1)]; rfl)
      have d3 : decide ((s.size : Int) ≤ (t : Int)) = true := decide_eq_true (by omega)
      have d4 : decide (s.size ≤ t) = true := decide_eq_true (by omega)
      clear HM HR
      go_enter Tryz.func19, Tryz.ntmps19
      go_wp2_with fail
      ((with_reducible refine (HSp0.out _).mono ?_))
      rintro e w0 ⟨rfl, rfl⟩
      go_wp2_with fail
      ((with_reducible refine (HL.out _).mono ?_))
      rintro e w1 ⟨he, b1⟩
      dsimp only [partVal] at he
      subst he
      obtain ⟨HZ1, HB1⟩ := zw_after b1
      have HZ := Blk.alloc HZ1 (.cells #[.string (mk l), .int .i64 (t : Nat), .bool true] 70)
      have HB := HB1.alloc HB1.size (.cells #[.string (mk l), .int .i64 (t : Nat), .bool true] 70)
      clear b1 HZ1 HB1
      obtain ⟨k0, k1, k2, k3, k4, k5, k6, k7, k8, k9, k10, y0, y1, y2, y3, y4, y5, y6, y7, y8, y9, y10⟩ := ZM.facts HZ
      go_wp2_with fail
      exact rdef_ret (blk11 HZ _ _ _ _ _ _ _ _ _ _ _) rfl rfl ⟨⟨_, rfl, by rw [HF.out]; exact mkVal_plain (m := {}) rfl (below11 HB (Nat.le_refl _) _ _ _ _ _ _ _ _ _ _ _).size⟩, below11 HB (Nat.le_refl _) _ _ _ _ _ _ _ _ _ _ _⟩
    have d3 : decide ((s.size : Int) ≤ (t : Int)) = false := decide_eq_false (by omega)
    have d4 : decide (s.size ≤ t) = false := decide_eq_false (by omega)
    have hg := get_bt s t h4
    by_cases h5 : bt s t = 58
    case neg =>
      have HF : Hid (M = {}) := Lib.hid (by rw [HM.out, HR.out, if_neg (fun h => h5 h.2)]; rfl)
      have z1 : (((bt s t : Nat) : Int) != 58) = true := by rw [bne_iff_ne]; omega
      clear HM HR
      go_enter Tryz.func19, Tryz.ntmps19
      go_wp2_with fail
      ((with_reducible refine (HSp0.out _).mono ?_))
      rintro e w0 ⟨rfl, rfl⟩
      go_wp2_with fail
      ((with_reducible refine (HL.out _).mono ?_))
      rintro e w1 ⟨he, b1⟩
      dsimp only [partVal] at he
      subst he
      obtain ⟨HZ1, HB1⟩ := zw_after b1
      have HZ := Blk.alloc HZ1 (.cells #[.string (mk l), .int .i64 (t : Nat), .bool true] 70)
      have HB := HB1.alloc HB1.size (.cells #[.string (mk l), .int .i64 (t : Nat), .bool true] 70)
      clear b1 HZ1 HB1
      obtain ⟨k0, k1, k2, k3, k4, k5, k6, k7, k8, k9, k10, y0, y1, y2, y3, y4, y5, y6, y7, y8, y9, y10⟩ := ZM.facts HZ
      go_wp2_with fail
      exact rdef_ret (blk11 HZ _ _ _ _ _ _ _ _ _ _ _) rfl rfl ⟨⟨_, rfl, by rw [HF.out]; exact mkVal_plain (m := {}) rfl (below11 HB (Nat.le_refl _) _ _ _ _ _ _ _ _ _ _ _).size⟩, below11 HB (Nat.le_refl _) _ _ _ _ _ _ _ _ _ _ _⟩
    have z1 : (((bt s t : Nat) : Int) != 58) = false := by rw [h5]; rfl
    have HR2 : Hid (R = match destR s (indA s (t + 1) : Nat) with | none => none | some d => defTl s l d.1 d.2) := Lib.hid (by rw [HR.out, if_pos ⟨h4, h5⟩]; rfl)
    clear HR
    have HSp1 := Lib.hid fun W => sp_nat s t W hs h4
    have HD := Lib.hid fun W => r_dest s (indA s (t + 1) : Nat) W hs
    have hdl : ∀ r, destR s (indA s (t + 1) : Nat) = some r → r.2 ≤ s.size := fun r h => (destR_le h).2.1
    generalize indA s (t + 1) = j at *
    generalize destR s (j : Nat) = DR at *
    unfold RPartPost at HD
    cases DR with
    | none =>
      have HF : Hid (M = {}) := Lib.hid (by rw [HM.out, HR2.out]; rfl)
      clear HM HR2 hdl
      go_enter Tryz.func19, Tryz.ntmps19
      go_wp2_with fail
      ((with_reducible refine (HSp0.out _).mono ?_))
      rintro e w0 ⟨rfl, rfl⟩
      go_wp2_with fail
      ((with_reducible refine (HL.out _).mono ?_))
      rintro e w1 ⟨he, b1⟩
      dsimp only [partVal] at he
      subst he
      obtain ⟨HZ1, HB1⟩ := zw_after b1
      have HZa := Blk.alloc HZ1 (.cells #[.string (mk l), .int .i64 (t : Nat), .bool true] 70)
      have HBa := HB1.alloc HB1.size (.cells #[.string (mk l), .int .i64 (t : Nat), .bool true] 70)
      have H4a := Blk.new w1 70 #[.string (mk l), .int .i64 (t : Nat), .bool true]
      clear b1 HZ1 HB1
      go_wp2_with fail
      ((with_reducible refine (HSp1.out _).mono ?_))
      rintro e w0 ⟨rfl, rfl⟩
      go_wp2_with fail
      ((with_reducible refine (HD.out _).mono ?_))
      rintro e w2 ⟨he2, b2⟩
      dsimp only [partVal] at he2
      subst he2
      have HZb := Blk.below HZa b2 HZa.lt
      have HBb := HBa.trans (b2.mono HBa.size)
      have hw2 := HBb.size
      have H4b := Blk.below H4a b2 H4a.lt
      clear b2 HZa HBa H4a
      have HZ := Blk.alloc HZb (.cells #[.string ⟨#[]⟩, .int .i64 0, .bool false] 70)
      have HB := HBb.alloc HBb.size (.cells #[.string ⟨#[]⟩, .int .i64 0, .bool false] 70)
      clear HZb HBb H4b
      obtain ⟨k0, k1, k2, k3, k4, k5, k6, k7, k8, k9, k10, y0, y1, y2, y3, y4, y5, y6, y7, y8, y9, y10⟩ := ZM.facts HZ
      go_wp2_with fail
      exact rdef_ret (blk11 HZ _ _ _ _ _ _ _ _ _ _ _) rfl rfl ⟨⟨_, rfl, by rw [HF.out]; exact mkVal_plain (m := {}) rfl (below11 HB (Nat.le_refl _) _ _ _ _ _ _ _ _ _ _ _).size⟩, below11 HB (Nat.le_refl _) _ _ _ _ _ _ _ _ _ _ _⟩
    | some d =>
      obtain ⟨d, e0⟩ := d
      have hel : e0 ≤ s.size := hdl _ rfl
      simp only at HR2
      clear hdl
      have HSp2 := Lib.hid fun W => r5_spaces s e0 W hs hel
      have HR3 : Hid (R = if indA s e0 = s.size then some (l, d, []) else if indA s e0 = e0 then none else match titleR s (indA s e0 : Nat) with | none => none | some t => if indA s t.2 < s.size then none else some (l, d, t.1)) := HR2
      clear HR2
      have HT := Lib.hid fun W => r_title s (indA s e0 : Nat) W hs
      have htl2 : ∀ r, titleR s (indA s e0 : Nat) = some r → r.2 ≤ s.size := fun r h => (titleR_le h).2.1
      generalize indA s e0 = k at *
      generalize titleR s (k : Nat) = TR at *
      unfold RPartPost at HT
      by_cases h6 : k = s.size
      · have HF : Hid (M = { kind := 11, info := mk l, dest := mk d }) := Lib.hid (by rw [HM.out, HR3.out, if_pos h6]; rfl)
        have z2 : ((k : Int) == (s.size : Int)) = true := by rw [beq_iff_eq]; omega
        have z3 : (k == s.size) = true := by rw [beq_iff_eq]; exact h6
        clear HM HR3 htl2 HT
        go_enter Tryz.func19, Tryz.ntmps19
        go_wp2_with fail
        ((with_reducible refine (HSp0.out _).mono ?_))
        rintro e w0 ⟨rfl, rfl⟩
        go_wp2_with fail
        ((with_reducible refine (HL.out _).mono ?_))
        rintro e w1 ⟨he, b1⟩
        dsimp only [partVal] at he
        subst he
        obtain ⟨HZ1, HB1⟩ := zw_after b1
        have HZa := Blk.alloc HZ1 (.cells #[.string (mk l), .int .i64 (t : Nat), .bool true] 70)
        have HBa := HB1.alloc HB1.size (.cells #[.string (mk l), .int .i64 (t : Nat), .bool true] 70)
        have H4a := Blk.new w1 70 #[.string (mk l), .int .i64 (t : Nat), .bool true]
        clear b1 HZ1 HB1
        go_wp2_with fail
        ((with_reducible refine (HSp1.out _).mono ?_))
        rintro e w0 ⟨rfl, rfl⟩
        go_wp2_with fail
        ((with_reducible refine (HD.out _).mono ?_))
        rintro e w2 ⟨he2, b2⟩
        dsimp only [partVal] at he2
        subst he2
        have HZb := Blk.below HZa b2 HZa.lt
        have HBb := HBa.trans (b2.mono HBa.size)
        have hw2 := HBb.size
        have H4b := Blk.below H4a b2 H4a.lt
        clear b2 HZa HBa H4a
        have H4c := Blk.alloc H4b (.cells #[.string (mk d), .int .i64 (e0 : Nat), .bool true] 70)
        have g40 := H4c.cell 0
        simp at g40
        have HZc := Blk.alloc (Blk.alloc HZb (.cells #[.string (mk d), .int .i64 (e0 : Nat), .bool true] 70)) (.cells #[.int .i64 11, .int .i64 0, .string ⟨#[]⟩, .int .i64 0, .string (mk l), .string ⟨#[]⟩, .string (mk d), .string ⟨#[]⟩, .string ⟨#[]⟩, .slice none 0 0, .slice none 0 0] 27)
        have HBc := (HBb.alloc HBb.size (.cells #[.string (mk d), .int .i64 (e0 : Nat), .bool true] 70)).alloc (HBb.alloc HBb.size (.cells #[.string (mk d), .int .i64 (e0 : Nat), .bool true] 70)).size (.cells #[.int .i64 11, .int .i64 0, .string ⟨#[]⟩, .int .i64 0, .string (mk l), .string ⟨#[]⟩, .string (mk d), .string ⟨#[]⟩, .string ⟨#[]⟩, .slice none 0 0, .slice none 0 0] 27)
        clear H4b H4c HZb HBb
        go_wp2_with fail
        ((with_reducible refine (HSp2.out _).mono ?_))
        rintro e w0 ⟨rfl, rfl⟩
        obtain ⟨k0, k1, k2, k3, k4, k5, k6, k7, k8, k9, k10, y0, y1, y2, y3, y4, y5, y6, y7, y8, y9, y10⟩ := ZM.facts HZc
        clear g40
        go_wp2_with fail
        exact rdef_ret (blk11 HZc _ _ _ _ _ _ _ _ _ _ _) rfl rfl ⟨⟨_, rfl, by rw [HF.out]; exact mkVal_plain (m := { kind := 11, info := mk l, dest := mk d }) rfl (below11 HBc (Nat.le_refl _) _ _ _ _ _ _ _ _ _ _ _).size⟩, below11 HBc (Nat.le_refl _) _ _ _ _ _ _ _ _ _ _ _⟩
      have z2 : ((k : Int) == (s.size : Int)) = false := by rw [beq_eq_false_iff_ne]; omega
      have z3 : (k == s.size) = false := by rw [beq_eq_false_iff_ne]; exact h6
      rw [if_neg h6] at HR3
      by_cases h7 : k = e0
      · obtain rfl : e0 = k := h7.symm
        have HF : Hid (M = {}) := Lib.hid (by rw [HM.out, HR3.out, if_pos rfl]; rfl)
        have z4 : ((e0 : Int) == (e0 : Int)) = true := beq_self_eq_true _
        have z5 : (e0 == e0) = true := beq_self_eq_true _
        obtain ⟨x, y, z, hv⟩ := part_shape TR
        rw [hv] at HT
        clear HM HR3 htl2 hv
        go_enter Tryz.func19, Tryz.ntmps19
        go_wp2_with fail
        ((with_reducible refine (HSp0.out _).mono ?_))
        rintro e w0 ⟨rfl, rfl⟩
        go_wp2_with fail
        ((with_reducible refine (HL.out _).mono ?_))
        rintro e w1 ⟨he, b1⟩
        dsimp only [partVal] at he
        subst he
        obtain ⟨HZ1, HB1⟩ := zw_after b1
        have HZa := Blk.alloc HZ1 (.cells #[.string (mk l), .int .i64 (t : Nat), .bool true] 70)
        have HBa := HB1.alloc HB1.size (.cells #[.string (mk l), .int .i64 (t : Nat), .bool true] 70)
        have H4a := Blk.new w1 70 #[.string (mk l), .int .i64 (t : Nat), .bool true]
        clear b1 HZ1 HB1
        go_wp2_with fail
        ((with_reducible refine (HSp1.out _).mono ?_))
        rintro e w0 ⟨rfl, rfl⟩
        go_wp2_with fail
        ((with_reducible refine (HD.out _).mono ?_))
        rintro e w2 ⟨he2, b2⟩
        dsimp only [partVal] at he2
        subst he2
        have HZb := Blk.below HZa b2 HZa.lt
        have HBb := HBa.trans (b2.mono HBa.size)
        have hw2 := HBb.size
        have H4b := Blk.below H4a b2 H4a.lt
        clear b2 HZa HBa H4a
        have H4c := Blk.alloc H4b (.cells #[.string (mk d), .int .i64 (e0 : Nat), .bool true] 70)
        have g40 := H4c.cell 0
        simp at g40
        have HZc := Blk.alloc (Blk.alloc HZb (.cells #[.string (mk d), .int .i64 (e0 : Nat), .bool true] 70)) (.cells #[.int .i64 11, .int .i64 0, .string ⟨#[]⟩, .int .i64 0, .string (mk l), .string ⟨#[]⟩, .string (mk d), .string ⟨#[]⟩, .string ⟨#[]⟩, .slice none 0 0, .slice none 0 0] 27)
        have HBc := (HBb.alloc HBb.size (.cells #[.string (mk d), .int .i64 (e0 : Nat), .bool true] 70)).alloc (HBb.alloc HBb.size (.cells #[.string (mk d), .int .i64 (e0 : Nat), .bool true] 70)).size (.cells #[.int .i64 11, .int .i64 0, .string ⟨#[]⟩, .int .i64 0, .string (mk l), .string ⟨#[]⟩, .string (mk d), .string ⟨#[]⟩, .string ⟨#[]⟩, .slice none 0 0, .slice none 0 0] 27)
        clear H4b H4c HZb HBb
        go_wp2_with fail
        ((with_reducible refine (HSp2.out _).mono ?_))
        rintro e w0 ⟨rfl, rfl⟩
        have H5n := Blk.alloc (Blk.new w2 70 #[.string (mk d), .int .i64 (e0 : Nat), .bool true]) (.cells #[.int .i64 11, .int .i64 0, .string ⟨#[]⟩, .int .i64 0, .string (mk l), .string ⟨#[]⟩, .string (mk d), .string ⟨#[]⟩, .string ⟨#[]⟩, .slice none 0 0, .slice none 0 0] 27)
        have H6n : Blk ((w2.alloc (.cells #[.string (mk d), .int .i64 (e0 : Nat), .bool true] 70)).alloc (.cells #[.int .i64 11, .int .i64 0, .string ⟨#[]⟩, .int .i64 0, .string (mk l), .string ⟨#[]⟩, .string (mk d), .string ⟨#[]⟩, .string ⟨#[]⟩, .slice none 0 0, .slice none 0 0] 27)) (w2.heap.size + 1) 27 #[.int .i64 11, .int .i64 0, .string ⟨#[]⟩, .int .i64 0, .string (mk l), .string ⟨#[]⟩, .string (mk d), .string ⟨#[]⟩, .string ⟨#[]⟩, .slice none 0 0, .slice none 0 0] := by
          have := Blk.new (w2.alloc (.cells #[.string (mk d), .int .i64 (e0 : Nat), .bool true] 70)) 27 #[.int .i64 11, .int .i64 0, .string ⟨#[]⟩, .int .i64 0, .string (mk l), .string ⟨#[]⟩, .string (mk d), .string ⟨#[]⟩, .string ⟨#[]⟩, .slice none 0 0, .slice none 0 0]
          simpa using this
        clear g40
        go_wp2_with fail
        ((with_reducible refine (HT.out _).mono ?_))
        rintro e w3 ⟨he3, b3⟩
        subst he3
        have H5 := Blk.alloc (Blk.below H5n b3 H5n.lt) (.cells #[.string x, .int .i64 y, .bool z] 70)
        have H6 := Blk.alloc (Blk.below H6n b3 H6n.lt) (.cells #[.string x, .int .i64 y, .bool z] 70)
        have HZ := Blk.alloc (Blk.below HZc b3 HZc.lt) (.cells #[.string x, .int .i64 y, .bool z] 70)
        have HB := (HBc.trans (b3.mono HBc.size)).alloc (HBc.trans (b3.mono HBc.size)).size (.cells #[.string x, .int .i64 y, .bool z] 70)
        have g51 := H5.cell 1
        simp at g51
        clear b3 H5n H6n HZc HBc H5
        clear H6
        obtain ⟨k0, k1, k2, k3, k4, k5, k6, k7, k8, k9, k10, y0, y1, y2, y3, y4, y5, y6, y7, y8, y9, y10⟩ := ZM.facts HZ
        go_wp2_with fail
        exact rdef_ret (blk11 HZ _ _ _ _ _ _ _ _ _ _ _) rfl rfl ⟨⟨_, rfl, by rw [HF.out]; exact mkVal_plain (m := {}) rfl (below11 HB (Nat.le_refl _) _ _ _ _ _ _ _ _ _ _ _).size⟩, below11 HB (Nat.le_refl _) _ _ _ _ _ _ _ _ _ _ _⟩
      have z4 : ((k : Int) == (e0 : Int)) = false := by rw [beq_eq_false_iff_ne]; omega
      have z5 : (k == e0) = false := by rw [beq_eq_false_iff_ne]; exact h7
      rw [if_neg h7] at HR3
      cases TR with
      | none =>
        have HF : Hid (M = {}) := Lib.hid (by rw [HM.out, HR3.out]; rfl)
        clear HM HR3 htl2
        go_enter Tryz.func19, Tryz.ntmps19
        go_wp2_with fail
        ((with_reducible refine (HSp0.out _).mono ?_))
        rintro e w0 ⟨rfl, rfl⟩
        go_wp2_with fail
        ((with_reducible refine (HL.out _).mono ?_))
        rintro e w1 ⟨he, b1⟩
        dsimp only [partVal] at he
        subst he
        obtain ⟨HZ1, HB1⟩ := zw_after b1
        have HZa := Blk.alloc HZ1 (.cells #[.string (mk l), .int .i64 (t : Nat), .bool true] 70)
        have HBa := HB1.alloc HB1.size (.cells #[.string (mk l), .int .i64 (t : Nat), .bool true] 70)
        have H4a := Blk.new w1 70 #[.string (mk l), .int .i64 (t : Nat), .bool true]
        clear b1 HZ1 HB1
        go_wp2_with fail
        ((with_reducible refine (HSp1.out _).mono ?_))
        rintro e w0 ⟨rfl, rfl⟩
        go_wp2_with fail
        ((with_reducible refine (HD.out _).mono ?_))
        rintro e w2 ⟨he2, b2⟩
        dsimp only [partVal] at he2
        subst he2
        have HZb := Blk.below HZa b2 HZa.lt
        have HBb := HBa.trans (b2.mono HBa.size)
        have hw2 := HBb.size
        have H4b := Blk.below H4a b2 H4a.lt
        clear b2 HZa HBa H4a
        have H4c := Blk.alloc H4b (.cells #[.string (mk d), .int .i64 (e0 : Nat), .bool true] 70)
        have g40 := H4c.cell 0
        simp at g40
        have HZc := Blk.alloc (Blk.alloc HZb (.cells #[.string (mk d), .int .i64 (e0 : Nat), .bool true] 70)) (.cells #[.int .i64 11, .int .i64 0, .string ⟨#[]⟩, .int .i64 0, .string (mk l), .string ⟨#[]⟩, .string (mk d), .string ⟨#[]⟩, .string ⟨#[]⟩, .slice none 0 0, .slice none 0 0] 27)
        have HBc := (HBb.alloc HBb.size (.cells #[.string (mk d), .int .i64 (e0 : Nat), .bool true] 70)).alloc (HBb.alloc HBb.size (.cells #[.string (mk d), .int .i64 (e0 : Nat), .bool true] 70)).size (.cells #[.int .i64 11, .int .i64 0, .string ⟨#[]⟩, .int .i64 0, .string (mk l), .string ⟨#[]⟩, .string (mk d), .string ⟨#[]⟩, .string ⟨#[]⟩, .slice none 0 0, .slice none 0 0] 27)
        clear H4b H4c HZb HBb
        go_wp2_with fail
        ((with_reducible refine (HSp2.out _).mono ?_))
        rintro e w0 ⟨rfl, rfl⟩
        have H5n := Blk.alloc (Blk.new w2 70 #[.string (mk d), .int .i64 (e0 : Nat), .bool true]) (.cells #[.int .i64 11, .int .i64 0, .string ⟨#[]⟩, .int .i64 0, .string (mk l), .string ⟨#[]⟩, .string (mk d), .string ⟨#[]⟩, .string ⟨#[]⟩, .slice none 0 0, .slice none 0 0] 27)
        have H6n : Blk ((w2.alloc (.cells #[.string (mk d), .int .i64 (e0 : Nat), .bool true] 70)).alloc (.cells #[.int .i64 11, .int .i64 0, .string ⟨#[]⟩, .int .i64 0, .string (mk l), .string ⟨#[]⟩, .string (mk d), .string ⟨#[]⟩, .string ⟨#[]⟩, .slice none 0 0, .slice none 0 0] 27)) (w2.heap.size + 1) 27 #[.int .i64 11, .int .i64 0, .string ⟨#[]⟩, .int .i64 0, .string (mk l), .string ⟨#[]⟩, .string (mk d), .string ⟨#[]⟩, .string ⟨#[]⟩, .slice none 0 0, .slice none 0 0] := by
          have := Blk.new (w2.alloc (.cells #[.string (mk d), .int .i64 (e0 : Nat), .bool true] 70)) 27 #[.int .i64 11, .int .i64 0, .string ⟨#[]⟩, .int .i64 0, .string (mk l), .string ⟨#[]⟩, .string (mk d), .string ⟨#[]⟩, .string ⟨#[]⟩, .slice none 0 0, .slice none 0 0]
          simpa using this
        clear g40
        go_wp2_with fail
        ((with_reducible refine (HT.out _).mono ?_))
        rintro e w3 ⟨he3, b3⟩
        dsimp only [partVal] at he3
        subst he3
        have H5 := Blk.alloc (Blk.below H5n b3 H5n.lt) (.cells #[.string ⟨#[]⟩, .int .i64 0, .bool false] 70)
        have H6 := Blk.alloc (Blk.below H6n b3 H6n.lt) (.cells #[.string ⟨#[]⟩, .int .i64 0, .bool false] 70)
        have HZ := Blk.alloc (Blk.below HZc b3 HZc.lt) (.cells #[.string ⟨#[]⟩, .int .i64 0, .bool false] 70)
        have HB := (HBc.trans (b3.mono HBc.size)).alloc (HBc.trans (b3.mono HBc.size)).size (.cells #[.string ⟨#[]⟩, .int .i64 0, .bool false] 70)
        have g51 := H5.cell 1
        simp at g51
        clear b3 H5n H6n HZc HBc H5
        clear H6
        obtain ⟨k0, k1, k2, k3, k4, k5, k6, k7, k8, k9, k10, y0, y1, y2, y3, y4, y5, y6, y7, y8, y9, y10⟩ := ZM.facts HZ
        go_wp2_with fail
        exact rdef_ret (blk11 HZ _ _ _ _ _ _ _ _ _ _ _) rfl rfl ⟨⟨_, rfl, by rw [HF.out]; exact mkVal_plain (m := {}) rfl (below11 HB (Nat.le_refl _) _ _ _ _ _ _ _ _ _ _ _).size⟩, below11 HB (Nat.le_refl _) _ _ _ _ _ _ _ _ _ _ _⟩
      | some p =>
        obtain ⟨tt, q⟩ := p
        have hql : q ≤ s.size := htl2 _ rfl
        simp only at HR3
        clear htl2
        have HSp3 := Lib.hid fun W => r5_spaces s q W hs hql
        generalize indA s q = u at *
        by_cases h8 : u < s.size
        · have HF : Hid (M = {}) := Lib.hid (by rw [HM.out, HR3.out, if_pos h8]; rfl)
          have z6 : decide ((u : Int) < (s.size : Int)) = true := decide_eq_true (by omega)
          have z7 : decide (u < s.size) = true := decide_eq_true h8
          clear HM HR3
          go_enter Tryz.func19, Tryz.ntmps19
          go_wp2_with fail
          ((with_reducible refine (HSp0.out _).mono ?_))
          rintro e w0 ⟨rfl, rfl⟩
          go_wp2_with fail
          ((with_reducible refine (HL.out _).mono ?_))
          rintro e w1 ⟨he, b1⟩
          dsimp only [partVal] at he
          subst he
          obtain ⟨HZ1, HB1⟩ := zw_after b1
          have HZa := Blk.alloc HZ1 (.cells #[.string (mk l), .int .i64 (t : Nat), .bool true] 70)
          have HBa := HB1.alloc HB1.size (.cells #[.string (mk l), .int .i64 (t : Nat), .bool true] 70)
          have H4a := Blk.new w1 70 #[.string (mk l), .int .i64 (t : Nat), .bool true]
          clear b1 HZ1 HB1
          go_wp2_with fail
          ((with_reducible refine (HSp1.out _).mono ?_))
          rintro e w0 ⟨rfl, rfl⟩
          go_wp2_with fail
          ((with_reducible refine (HD.out _).mono ?_))
          rintro e w2 ⟨he2, b2⟩
          dsimp only [partVal] at he2
          subst he2
          have HZb := Blk.below HZa b2 HZa.lt
          have HBb := HBa.trans (b2.mono HBa.size)
          have hw2 := HBb.size
          have H4b := Blk.below H4a b2 H4a.lt
          clear b2 HZa HBa H4a
          have H4c := Blk.alloc H4b (.cells #[.string (mk d), .int .i64 (e0 : Nat), .bool true] 70)
          have g40 := H4c.cell 0
          simp at g40
          have HZc := Blk.alloc (Blk.alloc HZb (.cells #[.string (mk d), .int .i64 (e0 : Nat), .bool true] 70)) (.cells #[.int .i64 11, .int .i64 0, .string ⟨#[]⟩, .int .i64 0, .string (mk l), .string ⟨#[]⟩, .string (mk d), .string ⟨#[]⟩, .string ⟨#[]⟩, .slice none 0 0, .slice none 0 0] 27)
          have HBc := (HBb.alloc HBb.size (.cells #[.string (mk d), .int .i64 (e0 : Nat), .bool true] 70)).alloc (HBb.alloc HBb.size (.cells #[.string (mk d), .int .i64 (e0 : Nat), .bool true] 70)).size (.cells #[.int .i64 11, .int .i64 0, .string ⟨#[]⟩, .int .i64 0, .string (mk l), .string ⟨#[]⟩, .string (mk d), .string ⟨#[]⟩, .string ⟨#[]⟩, .slice none 0 0, .slice none 0 0] 27)
          clear H4b H4c HZb HBb
          go_wp2_with fail
          ((with_reducible refine (HSp2.out _).mono ?_))
          rintro e w0 ⟨rfl, rfl⟩
          have H5n := Blk.alloc (Blk.new w2 70 #[.string (mk d), .int .i64 (e0 : Nat), .bool true]) (.cells #[.int .i64 11, .int .i64 0, .string ⟨#[]⟩, .int .i64 0, .string (mk l), .string ⟨#[]⟩, .string (mk d), .string ⟨#[]⟩, .string ⟨#[]⟩, .slice none 0 0, .slice none 0 0] 27)
          have H6n : Blk ((w2.alloc (.cells #[.string (mk d), .int .i64 (e0 : Nat), .bool true] 70)).alloc (.cells #[.int .i64 11, .int .i64 0, .string ⟨#[]⟩, .int .i64 0, .string (mk l), .string ⟨#[]⟩, .string (mk d), .string ⟨#[]⟩, .string ⟨#[]⟩, .slice none 0 0, .slice none 0 0] 27)) (w2.heap.size + 1) 27 #[.int .i64 11, .int .i64 0, .string ⟨#[]⟩, .int .i64 0, .string (mk l), .string ⟨#[]⟩, .string (mk d), .string ⟨#[]⟩, .string ⟨#[]⟩, .slice none 0 0, .slice none 0 0] := by
            have := Blk.new (w2.alloc (.cells #[.string (mk d), .int .i64 (e0 : Nat), .bool true] 70)) 27 #[.int .i64 11, .int .i64 0, .string ⟨#[]⟩, .int .i64 0, .string (mk l), .string ⟨#[]⟩, .string (mk d), .string ⟨#[]⟩, .string ⟨#[]⟩, .slice none 0 0, .slice none 0 0]
            simpa using this
          clear g40
          go_wp2_with fail
          ((with_reducible refine (HT.out _).mono ?_))
          rintro e w3 ⟨he3, b3⟩
          dsimp only [partVal] at he3
          subst he3
          have H5 := Blk.alloc (Blk.below H5n b3 H5n.lt) (.cells #[.string (mk tt), .int .i64 (q : Nat), .bool true] 70)
          have H6 := Blk.alloc (Blk.below H6n b3 H6n.lt) (.cells #[.string (mk tt), .int .i64 (q : Nat), .bool true] 70)
          have HZ := Blk.alloc (Blk.below HZc b3 HZc.lt) (.cells #[.string (mk tt), .int .i64 (q : Nat), .bool true] 70)
          have HB := (HBc.trans (b3.mono HBc.size)).alloc (HBc.trans (b3.mono HBc.size)).size (.cells #[.string (mk tt), .int .i64 (q : Nat), .bool true] 70)
          have g51 := H5.cell 1
          simp at g51
          clear b3 H5n H6n HZc HBc H5
          clear H6
          go_wp2_with fail
          ((with_reducible refine (HSp3.out _).mono ?_))
          rintro e w0 ⟨rfl, rfl⟩
          obtain ⟨k0, k1, k2, k3, k4, k5, k6, k7, k8, k9, k10, y0, y1, y2, y3, y4, y5, y6, y7, y8, y9, y10⟩ := ZM.facts HZ
          go_wp2_with fail
          exact rdef_ret (blk11 HZ _ _ _ _ _ _ _ _ _ _ _) rfl rfl ⟨⟨_, rfl, by rw [HF.out]; exact mkVal_plain (m := {}) rfl (below11 HB (Nat.le_refl _) _ _ _ _ _ _ _ _ _ _ _).size⟩, below11 HB (Nat.le_refl _) _ _ _ _ _ _ _ _ _ _ _⟩
        · have HF : Hid (M = { kind := 11, info := mk l, dest := mk d, title := mk tt }) := Lib.hid (by rw [HM.out, HR3.out, if_neg h8]; rfl)
          have z6 : decide ((u : Int) < (s.size : Int)) = false := decide_eq_false (by omega)
          have z7 : decide (u < s.size) = false := decide_eq_false h8
          clear HM HR3
          go_enter Tryz.func19, Tryz.ntmps19
          go_wp2_with fail
          ((with_reducible refine (HSp0.out _).mono ?_))
          rintro e w0 ⟨rfl, rfl⟩
          go_wp2_with fail
          ((with_reducible refine (HL.out _).mono ?_))
          rintro e w1 ⟨he, b1⟩
          dsimp only [partVal] at he
          subst he
          obtain ⟨HZ1, HB1⟩ := zw_after b1
          have HZa := Blk.alloc HZ1 (.cells #[.string (mk l), .int .i64 (t : Nat), .bool true] 70)
          have HBa := HB1.alloc HB1.size (.cells #[.string (mk l), .int .i64 (t : Nat), .bool true] 70)
          have H4a := Blk.new w1 70 #[.string (mk l), .int .i64 (t : Nat), .bool true]
          clear b1 HZ1 HB1
          go_wp2_with fail
          ((with_reducible refine (HSp1.out _).mono ?_))
          rintro e w0 ⟨rfl, rfl⟩
          go_wp2_with fail
          ((with_reducible refine (HD.out _).mono ?_))
          rintro e w2 ⟨he2, b2⟩
          dsimp only [partVal] at he2
          subst he2
          have HZb := Blk.below HZa b2 HZa.lt
          have HBb := HBa.trans (b2.mono HBa.size)
          have hw2 := HBb.size
          have H4b := Blk.below H4a b2 H4a.lt
          clear b2 HZa HBa H4a
          have H4c := Blk.alloc H4b (.cells #[.string (mk d), .int .i64 (e0 : Nat), .bool true] 70)
          have g40 := H4c.cell 0
          simp at g40
          have HZc := Blk.alloc (Blk.alloc HZb (.cells #[.string (mk d), .int .i64 (e0 : Nat), .bool true] 70)) (.cells #[.int .i64 11, .int .i64 0, .string ⟨#[]⟩, .int .i64 0, .string (mk l), .string ⟨#[]⟩, .string (mk d), .string ⟨#[]⟩, .string ⟨#[]⟩, .slice none 0 0, .slice none 0 0] 27)
          have HBc := (HBb.alloc HBb.size (.cells #[.string (mk d), .int .i64 (e0 : Nat), .bool true] 70)).alloc (HBb.alloc HBb.size (.cells #[.string (mk d), .int .i64 (e0 : Nat), .bool true] 70)).size (.cells #[.int .i64 11, .int .i64 0, .string ⟨#[]⟩, .int .i64 0, .string (mk l), .string ⟨#[]⟩, .string (mk d), .string ⟨#[]⟩, .string ⟨#[]⟩, .slice none 0 0, .slice none 0 0] 27)
          clear H4b H4c HZb HBb
          go_wp2_with fail
          ((with_reducible refine (HSp2.out _).mono ?_))
          rintro e w0 ⟨rfl, rfl⟩
          have H5n := Blk.alloc (Blk.new w2 70 #[.string (mk d), .int .i64 (e0 : Nat), .bool true]) (.cells #[.int .i64 11, .int .i64 0, .string ⟨#[]⟩, .int .i64 0, .string (mk l), .string ⟨#[]⟩, .string (mk d), .string ⟨#[]⟩, .string ⟨#[]⟩, .slice none 0 0, .slice none 0 0] 27)
          have H6n : Blk ((w2.alloc (.cells #[.string (mk d), .int .i64 (e0 : Nat), .bool true] 70)).alloc (.cells #[.int .i64 11, .int .i64 0, .string ⟨#[]⟩, .int .i64 0, .string (mk l), .string ⟨#[]⟩, .string (mk d), .string ⟨#[]⟩, .string ⟨#[]⟩, .slice none 0 0, .slice none 0 0] 27)) (w2.heap.size + 1) 27 #[.int .i64 11, .int .i64 0, .string ⟨#[]⟩, .int .i64 0, .string (mk l), .string ⟨#[]⟩, .string (mk d), .string ⟨#[]⟩, .string ⟨#[]⟩, .slice none 0 0, .slice none 0 0] := by
            have := Blk.new (w2.alloc (.cells #[.string (mk d), .int .i64 (e0 : Nat), .bool true] 70)) 27 #[.int .i64 11, .int .i64 0, .string ⟨#[]⟩, .int .i64 0, .string (mk l), .string ⟨#[]⟩, .string (mk d), .string ⟨#[]⟩, .string ⟨#[]⟩, .slice none 0 0, .slice none 0 0]
            simpa using this
          clear g40
          go_wp2_with fail
          ((with_reducible refine (HT.out _).mono ?_))
          rintro e w3 ⟨he3, b3⟩
          dsimp only [partVal] at he3
          subst he3
          have H5 := Blk.below H5n b3 H5n.lt
          have H6 := Blk.below H6n b3 H6n.lt
          have HZ := Blk.below HZc b3 HZc.lt
          have HB := HBc.trans (b3.mono HBc.size)
          have g51 := H5.cell 1
          simp at g51
          have hne : w.heap.size ≠ w2.heap.size + 1 := fun e => by
            have h1 := HZc.cell 0
            rw [e, H6n.cell 0] at h1
            injection h1 with h1
            injection h1 with _ h1
            omega
          have hlt6 := H6.lt
          have hltz := HZ.lt
          have hlt5 := H5.lt
          obtain ⟨m0, m1, m2, m3, m4, m5, m6, m7, m8, m9, m10, -, -, -, -, -, -, -, x7, -⟩ := mk_facts H6
          have HZh := Lib.hid HZ
          have HBh := Lib.hid HB
          clear b3 H5n H6n HZc HBc H5 H6 HZ HB
          go_wp2_with fail
          ((with_reducible refine (HSp3.out _).mono ?_))
          rintro e w0 ⟨rfl, rfl⟩
          obtain ⟨k0, k1, k2, k3, k4, k5, k6, k7, k8, k9, k10, y0, y1, y2, y3, y4, y5, y6, y7, y8, y9, y10⟩ := ZM.facts HZh.out
          go_wp2_with fail
          have hB1 := below11 (HBh.out.setCell (p := ⟨w2.heap.size + 1, 7, none⟩) (Nat.le_succ_of_le hw2) (.string (mk tt))) (Nat.le_refl w.heap.size) (.int .i64 11) (.int .i64 0) (.string ⟨#[]⟩) (.int .i64 0) (.string (mk l)) (.string ⟨#[]⟩) (.string (mk d)) (.string (mk tt)) (.string ⟨#[]⟩) (.slice none 0 0) (.slice none 0 0)
          have hB2 := hB1.alloc hB1.size (.cells #[.string (mk tt), .int .i64 (q : Nat), .bool true] 70)
          have hZ2 := Blk.alloc (blk11 (Blk.far HZh.out (p := ⟨w2.heap.size + 1, 7, none⟩) hne (.string (mk tt))) (.int .i64 11) (.int .i64 0) (.string ⟨#[]⟩) (.int .i64 0) (.string (mk l)) (.string ⟨#[]⟩) (.string (mk d)) (.string (mk tt)) (.string ⟨#[]⟩) (.slice none 0 0) (.slice none 0 0)) (.cells #[.string (mk tt), .int .i64 (q : Nat), .bool true] 70)
          refine rdef_ret hZ2 rfl rfl ⟨⟨_, rfl, ?_⟩, hB2⟩
          rw [HF.out]
          exact mkVal_plain (m := { kind := 11, info := mk l, dest := mk d, title := mk tt }) rfl hB2.size
end Go.Proofs.YthfienjmigidbaaGreatDoor
namespace Go.Proofs.YthfienjmigidbaaGreatDoor
open Go.RowKit Go.Pub

theorem ex_dest : destR ⟨#[40, 97, 40, 98, 41, 99, 41, 32, 100]⟩ 1 = some ([97, 40, 98, 41, 99], 6) := by kernel_rfl
theorem ex_title : titleR ⟨#[34, 120, 92, 34, 121, 34]⟩ 0 = some ([120, 34, 121], 6) := by kernel_rfl
theorem ex_tail1 : tailR ⟨#[40, 120, 32, 34, 84, 34, 41]⟩ 0 = some ⟨[120], [84], [], 7⟩ := by kernel_rfl
theorem ex_tail2 : tailR ⟨#[91, 65, 93]⟩ 0 = some ⟨[], [], [97], 3⟩ := by kernel_rfl
theorem ex_tail3 : tailR ⟨#[40, 97, 32, 98, 41]⟩ 0 = none := by kernel_rfl
theorem ex_def : defR ⟨#[91, 97, 93, 58, 32, 120]⟩ = some ([97], [120], []) := by kernel_rfl
theorem ex_lab1 : labelL (bytesL ⟨#[32, 65, 32, 32, 98]⟩) = [97, 32, 98] := by kernel_rfl
theorem ex_lab2 : labelL (bytesL ⟨#[97, 42]⟩) = [] := by kernel_rfl
theorem ex_in1 : insideL (bytesL ⟨#[97, 32, 98]⟩) (bytesL ⟨#[]⟩) = [60, 97, 32, 98, 62] := by kernel_rfl
theorem ex_in2 : insideL (bytesL ⟨#[102, 40, 120, 41]⟩) (bytesL ⟨#[84]⟩) = [102, 92, 40, 120, 92, 41, 32, 34, 84, 34] := by kernel_rfl

set_option maxRecDepth 100000 in
set_option maxHeartbeats 4000000 in
theorem awake_any (w : World) : Calls Tryz.prog 17 #[] w fun e w' => e = .returned (.bool true) ∧ Below w.heap.size w w' := by
  have H1 : Hid (∀ W, Calls Tryz.prog 56 #[.string ⟨#[40, 97, 40, 98, 41, 99, 41, 32, 100]⟩, .int .i64 1] W fun e w' => e = .returned (.tuple #[.string ⟨#[97, 40, 98, 41, 99]⟩, .int .i64 6, .bool true]) ∧ Below W.heap.size W w') := Lib.hid fun W => by
    have h := l_dest ⟨#[40, 97, 40, 98, 41, 99, 41, 32, 100]⟩ 1 W (by decide)
    rw [ex_dest] at h
    exact h
  have H2 : Hid (∀ W, Calls Tryz.prog 57 #[.string ⟨#[34, 120, 92, 34, 121, 34]⟩, .int .i64 0] W fun e w' => e = .returned (.tuple #[.string ⟨#[120, 34, 121]⟩, .int .i64 6, .bool true]) ∧ Below W.heap.size W w') := Lib.hid fun W => by
    have h := l_title ⟨#[34, 120, 92, 34, 121, 34]⟩ 0 W (by decide)
    rw [ex_title] at h
    exact h
  have H3 : Hid (∀ W, Calls Tryz.prog 58 #[.string ⟨#[40, 120, 32, 34, 84, 34, 41]⟩, .int .i64 0] W fun e w' => e = .returned (.tuple #[.string ⟨#[120]⟩, .string ⟨#[84]⟩, .string ⟨#[]⟩, .int .i64 7, .bool true]) ∧ Below W.heap.size W w') := Lib.hid fun W => by
    have h := l_tail ⟨#[40, 120, 32, 34, 84, 34, 41]⟩ 0 W (by decide)
    rw [ex_tail1] at h
    exact h
  have H4 : Hid (∀ W, Calls Tryz.prog 58 #[.string ⟨#[91, 65, 93]⟩, .int .i64 0] W fun e w' => e = .returned (.tuple #[.string ⟨#[]⟩, .string ⟨#[]⟩, .string ⟨#[97]⟩, .int .i64 3, .bool true]) ∧ Below W.heap.size W w') := Lib.hid fun W => by
    have h := l_tail ⟨#[91, 65, 93]⟩ 0 W (by decide)
    rw [ex_tail2] at h
    exact h
  have H5 : Hid (∀ W, Calls Tryz.prog 58 #[.string ⟨#[40, 97, 32, 98, 41]⟩, .int .i64 0] W fun e w' => e = .returned (.tuple #[.string ⟨#[]⟩, .string ⟨#[]⟩, .string ⟨#[]⟩, .int .i64 0, .bool false]) ∧ Below W.heap.size W w') := Lib.hid fun W => by
    have h := l_tail ⟨#[40, 97, 32, 98, 41]⟩ 0 W (by decide)
    rw [ex_tail3] at h
    exact h
  have H6 : Hid (∀ W, Calls Tryz.prog 18 #[.string ⟨#[91, 97, 93, 58, 32, 120]⟩] W fun e w' => e = .returned (.tuple #[.string ⟨#[97]⟩, .string ⟨#[120]⟩, .string ⟨#[]⟩, .bool true]) ∧ Below W.heap.size W w') := Lib.hid fun W => by
    have h := l_def ⟨#[91, 97, 93, 58, 32, 120]⟩ W (by decide)
    rw [ex_def] at h
    exact h
  have H7 : Hid (∀ W, Calls Tryz.prog 20 #[.string ⟨#[32, 65, 32, 32, 98]⟩] W fun e w' => e = .returned (.string ⟨#[97, 32, 98]⟩) ∧ Below W.heap.size W w') := Lib.hid fun W => by
    have h := l_label ⟨#[32, 65, 32, 32, 98]⟩ W (by decide)
    rw [ex_lab1] at h
    exact h
  have H8 : Hid (∀ W, Calls Tryz.prog 20 #[.string ⟨#[97, 42]⟩] W fun e w' => e = .returned (.string ⟨#[]⟩) ∧ Below W.heap.size W w') := Lib.hid fun W => by
    have h := l_label ⟨#[97, 42]⟩ W (by decide)
    rw [ex_lab2] at h
    exact h
  have H9 : Hid (∀ W, Calls Tryz.prog 23 #[.string ⟨#[97, 32, 98]⟩, .string ⟨#[]⟩] W fun e w' => e = .returned (.string ⟨#[60, 97, 32, 98, 62]⟩) ∧ Below W.heap.size W w') := Lib.hid fun W => by
    have h := l_inside ⟨#[97, 32, 98]⟩ ⟨#[]⟩ W (by decide) (by decide)
    rw [ex_in1] at h
    exact h
  have H10 : Hid (∀ W, Calls Tryz.prog 23 #[.string ⟨#[102, 40, 120, 41]⟩, .string ⟨#[84]⟩] W fun e w' => e = .returned (.string ⟨#[102, 92, 40, 120, 92, 41, 32, 34, 84, 34]⟩) ∧ Below W.heap.size W w') := Lib.hid fun W => by
    have h := l_inside ⟨#[102, 40, 120, 41]⟩ ⟨#[84]⟩ W (by decide) (by decide)
    rw [ex_in2] at h
    exact h
  have q0 : ((⟨#[97, 40, 98, 41, 99]⟩ : ByteArray).toList == (⟨#[97, 40, 98, 41, 99]⟩ : ByteArray).toList) = true := beq_self_eq_true _
  have r0 : ((⟨#[97, 40, 98, 41, 99]⟩ : ByteArray).toList != (⟨#[97, 40, 98, 41, 99]⟩ : ByteArray).toList) = false := by simp
  have q1 : ((⟨#[120, 34, 121]⟩ : ByteArray).toList == (⟨#[120, 34, 121]⟩ : ByteArray).toList) = true := beq_self_eq_true _
  have r1 : ((⟨#[120, 34, 121]⟩ : ByteArray).toList != (⟨#[120, 34, 121]⟩ : ByteArray).toList) = false := by simp
  have q2 : ((⟨#[120]⟩ : ByteArray).toList == (⟨#[120]⟩ : ByteArray).toList) = true := beq_self_eq_true _
  have r2 : ((⟨#[120]⟩ : ByteArray).toList != (⟨#[120]⟩ : ByteArray).toList) = false := by simp
  have q3 : ((⟨#[84]⟩ : ByteArray).toList == (⟨#[84]⟩ : ByteArray).toList) = true := beq_self_eq_true _
  have r3 : ((⟨#[84]⟩ : ByteArray).toList != (⟨#[84]⟩ : ByteArray).toList) = false := by simp
  have q4 : ((⟨#[97]⟩ : ByteArray).toList == (⟨#[97]⟩ : ByteArray).toList) = true := beq_self_eq_true _
  have r4 : ((⟨#[97]⟩ : ByteArray).toList != (⟨#[97]⟩ : ByteArray).toList) = false := by simp
  have q5 : ((⟨#[97, 32, 98]⟩ : ByteArray).toList == (⟨#[97, 32, 98]⟩ : ByteArray).toList) = true := beq_self_eq_true _
  have r5 : ((⟨#[97, 32, 98]⟩ : ByteArray).toList != (⟨#[97, 32, 98]⟩ : ByteArray).toList) = false := by simp
  have q6 : ((⟨#[60, 97, 32, 98, 62]⟩ : ByteArray).toList == (⟨#[60, 97, 32, 98, 62]⟩ : ByteArray).toList) = true := beq_self_eq_true _
  have r6 : ((⟨#[60, 97, 32, 98, 62]⟩ : ByteArray).toList != (⟨#[60, 97, 32, 98, 62]⟩ : ByteArray).toList) = false := by simp
  have q7 : ((⟨#[102, 92, 40, 120, 92, 41, 32, 34, 84, 34]⟩ : ByteArray).toList == (⟨#[102, 92, 40, 120, 92, 41, 32, 34, 84, 34]⟩ : ByteArray).toList) = true := beq_self_eq_true _
  have r7 : ((⟨#[102, 92, 40, 120, 92, 41, 32, 34, 84, 34]⟩ : ByteArray).toList != (⟨#[102, 92, 40, 120, 92, 41, 32, 34, 84, 34]⟩ : ByteArray).toList) = false := by simp
  go_enter Tryz.func17, Tryz.ntmps17
  go_wp2_with fail
  ((with_reducible refine (H1.out _).mono ?_))
  rintro e w1 ⟨rfl, b1⟩
  go_wp2_with fail
  ((with_reducible refine (H2.out _).mono ?_))
  rintro e w2 ⟨rfl, b2⟩
  go_wp2_with fail
  ((with_reducible refine (H3.out _).mono ?_))
  rintro e w3 ⟨rfl, b3⟩
  go_wp2_with fail
  ((with_reducible refine (H4.out _).mono ?_))
  rintro e w4 ⟨rfl, b4⟩
  go_wp2_with fail
  ((with_reducible refine (H5.out _).mono ?_))
  rintro e w5 ⟨rfl, b5⟩
  go_wp2_with fail
  ((with_reducible refine (H6.out _).mono ?_))
  rintro e w6 ⟨rfl, b6⟩
  go_wp2_with fail
  ((with_reducible refine (H7.out _).mono ?_))
  rintro e w7 ⟨rfl, b7⟩
  go_wp2_with fail
  ((with_reducible refine (H8.out _).mono ?_))
  rintro e w8 ⟨rfl, b8⟩
  go_wp2_with fail
  ((with_reducible refine (H9.out _).mono ?_))
  rintro e w9 ⟨rfl, b9⟩
  go_wp2_with fail
  ((with_reducible refine (H10.out _).mono ?_))
  rintro e w10 ⟨rfl, b10⟩
  go_wp2_with fail
  go_ret
  have c2 := b1.trans (b2.mono b1.size)
  have c3 := c2.trans (b3.mono c2.size)
  have c4 := c3.trans (b4.mono c3.size)
  have c5 := c4.trans (b5.mono c4.size)
  have c6 := c5.trans (b6.mono c5.size)
  have c7 := c6.trans (b7.mono c6.size)
  have c8 := c7.trans (b8.mono c7.size)
  have c9 := c8.trans (b9.mono c8.size)
  have c10 := c9.trans (b10.mono c9.size)
  exact ⟨rfl, c10⟩
end Go.Proofs.YthfienjmigidbaaGreatDoor
namespace Go.Proofs.YthfienjmigidbaaGreatDoor
open Go.RowKit Go.Pub

theorem mkpost_sl {m : MkL} {w : World} {e : Ending} {w' : World} (h : MkPost m w e w') : ∃ A1 c1 A2 c2, e = .returned (.agg (m.cells (.slice A1 m.att.cl.length c1) (.slice A2 m.att.pr.length c2))) ∧ Below w.heap.size w w' := by
  obtain ⟨⟨v, rfl, vC, vP, rfl, ho⟩, hb⟩ := h
  obtain ⟨A1, c1, rfl⟩ := own_slice ho.cls
  obtain ⟨A2, c2, rfl⟩ := own_slice ho.prs
  exact ⟨A1, c1, A2, c2, rfl, hb⟩

set_option maxRecDepth 100000 in
set_option maxHeartbeats 2000000 in
theorem r8_label (s : ByteArray) (w : World) (hs : s.size ≤ 1000000) : Calls Tryz.prog 21 #[.string s] w fun e w' => e = .returned (.string (mk (labelL (bytesL s)))) ∧ Below w.heap.size w w' := by
  have HC := Lib.hid fun W => r_label s W hs
  generalize labelL (bytesL s) = L at *
  go_enter Tryz.func21, Tryz.ntmps21
  go_wp2_with fail
  ((with_reducible refine (HC.out _).mono ?_))
  rintro e w1 ⟨rfl, b1⟩
  go_wp2_with fail
  go_ret
  exact ⟨rfl, b1⟩

def DefsPost (w : World) (e : Ending) (w' : World) : Prop := e = .returned (.bool true) ∧ Below w.heap.size w w'
set_option maxRecDepth 100000 in
set_option maxHeartbeats 4000000 in
theorem defs_walk (s : ByteArray) (w : World) (hs : s.size ≤ 800) (o : Bool) (l d t : ByteArray) (K : Nat) (M X : MkL)
    (H1 : Hid (∀ W, Calls Tryz.prog 18 #[.string s] W fun e w' => e = .returned (.tuple #[.string l, .string d, .string t, .bool o]) ∧ Below W.heap.size W w'))
    (H2 : Hid (∀ W, Calls Tryz.prog 19 #[.string s] W fun e w' => ∃ A1 c1 A2 c2, e = .returned (.agg #[.int .i64 K, .int .i64 0, .string ⟨#[]⟩, .int .i64 0, .string l, .string ⟨#[]⟩, .string d, .string t, .string ⟨#[]⟩, .slice A1 0 c1, .slice A2 0 c2]) ∧ Below W.heap.size W w'))
    (H3 : Hid (∀ W, Calls Tryz.prog 13 #[.string s] W fun e w' => ∃ A1 c1 A2 c2, e = .returned (.agg (X.cells (.slice A1 X.att.cl.length c1) (.slice A2 X.att.pr.length c2))) ∧ Below W.heap.size W w'))
    (ho : o = decide (K = 11)) (hX : X.kind = 11 → o = true ∧ X.info = l ∧ X.dest = d ∧ X.title = t) :
    Calls Tryz.prog 6 #[.string s] w (DefsPost w) := by
  have HA := Lib.hid awake_any
  have HL1 := Lib.hid fun W => l_label s W (by omega)
  have HL2 := Lib.hid fun W => r8_label s W (by omega)
  have d1 : decide (800 < s.size) = false := decide_eq_false (by omega)
  generalize labelL (bytesL s) = LB at *
  obtain ⟨xk, xn, xch, xoff, xinfo, xrest, xdest, xtitle, xatt⟩ := X
  simp only [MkL.cells] at H3 hX
  have q1 : ((K : Int) == 11) = o := by
    rw [ho]
    by_cases h : K = 11
    · rw [decide_eq_true h, h]; rfl
    · rw [decide_eq_false h, beq_eq_false_iff_ne]; omega
  have q2 : (o != o) = false := by simp
  have r1 : (l.toList != l.toList) = false := by simp
  have r2 : (d.toList != d.toList) = false := by simp
  have r3 : (t.toList != t.toList) = false := by simp
  have r4 : ((mk LB).toList == (mk LB).toList) = true := beq_self_eq_true _
  have HP : Hid (∀ e w', e = .returned (.bool true) → Below w.heap.size w w' → DefsPost w e w') := Lib.hid fun e w' h1 h2 => ⟨h1, h2⟩
  clear ho
  by_cases hk : xk = 11
  · obtain ⟨ho1, e1, e2, e3⟩ := hX hk
    subst hk ho1 e1 e2 e3
    clear hX
    go_enter Tryz.func6, Tryz.ntmps6
    go_wp2_with fail
    ((with_reducible refine (H1.out _).mono ?_))
    rintro e w1 ⟨rfl, b1⟩
    have C1 := Lib.hid b1
    clear b1
    go_wp2_with fail
    ((with_reducible refine (H2.out _).mono ?_))
    rintro e w2 ⟨A1, c1, A2, c2, rfl, b2⟩
    have C2 := Lib.hid (C1.out.trans (b2.mono C1.out.size))
    clear b2
    go_wp2_with fail
    ((with_reducible refine (H3.out _).mono ?_))
    rintro e w3 ⟨A3, c3, A4, c4, rfl, b3⟩
    have N3 := st_next C2.out b3
    have C3 := Lib.hid N3.2
    have k0 := N3.1.cell 0
    have k4 := N3.1.cell 4
    have k6 := N3.1.cell 6
    have k7 := N3.1.cell 7
    simp at k0 k4 k6 k7
    have hlt := N3.1.lt
    clear b3 N3
    go_wp2_with fail
    ((with_reducible refine (HL1.out _).mono ?_))
    rintro e w4 ⟨rfl, b4⟩
    have C4 := Lib.hid ((C3.out.alloc C3.out.size _).trans (b4.mono (C3.out.alloc C3.out.size _).size))
    clear b4 k0 k4 k6 k7 hlt
    go_wp2_with fail
    ((with_reducible refine (HL2.out _).mono ?_))
    rintro e w5 ⟨rfl, b5⟩
    have C5 := Lib.hid (C4.out.trans (b5.mono C4.out.size))
    clear b5
    go_wp2_with fail
    ((with_reducible refine (HA.out _).mono ?_))
    rintro e w6 ⟨rfl, b6⟩
    go_wp2_with fail
    go_ret
    exact HP.out _ _ rfl (C5.out.trans (b6.mono C5.out.size))
  · have q5 : ((xk : Int) == 11) = false := by rw [beq_eq_false_iff_ne]; omega
    clear hX hk
    go_enter Tryz.func6, Tryz.ntmps6
    go_wp2_with fail
    ((with_reducible refine (H1.out _).mono ?_))
    rintro e w1 ⟨rfl, b1⟩
    have C1 := Lib.hid b1
    clear b1
    go_wp2_with fail
    ((with_reducible refine (H2.out _).mono ?_))
    rintro e w2 ⟨A1, c1, A2, c2, rfl, b2⟩
    have C2 := Lib.hid (C1.out.trans (b2.mono C1.out.size))
    clear b2
    go_wp2_with fail
    ((with_reducible refine (H3.out _).mono ?_))
    rintro e w3 ⟨A3, c3, A4, c4, rfl, b3⟩
    have N3 := st_next C2.out b3
    have C3 := Lib.hid N3.2
    have k0 := N3.1.cell 0
    have k4 := N3.1.cell 4
    have k6 := N3.1.cell 6
    have k7 := N3.1.cell 7
    simp at k0 k4 k6 k7
    have hlt := N3.1.lt
    clear b3 N3
    go_wp2_with fail
    ((with_reducible refine (HL1.out _).mono ?_))
    rintro e w4 ⟨rfl, b4⟩
    have C4 := Lib.hid ((C3.out.alloc C3.out.size _).trans (b4.mono (C3.out.alloc C3.out.size _).size))
    clear b4 k0 k4 k6 k7 hlt
    go_wp2_with fail
    ((with_reducible refine (HL2.out _).mono ?_))
    rintro e w5 ⟨rfl, b5⟩
    have C5 := Lib.hid (C4.out.trans (b5.mono C4.out.size))
    clear b5
    go_wp2_with fail
    ((with_reducible refine (HA.out _).mono ?_))
    rintro e w6 ⟨rfl, b6⟩
    go_wp2_with fail
    go_ret
    exact HP.out _ _ rfl (C5.out.trans (b6.mono C5.out.size))

theorem lawDefs_any (s : ByteArray) (w : World) (hs : s.size ≤ 9223372036854775807) : Calls Tryz.prog 6 #[.string s] w fun e w' => e = .returned (.bool true) ∧ Below w.heap.size w w' := by
  by_cases h : 800 < s.size
  · have HA := Lib.hid awake_any
    have d1 : decide (800 < s.size) = true := decide_eq_true h
    go_enter Tryz.func6, Tryz.ntmps6
    go_wp2_with fail
    ((with_reducible refine (HA.out _).mono ?_))
    rintro e w1 ⟨rfl, b1⟩
    go_wp2_with fail
    go_ret
    exact ⟨rfl, b1⟩
  have h1 := fun W => l_def s W (by omega)
  have h2 := fun W => r5_def s W (by omega)
  rw [defI_eq] at h2
  have H3 := Lib.hid fun W => (m_of s W (by omega)).mono fun e w' => mkpost_sl
  have hm := mark_def s
  cases hr : defR s with
  | none =>
    rw [hr] at h1 h2 hm
    exact defs_walk s w (by omega) false ⟨#[]⟩ ⟨#[]⟩ ⟨#[]⟩ 0 {} (markM s) (Lib.hid h1) (Lib.hid fun W => (h2 W).mono fun e w' => mkpost_sl) H3 rfl (fun hk => by obtain ⟨x, hx, _⟩ := hm hk; cases hx)
  | some x =>
    obtain ⟨l, d, t⟩ := x
    rw [hr] at h1 h2 hm
    refine defs_walk s w (by omega) true (mk l) (mk d) (mk t) 11 {} (markM s) (Lib.hid h1) (Lib.hid fun W => (h2 W).mono fun e w' => mkpost_sl) H3 rfl (fun hk => ?_)
    obtain ⟨x, hx, he⟩ := hm hk
    injection hx with hx
    subst hx
    rw [he]
    exact ⟨rfl, rfl, rfl, rfl⟩
end Go.Proofs.YthfienjmigidbaaGreatDoor
