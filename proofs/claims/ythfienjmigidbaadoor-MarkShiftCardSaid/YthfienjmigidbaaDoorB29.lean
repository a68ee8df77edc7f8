/-
  Texts of the proof, put together: MkSB, Spc, LawL.
-/
import Derived.Test.YthfienjmigidbaaDoorB25
import Derived.Test.YthfienjmigidbaaDoorB26
import Derived.Test.YthfienjmigidbaaDoorB27
set_option linter.unusedVariables false
set_option linter.unusedSimpArgs false
namespace Go.Proofs.YthfienjmigidbaaDoor
open Go.RowKit Go.Pub

theorem attrEnd_small (s : ByteArray) : SmallA s.size (attrEndR s).2 := by
  unfold attrEndR
  split
  · exact parseL_small s _
  · exact emptyA_small _
theorem mk_trim_le (s : ByteArray) (k : Nat) : (mk (trimS (sfx s k))).size ≤ s.size := by
  rw [mk_size]
  have h1 := trimS_len (sfx s k)
  rw [sfx_len] at h1
  omega
theorem head_small {c : ByteArray} {m : MkL} (h : headM c = some m) : SmallA c.size m.att ∧ m.off = 0 := by
  unfold headM at h
  generalize firstN c (· != 35) = n at h
  by_cases h1 : 1 ≤ n ∧ n ≤ 6
  · rw [if_pos h1] at h
    by_cases h2 : spB (c.extract n c.size) = true
    · rw [if_pos h2] at h
      injection h with h
      subst h
      exact ⟨small_mono (attrEnd_small _) (mk_trim_le c n), rfl⟩
    · rw [if_neg h2] at h; cases h
  · rw [if_neg h1] at h; cases h
theorem div_small {c : ByteArray} {m : MkL} (h : divM c = some m) : SmallA c.size m.att ∧ m.off = 0 := by
  unfold divM at h
  generalize firstN c (· != 58) = n at h
  by_cases h1 : 3 ≤ n
  · rw [if_pos h1] at h
    have hz := mk_trim_le c n
    generalize mk (trimS (sfx c n)) = T at h hz
    unfold divT at h
    by_cases h2 : nameB (T.extract 0 (nameN T)) = true
    · rw [if_pos h2] at h
      cases ho : onlyR (T.extract (nameN T) T.size) with
      | none => rw [ho] at h; cases h
      | some a =>
        rw [ho] at h
        injection h with h
        subst h
        exact ⟨small_mono (onlyR_small _ _ ho) (Nat.le_trans (extract_le _ _ _) hz), rfl⟩
    · rw [if_neg h2] at h; cases h
  · rw [if_neg h1] at h; cases h
theorem rule_small {c : ByteArray} {m : MkL} (h : ruleM c = some m) : m.att = emptyA ∧ m.off = 0 := by
  unfold ruleM at h
  split at h
  · split at h
    · injection h with h; subst h; exact ⟨rfl, rfl⟩
    · cases h
  · cases h
theorem fence_small {c : ByteArray} {ind : Nat} {m : MkL} (h : fenceM c ind = some m) : m.att = emptyA ∧ m.off = ind := by
  unfold fenceM at h
  split at h
  · split at h
    · injection h with h; subst h; exact ⟨rfl, rfl⟩
    · cases h
  · cases h
theorem math_small {c : ByteArray} {m : MkL} (h : mathM c = some m) : m.att = emptyA ∧ m.off = 0 := by
  unfold mathM at h
  split at h
  · injection h with h; subst h; exact ⟨rfl, rfl⟩
  · cases h
theorem defTitle_small {L : ByteArray} {d : List UInt8} {A : ByteArray} {n : Nat} {m : MkL} (h : defTitle L d A n = some m) : m.att = emptyA ∧ m.off = 0 := by
  unfold defTitle at h
  by_cases h1 : A.size = 0
  · rw [if_pos h1] at h; injection h with h; subst h; exact ⟨rfl, rfl⟩
  rw [if_neg h1] at h
  by_cases h2 : A.size = n
  · rw [if_pos h2] at h; cases h
  rw [if_neg h2] at h
  generalize titleR A 0 = o at h
  cases o with
  | none => cases h
  | some p =>
    obtain ⟨t, q⟩ := p
    simp only at h
    by_cases h3 : blankB (A.extract q A.size) = true
    · rw [if_pos h3] at h; injection h with h; subst h; exact ⟨rfl, rfl⟩
    · rw [if_neg h3] at h; cases h
theorem def_small {c : ByteArray} {m : MkL} (h : defM c = some m) : m.att = emptyA ∧ m.off = 0 := by
  unfold defM at h
  by_cases h1 : bt c 0 = 91 ∧ cutB (tl1 c) = true ∧ Lib.hasPrefix (bytesL (cutRest (tl1 c))) [58] = true ∧ labelL (bytesL (cutHead (tl1 c))) ≠ []
  · rw [if_pos h1] at h
    unfold defTail at h
    generalize destR _ 0 = o at h
    cases o with
    | none => cases h
    | some p => exact defTitle_small h
  · rw [if_neg h1] at h; cases h
theorem number_off {c : ByteArray} {ind : Nat} {m : MkL} (h : numberM c ind = some m) : m.att = emptyA ∧ m.off ≤ ind + 11 := by
  unfold numberM numR at h
  generalize numDig c = k at h
  generalize numVal c k = v at h
  by_cases h1 : (1 ≤ k ∧ k ≤ 9 ∧ k < c.size) ∧ (bt c k = 46 ∨ bt c k = 41)
  · rw [if_pos h1] at h
    by_cases h2 : spB (c.extract (k + 1) c.size) = true
    · rw [if_pos h2] at h
      injection h with h
      subst h
      exact ⟨rfl, by show ind + k + 2 ≤ _; omega⟩
    · rw [if_neg h2] at h; cases h
  · rw [if_neg h1] at h; cases h
theorem rdrs_small (c : ByteArray) (ind : Nat) (hi : ind ≤ 3) (m : MkL) (h : some m ∈ rdrs c ind) : SmallA c.size m.att ∧ m.off ≤ c.size + 14 := by
  have E : ∀ {n : Nat}, m.att = emptyA → SmallA n m.att := fun e => by rw [e]; exact emptyA_small _
  unfold rdrs at h
  simp only [List.mem_cons, List.not_mem_nil, or_false] at h
  rcases h with h | h | h | h | h | h | h | h | h | h
  · obtain ⟨h1, h2⟩ := head_small h.symm; exact ⟨h1, by omega⟩
  · obtain ⟨h1, h2⟩ := rule_small h.symm; exact ⟨E h1, by omega⟩
  · obtain ⟨_, rfl⟩ := quote_some h.symm; exact ⟨emptyA_small _, by show ind + c.size - _ ≤ _; omega⟩
  · have := bullet_some h.symm; subst this; exact ⟨emptyA_small _, by show ind + 2 ≤ _; omega⟩
  · obtain ⟨h1, h2⟩ := number_off h.symm; exact ⟨E h1, by omega⟩
  · obtain ⟨h1, h2⟩ := fence_small h.symm; exact ⟨E h1, by omega⟩
  · obtain ⟨h1, h2⟩ := math_small h.symm; exact ⟨E h1, by omega⟩
  · obtain ⟨h1, h2⟩ := div_small h.symm; exact ⟨h1, by omega⟩
  · obtain ⟨_, rfl⟩ := note_some h.symm; exact ⟨emptyA_small _, by show 4 ≤ _; omega⟩
  · obtain ⟨h1, h2⟩ := def_small h.symm; exact ⟨E h1, by omega⟩
theorem mark_small (s : ByteArray) : SmallA s.size (markM s).att ∧ (markM s).off ≤ s.size + 14 := by
  unfold markM
  by_cases hb : blankB s = true
  · rw [if_pos hb]; exact ⟨emptyA_small _, Nat.zero_le _⟩
  rw [if_neg hb]
  unfold markC
  by_cases h3 : 3 < indA s 0
  · rw [if_pos h3]; exact ⟨emptyA_small _, Nat.zero_le _⟩
  rw [if_neg h3]
  cases hf : firstS (rdrs (s.extract (indA s 0) s.size) (indA s 0)) with
  | none => exact ⟨emptyA_small _, Nat.zero_le _⟩
  | some m =>
    obtain ⟨h1, h2⟩ := rdrs_small _ _ (by omega) m (first_mem _ _ hf)
    have hz := extract_le s (indA s 0) s.size
    exact ⟨small_mono h1 hz, by show m.off ≤ _; omega⟩
end Go.Proofs.YthfienjmigidbaaDoor
namespace Go.Proofs.YthfienjmigidbaaDoor
open Go.RowKit Go.Pub

set_option maxRecDepth 100000 in
set_option maxHeartbeats 1000000 in
theorem r5_spacesK (s : ByteArray) (i : Nat) (w : World) (hs : s.size ≤ 1000000) (hi : i ≤ s.size) : Calls Tryd.prog 7 #[.string s, .int .i64 i] w fun e w' => e = .returned (.int .i64 (indA s i)) ∧ w = w' := by
  generalize hR : indA s i = R at *
  have HR := Lib.hid hR
  clear hR
  go_enter Tryd.func7, Tryd.ntmps7
  go_wp2
  go_loop [1] (fun v => ∃ k : Nat, k ≤ s.size ∧ v = .int .i64 k ∧ Hid (indA s k = R)) (fun v => s.size - (intOf v).toNat)
  case atStart => exact ⟨i, by omega, rfl, HR⟩
  case round =>
    obtain ⟨k, hk, rfl, Hk⟩ := hrel
    by_cases hlt : k < s.size
    · have hlt2 : ((s[k].toNat : Nat) : Int) < 256 := by rw [get_bt s k hlt]; have := bt_lt s k; omega
      by_cases hc : bt s k = 32
      · have z : (((s[k].toNat : Nat) : Int) == 32) = true := by rw [get_bt s k hlt, hc]; rfl
        have HF : Hid (indA s (k + 1) = R) := Lib.hid (by rw [← Hk.out, indA_yes s k hlt hc])
        clear hc
        go_wp2_with fail
        go_round
        case rel => exact ⟨k + 1, by omega, by go_num, HF⟩
        case measure => simp [intOf]; omega
      · have z : (((s[k].toNat : Nat) : Int) == 32) = false := by rw [get_bt s k hlt, beq_eq_false_iff_ne]; omega
        have HF : Hid (k = R) := Lib.hid (by rw [← Hk.out, indA_no s k hlt hc])
        clear hc
        go_wp2_with fail
        go_ret
        exact ⟨ret_int (by rw [HF.out]), rfl⟩
    · have HF : Hid (k = R) := Lib.hid (by rw [← Hk.out, indA_end s k (by omega)])
      go_wp2_with fail
      go_ret
      exact ⟨ret_int (by rw [HF.out]), rfl⟩
end Go.Proofs.YthfienjmigidbaaDoor
namespace Go.Proofs.YthfienjmigidbaaDoor
open Go.RowKit Go.Pub

theorem of_read {s : ByteArray} {m : MkL} {n : Nat} (h : markM s = m) (hsm : SmallA n m.att) (hn : n ≤ 1000000) (W : World) (hs : s.size ≤ 1000000) : Calls Tryd.prog 6 #[.string s] W fun e w' => ∃ A1 c1 A2 c2, e = .returned (.agg (m.cells (.slice A1 m.att.cl.length c1) (.slice A2 m.att.pr.length c2))) ∧ (ReadA w' w'.heap.size m.att A1 c1 A2 c2 ∧ OwnA w' W.heap.size m.att (.slice A1 m.att.cl.length c1) (.slice A2 m.att.pr.length c2)) ∧ Below W.heap.size W w' := by
  subst h
  refine (m_of s W hs).mono ?_
  rintro e w' ⟨⟨v, rfl, vC, vP, rfl, ho⟩, hb⟩
  obtain ⟨A, c, D, d, he, h1, h2, h3⟩ := ho.val.read hsm hn
  injection he with he
  injection he with he
  simp only [List.cons.injEq, and_true, true_and] at he
  obtain ⟨rfl, rfl⟩ := he
  exact ⟨A, c, D, d, rfl, ⟨h1, ho⟩, hb⟩

theorem ownA_read {W : World} {base n : Nat} {a : AttrL} {A D : Option Addr} {c d : Nat} (h : OwnA W base a (.slice A a.cl.length c) (.slice D a.pr.length d)) (hs : SmallA n a) (hn : n ≤ 1000000) : ReadA W W.heap.size a A c D d := by
  obtain ⟨A', c', D', d', he, h1, h2, h3⟩ := h.val.read hs hn
  injection he with he
  injection he with he
  simp only [List.cons.injEq, and_true, true_and, Value.slice.injEq] at he
  obtain ⟨⟨rfl, rfl⟩, rfl, rfl⟩ := he
  exact h1
theorem readA_set {W : World} {B : Nat} {a : AttrL} {A D : Option Addr} {c d : Nat} (h : ReadA W B a A c D d) {p : Addr} (hB : B ≤ p.block) (u : Value) : ReadA (W.setCell p u) B a A c D d :=
  ⟨h.cls.setCell hB u, h.prs.setCell hB u, by have := h.le; simpa [World.setCell] using this, h.nc, h.np, h.sid, h.scl, h.spr⟩

set_option maxRecDepth 100000 in
set_option maxHeartbeats 2000000 in
theorem same5_true (m : MkL) (A1 A2 A3 A4 : Option Addr) (c1 c2 c3 c4 B B' : Nat) (w : World) (h1 : ReadA w B m.att A1 c1 A2 c2) (h2 : ReadA w B' m.att A3 c3 A4 c4) :
    Calls Tryd.prog 8 #[.agg (m.cells (.slice A1 m.att.cl.length c1) (.slice A2 m.att.pr.length c2)), .agg (m.cells (.slice A3 m.att.cl.length c3) (.slice A4 m.att.pr.length c4))] w fun e w' => e = .returned (.bool true) ∧ Below w.heap.size w w' := by
  obtain ⟨K, n, ch, off, info, rest, dest, title, att⟩ := m
  simp only [MkL.cells] at *
  have HS := Lib.hid fun W => rsame_true W att
  have hB : Hid (Below w.heap.size w ((w.alloc (.cells #[.int .i64 K, .int .i64 n, .string ch, .int .i64 off, .string info, .string rest, .string dest, .string title, .string att.id, .slice A1 att.cl.length c1, .slice A2 att.pr.length c2] 28)).alloc (.cells #[.int .i64 K, .int .i64 n, .string ch, .int .i64 off, .string info, .string rest, .string dest, .string title, .string att.id, .slice A3 att.cl.length c3, .slice A4 att.pr.length c4] 28))) := Lib.hid (((Below.refl _ w).alloc (Nat.le_refl _) _).alloc (by simp) _)
  have q0 : ((K : Int) == (K : Int)) = true := beq_self_eq_true _
  have q1 : ((n : Int) == (n : Int)) = true := beq_self_eq_true _
  have q3 : ((off : Int) == (off : Int)) = true := beq_self_eq_true _
  have q2 : (ch.toList == ch.toList) = true := beq_self_eq_true _
  have q4 : (info.toList == info.toList) = true := beq_self_eq_true _
  have q5 : (rest.toList == rest.toList) = true := beq_self_eq_true _
  have q6 : (dest.toList == dest.toList) = true := beq_self_eq_true _
  have q7 : (title.toList == title.toList) = true := beq_self_eq_true _
  have H1 := Lib.hid h1
  have H2 := Lib.hid h2
  clear h1 h2
  go_enter Tryd.func8, Tryd.ntmps8
  go_wp2_with fail
  refine (HS.out _ A1 c1 A2 c2 B A3 c3 A4 c4 B' (H1.out.below (hB.out)) (H2.out.below (hB.out))).mono ?_
  rintro e w1 ⟨rfl, b1⟩
  go_wp2_with fail
  go_ret
  exact ⟨rfl, hB.out.trans (b1.mono hB.out.size)⟩

set_option maxRecDepth 100000 in
set_option maxHeartbeats 4000000 in
theorem lawShift_any (s : ByteArray) (k : Nat) (w : World) (hs : s.size ≤ 9223372036854775807) (hk : k < 256) : Calls Tryd.prog 4 #[.string s, .int .u8 (k : Nat)] w fun e w' => e = .returned (.bool true) ∧ Below w.heap.size w w' := by
  have HA := Lib.hid mk_awake
  by_cases h : 800 < s.size
  · have d1 : decide (800 < s.size) = true := decide_eq_true h
    go_enter Tryd.func4, Tryd.ntmps4
    go_wp2_with fail
    ((with_reducible refine (HA.out _).mono ?_))
    rintro e w1 ⟨rfl, b1⟩
    go_wp2_with fail
    go_ret
    exact ⟨rfl, b1⟩
  have d1 : decide (800 < s.size) = false := decide_eq_false h
  have HSp : Hid (∀ W, Calls Tryd.prog 7 #[.string s, .int .i64 0] W fun e w' => e = .returned (.int .i64 (indA s 0)) ∧ W = w') := Lib.hid fun W => r5_spacesK s 0 W (by omega) (Nat.zero_le _)
  have hil := indA_le s
  have hsm := mark_small s
  have hsh := mark_shift s
  obtain ⟨r, hr⟩ : ∃ r, r = k % 4 := ⟨_, rfl⟩
  have hr4 : r < 4 := by omega
  have hri : (k : Int) % 4 = (r : Int) := by omega
  clear hr
  generalize indA s 0 = i at *
  by_cases h3 : 3 < i + r
  · have d2 : decide (3 < (i : Int) + (r : Int)) = true := decide_eq_true (by omega)
    have d3 : decide (3 < i + r) = true := decide_eq_true h3
    clear hsm hsh
    go_enter Tryd.func4, Tryd.ntmps4
    go_wp2_with fail
    ((with_reducible refine (HSp.out _).mono ?_))
    rintro e w0 ⟨rfl, rfl⟩
    go_wp2_with fail
    ((with_reducible refine (HA.out _).mono ?_))
    rintro e w1 ⟨rfl, b1⟩
    go_wp2_with fail
    go_ret
    exact ⟨rfl, b1⟩
  have d2 : decide (3 < (i : Int) + (r : Int)) = false := decide_eq_false (by omega)
  have d3 : decide (3 < i + r) = false := decide_eq_false h3
  have hm2 := hsh r (by omega)
  clear hsh
  have hX : (⟨#[32, 32, 32]⟩ : ByteArray).extract 0 r = mk (List.replicate r 32) := by
    rcases (by omega : r = 0 ∨ r = 1 ∨ r = 2 ∨ r = 3) with rfl | rfl | rfl | rfl <;> decide +kernel
  have hz3 : (⟨#[32, 32, 32]⟩ : ByteArray).size = 3 := rfl
  have E : ∀ W, (Op.stringOp .add (mk (List.replicate r 32)) s).run Tryd.prog W = .ok (.string (spA r s)) W := fun W => cat_mk W _ s _ (by rw [List.length_replicate]; omega) rfl
  have hsz := spA_size r s
  have H1 := Lib.hid fun W => of_read (rfl : markM s = markM s) hsm.1 (by omega) W (by omega)
  have hsm2 : SmallA s.size (shiftM r (markM s)).att := by
    have e : (shiftM r (markM s)).att = (markM s).att := by unfold shiftM; split <;> rfl
    rw [e]; exact hsm.1
  have H2 := Lib.hid fun W => of_read hm2 hsm2 (by omega) W (by omega)
  have hoff := hsm.2
  have HSM := Lib.hid hsm.1
  clear hm2 hsm hsm2 hsz
  generalize spA r s = S2 at *
  generalize mk (List.replicate r 32) = SP at *
  generalize markM s = M at *
  obtain ⟨K, n, ch, off, info, rest, dest, title, att⟩ := M
  simp only at hoff HSM
  by_cases hK : K = 4 ∨ K = 5 ∨ K = 6 ∨ K = 7
  · obtain ⟨off2, ho2⟩ : ∃ o, o = off + r := ⟨_, rfl⟩
    have ho2i : (off : Int) + (r : Int) = (off2 : Int) := by omega
    have e2 : shiftM r { kind := K, n := n, ch := ch, off := off, info := info, rest := rest, dest := dest, title := title, att := att } = { kind := K, n := n, ch := ch, off := off2, info := info, rest := rest, dest := dest, title := title, att := att } := by
      rw [shift_off hK, ho2]
    rw [e2] at H2
    have HS := Lib.hid (same5_true { kind := K, n := n, ch := ch, off := off2, info := info, rest := rest, dest := dest, title := title, att := att })
    clear e2 ho2
    simp only [MkL.cells] at H1 H2 HS
    have hq : ∃ p4 p5 p6 p7 : Bool, ((K : Int) == 4) = p4 ∧ ((K : Int) == 5) = p5 ∧ ((K : Int) == 6) = p6 ∧ ((K : Int) == 7) = p7 ∧ (p5 = true ∨ p5 = false ∧ (p6 = true ∨ p6 = false ∧ (p4 = true ∨ p4 = false ∧ p7 = true))) := by
      rcases hK with rfl | rfl | rfl | rfl
      · exact ⟨true, false, false, false, rfl, rfl, rfl, rfl, Or.inr ⟨rfl, Or.inr ⟨rfl, Or.inl rfl⟩⟩⟩
      · exact ⟨false, true, false, false, rfl, rfl, rfl, rfl, Or.inl rfl⟩
      · exact ⟨false, false, true, false, rfl, rfl, rfl, rfl, Or.inr ⟨rfl, Or.inl rfl⟩⟩
      · exact ⟨false, false, false, true, rfl, rfl, rfl, rfl, Or.inr ⟨rfl, Or.inr ⟨rfl, Or.inr ⟨rfl, rfl⟩⟩⟩⟩
    clear hK
    obtain ⟨p4, p5, p6, p7, hp4, hp5, hp6, hp7, hp⟩ := hq
    rcases hp with rfl | ⟨rfl, rfl | ⟨rfl, rfl | ⟨rfl, rfl⟩⟩⟩
    all_goals
      go_enter Tryd.func4, Tryd.ntmps4
      go_wp2_with fail
      ((with_reducible refine (HSp.out _).mono ?_))
      rintro e w0 ⟨rfl, rfl⟩
      go_wp2_with fail
      ((with_reducible refine (H1.out _).mono ?_))
      rintro e w1 ⟨A1, c1, A2, c2, rfl, r1, b1⟩
      have C1 := Lib.hid b1
      have R1 := Lib.hid r1.1
      clear b1 r1
      go_wp2_with fail
      ((with_reducible refine (H2.out _).mono ?_))
      rintro e w2 ⟨A3, c3, A4, c4, rfl, r2, b2⟩
      have N2 := st_next C1.out b2
      have C2 := Lib.hid N2.2
      have R1' := Lib.hid ((R1.out.below ((Below.refl _ _).alloc (Nat.le_refl _) (.cells #[.int .i64 K, .int .i64 n, .string ch, .int .i64 off, .string info, .string rest, .string dest, .string title, .string att.id, .slice A1 att.cl.length c1, .slice A2 att.pr.length c2] 28))).below b2)
      have R2 := Lib.hid r2
      obtain ⟨k0, k1, k2, k3, k4, k5, k6, k7, k8, k9, k10, y0, y1, y2, y3, y4, y5, y6, y7, y8, y9, y10⟩ := mk_facts N2.1
      have hlt := N2.1.lt
      clear N2 b2 r2 y0 y1 y2 y4 y5 y6 y7 y8 y9 y10
      go_wp2_with fail
      have O2a := ownA_far R2.out.2 (only_store (only_refl w2 (some w1.heap.size)) 3 (.int .i64 off2)) (by simp)
      have RR2 := ownA_read (O2a.below ((Below.refl _ _).alloc (Nat.le_refl _) (.cells #[.int .i64 K, .int .i64 n, .string ch, .int .i64 off2, .string info, .string rest, .string dest, .string title, .string att.id, .slice A3 att.cl.length c3, .slice A4 att.pr.length c4] 28))) HSM.out (by omega)
      have RR1 := (readA_set R1'.out (p := ⟨w1.heap.size, 3, none⟩) (Nat.le_refl _) (.int .i64 off2)).below ((Below.refl _ _).alloc (Nat.le_refl _) (.cells #[.int .i64 K, .int .i64 n, .string ch, .int .i64 off2, .string info, .string rest, .string dest, .string title, .string att.id, .slice A3 att.cl.length c3, .slice A4 att.pr.length c4] 28))
      have C3 : Below w.heap.size w (w2.setCell ⟨w1.heap.size, 3, none⟩ (.int .i64 off2)) := C2.out.setCell (p := ⟨w1.heap.size, 3, none⟩) C1.out.size _
      have C4 := C3.alloc C3.size (.cells #[.int .i64 K, .int .i64 n, .string ch, .int .i64 off2, .string info, .string rest, .string dest, .string title, .string att.id, .slice A3 att.cl.length c3, .slice A4 att.pr.length c4] 28)
      refine (HS.out _ _ _ _ _ _ _ _ _ _ _ RR1 RR2).mono ?_
      rintro e w3 ⟨rfl, b3⟩
      have C5 := Lib.hid (C4.trans (b3.mono C4.size))
      clear b3 O2a RR1 RR2 C3 C4 k0 k1 k2 k3 k4 k5 k6 k7 k8 k9 k10 y3 hlt
      go_wp2_with fail
      ((with_reducible refine (HA.out _).mono ?_))
      rintro e w4 ⟨rfl, b4⟩
      go_wp2_with fail
      go_ret
      exact ⟨rfl, C5.out.trans (b4.mono C5.out.size)⟩
  · have e2 : shiftM r { kind := K, n := n, ch := ch, off := off, info := info, rest := rest, dest := dest, title := title, att := att } = { kind := K, n := n, ch := ch, off := off, info := info, rest := rest, dest := dest, title := title, att := att } := if_neg hK
    rw [e2] at H2
    have HS := Lib.hid (same5_true { kind := K, n := n, ch := ch, off := off, info := info, rest := rest, dest := dest, title := title, att := att })
    clear e2
    simp only [MkL.cells] at H1 H2 HS
    have p4 : ((K : Int) == 4) = false := by rw [beq_eq_false_iff_ne]; omega
    have p5 : ((K : Int) == 5) = false := by rw [beq_eq_false_iff_ne]; omega
    have p6 : ((K : Int) == 6) = false := by rw [beq_eq_false_iff_ne]; omega
    have p7 : ((K : Int) == 7) = false := by rw [beq_eq_false_iff_ne]; omega
    clear hK
    go_enter Tryd.func4, Tryd.ntmps4
    go_wp2_with fail
    ((with_reducible refine (HSp.out _).mono ?_))
    rintro e w0 ⟨rfl, rfl⟩
    go_wp2_with fail
    ((with_reducible refine (H1.out _).mono ?_))
    rintro e w1 ⟨A1, c1, A2, c2, rfl, r1, b1⟩
    have C1 := Lib.hid b1
    have R1 := Lib.hid r1.1
    clear b1 r1
    go_wp2_with fail
    ((with_reducible refine (H2.out _).mono ?_))
    rintro e w2 ⟨A3, c3, A4, c4, rfl, r2, b2⟩
    have N2 := st_next C1.out b2
    have C2 := Lib.hid N2.2
    have R1' := Lib.hid ((R1.out.below ((Below.refl _ _).alloc (Nat.le_refl _) (.cells #[.int .i64 K, .int .i64 n, .string ch, .int .i64 off, .string info, .string rest, .string dest, .string title, .string att.id, .slice A1 att.cl.length c1, .slice A2 att.pr.length c2] 28))).below b2)
    have R2 := Lib.hid r2.1
    obtain ⟨k0, k1, k2, k3, k4, k5, k6, k7, k8, k9, k10, -⟩ := mk_facts N2.1
    have hlt := N2.1.lt
    clear N2 b2 r2
    go_wp2_with fail
    have C4 := C2.out.alloc C2.out.size (.cells #[.int .i64 K, .int .i64 n, .string ch, .int .i64 off, .string info, .string rest, .string dest, .string title, .string att.id, .slice A3 att.cl.length c3, .slice A4 att.pr.length c4] 28)
    have RR1 := R1'.out.below ((Below.refl _ _).alloc (Nat.le_refl _) (.cells #[.int .i64 K, .int .i64 n, .string ch, .int .i64 off, .string info, .string rest, .string dest, .string title, .string att.id, .slice A3 att.cl.length c3, .slice A4 att.pr.length c4] 28))
    have RR2 := R2.out.below ((Below.refl _ _).alloc (Nat.le_refl _) (.cells #[.int .i64 K, .int .i64 n, .string ch, .int .i64 off, .string info, .string rest, .string dest, .string title, .string att.id, .slice A3 att.cl.length c3, .slice A4 att.pr.length c4] 28))
    refine (HS.out _ _ _ _ _ _ _ _ _ _ _ RR1 RR2).mono ?_
    rintro e w3 ⟨rfl, b3⟩
    have C5 := Lib.hid (C4.trans (b3.mono C4.size))
    clear b3 RR1 RR2 C4 k0 k1 k2 k3 k4 k5 k6 k7 k8 k9 k10 hlt
    go_wp2_with fail
    ((with_reducible refine (HA.out _).mono ?_))
    rintro e w4 ⟨rfl, b4⟩
    go_wp2_with fail
    go_ret
    exact ⟨rfl, C5.out.trans (b4.mono C5.out.size)⟩
end Go.Proofs.YthfienjmigidbaaDoor
