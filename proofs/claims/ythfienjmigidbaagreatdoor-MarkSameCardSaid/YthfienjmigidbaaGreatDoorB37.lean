/-
  Texts of the proof, put together: RmG, RmH, RmB, MkSB, RmC, RmD.
-/
import Derived.Test.YthfienjmigidbaaGreatDoorB36
import Derived.Test.YthfienjmigidbaaGreatDoorB35
import Derived.Test.YthfienjmigidbaaGreatDoorB18
import Derived.Test.YthfienjmigidbaaGreatDoorB19
import Derived.StillTailTactics
import Derived.StillTail
import Derived.Test.YthfienjmigidbaaGreatDoorB31
import Derived.Test.YthfienjmigidbaaGreatDoorB23
import Derived.Test.YthfienjmigidbaaGreatDoorB32
set_option linter.unusedVariables false
set_option linter.unusedSimpArgs false
namespace Go.Proofs.YthfienjmigidbaaGreatDoor
open Go.RowKit Go.Pub

set_option maxRecDepth 100000 in
set_option maxHeartbeats 4000000 in
theorem r5_digits (s : ByteArray) (i : Nat) (w : World) (hs : s.size ≤ 1000000) (hi : i ≤ s.size) : Calls Tryz.prog 93 #[.string s, .int .i64 i] w fun e w' => e = .returned (.int .i64 (runF s i digN)) ∧ w = w' := by
  have HR : Hid (∀ j : Nat, j = 0 → j + runF s (i + j) digN = runF s i digN) := Lib.hid (by intro j hj; rw [hj, Nat.zero_add]; rfl)
  generalize runF s i digN = R at *
  go_enter Tryz.func93, Tryz.ntmps93
  go_wp2
  go_loop [5] (fun v => ∃ k : Nat, i + k ≤ s.size ∧ v = .int .i64 k ∧ Hid (k + runF s (i + k) digN = R)) (fun v => s.size - (intOf v).toNat)
  case atStart => exact ⟨0, by omega, rfl, Lib.hid (HR.out 0 rfl)⟩
  case round =>
    obtain ⟨k, hk, rfl, Hk⟩ := hrel
    clear HR
    have hcn : ((i : Int) + (k : Int)).toNat = i + k := by omega
    by_cases hlt : i + k < s.size
    · have hg := get_bt s (i + k) hlt
      have y0 : decide ((i : Int) + (k : Int) < (s.size : Int)) = true := decide_eq_true (by omega)
      have y0' : decide (i + k < s.size) = true := decide_eq_true hlt
      have hcase : (Hid (digN (bt s (i + k)) = true) ∧ decide (48 ≤ ((s[i + k].toNat : Nat) : Int)) = true ∧ decide (48 ≤ s[i + k].toNat) = true ∧ decide (((s[i + k].toNat : Nat) : Int) ≤ 57) = true ∧ decide (s[i + k].toNat ≤ 57) = true) ∨
          (Hid (digN (bt s (i + k)) = false) ∧
            ((decide (48 ≤ ((s[i + k].toNat : Nat) : Int)) = false ∧ decide (48 ≤ s[i + k].toNat) = false) ∨ (decide (48 ≤ ((s[i + k].toNat : Nat) : Int)) = true ∧ decide (48 ≤ s[i + k].toNat) = true ∧ decide (((s[i + k].toNat : Nat) : Int) ≤ 57) = false ∧ decide (s[i + k].toNat ≤ 57) = false))) := by
        rw [hg]
        generalize bt s (i + k) = b at *
        by_cases h48 : 48 ≤ b
        · by_cases h57 : b ≤ 57
          · exact Or.inl ⟨Lib.hid ((digN_iff b).2 ⟨h48, h57⟩), decide_eq_true (by omega), decide_eq_true h48, decide_eq_true (by omega), decide_eq_true h57⟩
          · exact Or.inr ⟨Lib.hid (Bool.eq_false_iff.2 fun h => h57 ((digN_iff b).1 h).2), Or.inr ⟨decide_eq_true (by omega), decide_eq_true h48, decide_eq_false (by omega), decide_eq_false h57⟩⟩
        · exact Or.inr ⟨Lib.hid (Bool.eq_false_iff.2 fun h => h48 ((digN_iff b).1 h).1), Or.inl ⟨decide_eq_false (by omega), decide_eq_false h48⟩⟩
      rcases hcase with ⟨Hp, d1, d2, d3, d4⟩ | ⟨Hp, hd⟩
      · have HF : Hid (k + 1 + runF s (i + (k + 1)) digN = R) := Lib.hid (by rw [← Hk.out, runF_yes s (i + k) digN hlt Hp.out]; simp only [Nat.add_assoc, Nat.add_comm, Nat.add_left_comm])
        clear Hp hg
        go_wp2_with fail
        all_goals exact ⟨⟨k + 1, by omega, by go_num, HF⟩, by simp [intOf]; omega⟩
      · have HF : Hid (k = R) := Lib.hid (by rw [← Hk.out, runF_no s (i + k) digN hlt Hp.out]; rfl)
        clear Hp hg
        rcases hd with ⟨d1, d2⟩ | ⟨d1, d2, d3, d4⟩
        all_goals
          go_wp2_with fail
          go_ret
          exact ⟨ret_int (by rw [HF.out]), rfl⟩
    · have HF : Hid (k = R) := Lib.hid (by rw [← Hk.out, runF_end s (i + k) digN (by omega)]; rfl)
      have y0 : decide ((i : Int) + (k : Int) < (s.size : Int)) = false := decide_eq_false (by omega)
      have y0' : decide (i + k < s.size) = false := decide_eq_false hlt
      go_wp2_with fail
      go_ret
      exact ⟨ret_int (by rw [HF.out]), rfl⟩
end Go.Proofs.YthfienjmigidbaaGreatDoor
namespace Go.Proofs.YthfienjmigidbaaGreatDoor
open Go.RowKit Go.Pub

theorem trimR_sps (l r : List UInt8) (hr : ∀ b ∈ r, b = 32) : trimR (l ++ r) = trimR l := by
  obtain ⟨r1, h1, h2⟩ := trimR_split l
  have h3 : l ++ r = trimR l ++ (r1 ++ r) := by rw [← List.append_assoc, ← h1]
  rw [h3, trimR_back (r1 ++ r) (trimR l) (fun b hb => by
    rcases List.mem_append.1 hb with h | h
    · exact h2 b h
    · exact hr b h) (trimR_last l)]
theorem trimS_sps (r : List UInt8) (hr : ∀ b ∈ r, b = 32) : ∀ l : List UInt8, trimS (l ++ r) = trimS l
  | [] => by
    show trimR (trimF r) = trimR (trimF [])
    rw [trimF_all r hr]; rfl
  | c :: l => by
    by_cases h : c = 32
    · subst h
      have ih := trimS_sps r hr l
      unfold trimS at ih ⊢
      rw [List.cons_append, trimF_sp, trimF_sp]; exact ih
    · unfold trimS
      rw [List.cons_append, trimF_no _ _ h, trimF_no _ _ h, ← List.cons_append, trimR_sps _ r hr]
theorem cntW_sps (p : Nat → Bool) (hp : p 32 = false) (r : List UInt8) (hr : ∀ b ∈ r, b = 32) : ∀ l : List UInt8, cntW p (l ++ r) = cntW p l
  | [] => by
    cases r with
    | nil => rfl
    | cons x r =>
      have hx := hr x (List.mem_cons_self ..)
      subst hx
      show (if p 32 = true then _ else 0) = 0
      rw [if_neg (by rw [hp]; exact Bool.false_ne_true)]
  | c :: l => by
    show (if p c.toNat = true then cntW p (l ++ r) + 1 else 0) = (if p c.toNat = true then cntW p l + 1 else 0)
    rw [cntW_sps p hp r hr l]
theorem onlyR_congr {s t : ByteArray} (h : trimS (bytesL s) = trimS (bytesL t)) : onlyR s = onlyR t := by unfold onlyR; rw [h]
theorem nameN_cnt (s : ByteArray) : nameN s = cntW partN (bytesL s) := by
  unfold nameN; rw [firstN_run s partN _ (fun b => rfl)]
  unfold runF sfx; rw [List.drop_zero]
theorem div_eq (c : ByteArray) (n : Nat) (hn : n ≤ c.size) : divT (mk (trimS (sfx c n))) n =
    if nameB (c.extract (indA c n) (indA c n + runF c (indA c n) partN)) = true then (attrRestM c (indA c n + runF c (indA c n) partN)).map fun a => { kind := 9, n := n, info := c.extract (indA c n) (indA c n + runF c (indA c n) partN), att := a } else none := by
  have hb := indA_bd c n hn
  rw [trimS_sfx]
  generalize hi : indA c n = b at *
  obtain ⟨r, hr, hr32⟩ := trimR_split (sfx c b)
  generalize hT : trimR (sfx c b) = T at *
  have hK : nameN (mk T) = runF c b partN := by
    rw [nameN_cnt, bytesL_mk']
    unfold runF
    rw [hr, cntW_sps partN (by decide) r hr32]
  have hKl := nameN_le (mk T)
  rw [mk_size] at hKl
  unfold divT
  rw [hK] at *
  generalize runF c b partN = K at *
  have hlen := congrArg List.length hr
  rw [sfx_len, List.length_append] at hlen
  have h1 : (mk T).extract 0 K = c.extract b (b + K) := by
    rw [← mk_bytesL ((mk T).extract 0 K), ← mk_bytesL (c.extract b (b + K)), bytesL_sub, bytesL_sub]
    unfold sub
    rw [bytesL_mk']
    show mk ((T.drop 0).take (K - 0)) = mk ((sfx c b).take (b + K - b))
    rw [hr, List.drop_zero, Nat.sub_zero, Nat.add_sub_cancel_left, List.take_append_of_le_length hKl]
  have h2 : onlyR ((mk T).extract K (mk T).size) = attrRestM c (b + K) := by
    rw [← only_rest c (b + K) (by omega)]
    refine onlyR_congr ?_
    rw [extract_drop, extract_drop, bytesL_mk', bytesL_mk', sfx_add, hr]
    have h3 : sfx (mk T) K = T.drop K := by unfold sfx; rw [bytesL_mk']
    rw [h3, List.drop_append_of_le_length hKl, trimS_sps r hr32]
  rw [h1, h2]
end Go.Proofs.YthfienjmigidbaaGreatDoor
namespace Go.Proofs.YthfienjmigidbaaGreatDoor
open Go.RowKit Go.Pub

theorem attrEnd_ret {W : World} {g : Nat} {x y z u : Value} {P : Ending → World → Prop} {act : Act} (hr : Blk W g 25 #[x, y, z]) (h4 : act.tmps.getD 2 undef = .pointer (some ⟨g, 0, none⟩))
    (h5 : act.tmps.getD 3 undef = u) (hd : act.defers = []) (hP : P (.returned (.tuple #[.agg #[x, y, z], u])) W) : bodyPost Tryz.prog Tryz.f90 P Exit.ret act W := by
  have c0 : W.cell? ⟨g, 0, none⟩ = some x := hr.cell 0
  have c1 : W.cell? ⟨g, 1, none⟩ = some y := hr.cell 1
  have c2 : W.cell? ⟨g, 2, none⟩ = some z := hr.cell 2
  refine bodyPost_ret (v := .tuple #[.agg #[x, y, z], u]) ?_ hd hP
  rw [Array.getD_eq_getD_getElem?] at h4 h5
  simp [results, Tryz.results90, go_sem, h4, h5, c0, c1, c2]
def REPost (r : ByteArray × AttrL) (w : World) (e : Ending) (w' : World) : Prop := (∃ vC vP, e = .returned (.tuple #[.agg #[.string r.2.id, vC, vP], .string r.1]) ∧ OwnA w' w.heap.size r.2 vC vP) ∧ Below w.heap.size w w'

set_option maxRecDepth 100000 in
set_option maxHeartbeats 4000000 in
theorem r5_attrEnd (s : ByteArray) (w : World) (hs : s.size ≤ 1000000) : Calls Tryz.prog 90 #[.string s] w (REPost (attrEndR s) w) := by
  have HSo := Lib.hid (attrEnd_some s)
  have HNo := Lib.hid (attrEnd_none s)
  have hA0 : Blk (w.alloc (.cells #[.string ⟨#[]⟩, .slice none 0 0, .slice none 0 0] 25)) w.heap.size 25 #[.string ⟨#[]⟩, .slice none 0 0, .slice none 0 0] := Blk.new w _ _
  have hB0 : Below w.heap.size w (w.alloc (.cells #[.string ⟨#[]⟩, .slice none 0 0, .slice none 0 0] 25)) := (Below.refl _ w).alloc (Nat.le_refl _) _
  generalize attrEndR s = R at *
  go_enter Tryz.func90, Tryz.ntmps90
  go_wp2_with fail
  go_loopw [4] (fun v wr => ∃ k : Nat, v = .int .i64 k ∧ k ≤ s.size ∧ Blk wr w.heap.size 25 #[.string ⟨#[]⟩, .slice none 0 0, .slice none 0 0] ∧ Below w.heap.size w wr ∧ Hid (∀ j, j < k → attrOkB s j = false)) (fun v _ => s.size - (intOf v).toNat)
  case atStart => exact ⟨0, rfl, Nat.zero_le _, hA0, hB0, Lib.hid fun j hj => absurd hj (by omega)⟩
  case round =>
    obtain ⟨k, rfl, hks, hA, hB, HG⟩ := hrel
    clear hA0 hB0
    by_cases hlt : k < s.size
    case neg =>
      obtain rfl : k = s.size := by omega
      have HF : Hid (R = (s, emptyA)) := Lib.hid (HNo.out HG.out)
      have y1 : decide ((s.size : Int) < (s.size : Int)) = false := decide_eq_false (by omega)
      have a0 := hA.cell 0
      have a1 := hA.cell 1
      have a2 := hA.cell 2
      have f0 := hA.frozen 0
      have f1 := hA.frozen 1
      have f2 := hA.frozen 2
      have hB2 := below3 hB (Nat.le_refl w.heap.size) (.string ⟨#[]⟩) (.slice none 0 0) (.slice none 0 0)
      have hA2 := Lib.hid (blk3 hA rfl (.string ⟨#[]⟩) (.slice none 0 0) (.slice none 0 0))
      have hB2 := Lib.hid hB2
      go_wp2_with fail
      refine attrEnd_ret hA2.out rfl rfl rfl ?_
      rw [HF.out]
      exact ⟨⟨_, _, rfl, ownA_empty _ _ hB2.out.size⟩, hB2.out⟩
    have hg := get_bt s k hlt
    have HN : Hid (attrOkB s k = false → ∀ j, j < k + 1 → attrOkB s j = false) := Lib.hid fun h j hj => by
      by_cases e : j = k
      · rw [e]; exact h
      · exact HG.out j (by omega)
    have HO : Hid (attrOkB s k = (decide (bt s k = 123) && (decide (k = 0) || decide (bt s (k - 1) = 32)) && (decide ((parseL s k).2.2 = 0) && decide ((parseL s k).2.1 = s.size)))) := Lib.hid rfl
    by_cases h1 : bt s k = 123
    case neg =>
      have HN2 := Lib.hid (HN.out (by rw [HO.out, decide_eq_false h1]; rfl))
      have z1 : (((bt s k : Nat) : Int) == 123) = false := by rw [beq_eq_false_iff_ne]; omega
      clear HN HO h1
      go_wp2_with fail
      go_round
      case rel => exact ⟨k + 1, by go_num, by omega, hA, hB, HN2⟩
      case measure => simp [intOf]; omega
    have z1 : (((bt s k : Nat) : Int) == 123) = true := by rw [h1]; rfl
    by_cases h2 : k = 0 ∨ bt s (k - 1) = 32
    case neg =>
      have hk0 : ¬ k = 0 := fun e => h2 (Or.inl e)
      have hb : ¬ bt s (k - 1) = 32 := fun e => h2 (Or.inr e)
      have HN2 := Lib.hid (HN.out (by rw [HO.out, decide_eq_false hk0, decide_eq_false hb]; simp))
      have hlt1 : k - 1 < s.size := by omega
      have hcast : ((k : Int) - 1) = ((k - 1 : Nat) : Int) := by omega
      have hnat : ((k : Int) - 1).toNat = k - 1 := by omega
      have hg1 := get_bt s (k - 1) hlt1
      have z2 : ((k : Int) == 0) = false := by rw [beq_eq_false_iff_ne]; omega
      have z2' : (k == 0) = false := by rw [beq_eq_false_iff_ne]; exact hk0
      have z3 : (((s[k - 1].toNat : Nat) : Int) == 32) = false := by rw [hg1, beq_eq_false_iff_ne]; omega
      clear HN HO h1 h2 hb
      go_wp2_with fail
      go_round
      case rel => exact ⟨k + 1, by go_num, by omega, hA, hB, HN2⟩
      case measure => simp [intOf]; omega
    have hcond : (((k : Int) == 0) = true ∧ k = 0) ∨ (((k : Int) == 0) = false ∧ (k == 0) = false ∧ 0 < k ∧ ∃ h : k - 1 < s.size, (((s[k - 1].toNat : Nat) : Int) == 32) = true) := by
      by_cases e : k = 0
      · left; exact ⟨by rw [e]; rfl, e⟩
      · right
        refine ⟨by rw [beq_eq_false_iff_ne]; omega, by rw [beq_eq_false_iff_ne]; exact e, by omega, by omega, ?_⟩
        rw [get_bt s (k - 1) (by omega), h2.resolve_left e]; rfl
    have HOK : Hid (attrOkB s k = (decide ((parseL s k).2.2 = 0) && decide ((parseL s k).2.1 = s.size))) := Lib.hid (by
      rw [HO.out, decide_eq_true h1]
      rcases h2 with e | e
      · rw [decide_eq_true e]; rfl
      · rw [decide_eq_true e, Bool.or_true]; rfl)
    have HSo2 : Hid (attrOkB s k = true → R = (mk (trimS ((bytesL s).take k)), (parseL s k).1)) := Lib.hid fun h => HSo.out k hlt HG.out h
    have HPa := Lib.hid fun W => rparse_any W s k hs
    clear HO h1 h2
    generalize parseL s k = pr at *
    obtain ⟨a, t, n⟩ := pr
    simp only at HOK HSo2
    have htest : (((n : Int) == 0) = false ∧ attrOkB s k = false) ∨ (((n : Int) == 0) = true ∧ ((t : Int) == (s.size : Int)) = false ∧ (t == s.size) = false ∧ attrOkB s k = false) ∨ (((n : Int) == 0) = true ∧ ((t : Int) == (s.size : Int)) = true ∧ (t == s.size) = true ∧ attrOkB s k = true) := by
      by_cases e1 : n = 0
      · right
        by_cases e2 : t = s.size
        · right; exact ⟨by rw [e1]; rfl, by rw [beq_iff_eq]; omega, by rw [beq_iff_eq]; exact e2, by rw [HOK.out, decide_eq_true e1, decide_eq_true e2]; rfl⟩
        · left; exact ⟨by rw [e1]; rfl, by rw [beq_eq_false_iff_ne]; omega, by rw [beq_eq_false_iff_ne]; exact e2, by rw [HOK.out, decide_eq_true e1, decide_eq_false e2]; rfl⟩
      · left; exact ⟨by rw [beq_eq_false_iff_ne]; omega, by rw [HOK.out, decide_eq_false e1]; rfl⟩
    have htz : (s.extract 0 k).size ≤ 1000000 := by rw [ByteArray.size_extract]; omega
    have HTr : Hid (∀ W, Calls Tryz.prog 91 #[.string (s.extract 0 k)] W fun e w' => e = .returned (.string (mk (trimS ((bytesL s).take k)))) ∧ w' = W) := Lib.hid fun W => by
      have h := r5_trim (s.extract 0 k) W htz
      rw [extract_take, bytesL_mk', ← extract_take] at h
      exact h.mono fun e w' hh => ⟨hh.1, hh.2.symm⟩
    have hgl := hA.lt
    have HW : Hid (∀ W1, Below wr.heap.size wr W1 → Blk W1 w.heap.size 25 #[.string ⟨#[]⟩, .slice none 0 0, .slice none 0 0] ∧ Below w.heap.size w W1) := Lib.hid fun W1 hb => ⟨hA.below hb hgl, hB.trans (hb.mono hB.size)⟩
    have HLT := Lib.hid hgl
    clear HOK hA hB hgl htz
    rcases hcond with ⟨c1, rfl⟩ | ⟨c1, c2, c3, c4, c5⟩
    · have HPa : Hid (∀ W, Calls Tryz.prog 79 #[.string s, .int .i64 0] W (ParsePost (a, t, n) W)) := HPa
      have HTr : Hid (∀ W, Calls Tryz.prog 91 #[.string ByteArray.empty] W fun e w' => e = .returned (.string (mk (trimS ((bytesL s).take 0)))) ∧ w' = W) := Lib.hid fun W => by
        have e : s.extract 0 0 = ByteArray.empty := by rw [← mk_bytesL (s.extract 0 0), bytesL_sub, sub_self]; rfl
        rw [← e]; exact HTr.out W
      rcases htest with ⟨t1, t2⟩ | ⟨t1, t2, t3, t4⟩ | ⟨t1, t2, t3, t4⟩
      · have HN2 := Lib.hid (HN.out t2)
        clear t2 HN HSo2 HTr
        go_wp2_with fail
        ((with_reducible refine (HPa.out _).mono ?_))
        rintro e W1 ⟨v, rfl, ⟨⟨vC, vP, rfl, hC1, hP1⟩, hc32, hp32⟩, b1⟩
        obtain ⟨qA, qc, rfl⟩ := own_slice hC1
        obtain ⟨qD, qd, rfl⟩ := own_slice hP1
        obtain ⟨hA1, hB1⟩ := HW.out W1 b1
        have hA2 := Lib.hid (Blk.alloc hA1 (.cells #[.string a.id, .slice qA a.cl.length qc, .slice qD a.pr.length qd] 25))
        have hB2 := Lib.hid (hB1.alloc hB1.size (.cells #[.string a.id, .slice qA a.cl.length qc, .slice qD a.pr.length qd] 25))
        clear b1 hC1 hP1 hA1 hB1
        go_wp2_with fail
        go_round
        case rel => exact ⟨0 + 1, by go_num, by omega, hA2.out, hB2.out, HN2⟩
        case measure => simp [intOf]; omega
      · have HN2 := Lib.hid (HN.out t4)
        clear t4 HN HSo2 HTr
        go_wp2_with fail
        ((with_reducible refine (HPa.out _).mono ?_))
        rintro e W1 ⟨v, rfl, ⟨⟨vC, vP, rfl, hC1, hP1⟩, hc32, hp32⟩, b1⟩
        obtain ⟨qA, qc, rfl⟩ := own_slice hC1
        obtain ⟨qD, qd, rfl⟩ := own_slice hP1
        obtain ⟨hA1, hB1⟩ := HW.out W1 b1
        have hA2 := Lib.hid (Blk.alloc hA1 (.cells #[.string a.id, .slice qA a.cl.length qc, .slice qD a.pr.length qd] 25))
        have hB2 := Lib.hid (hB1.alloc hB1.size (.cells #[.string a.id, .slice qA a.cl.length qc, .slice qD a.pr.length qd] 25))
        clear b1 hC1 hP1 hA1 hB1
        go_wp2_with fail
        go_round
        case rel => exact ⟨0 + 1, by go_num, by omega, hA2.out, hB2.out, HN2⟩
        case measure => simp [intOf]; omega
      · have HF := Lib.hid (HSo2.out t4)
        clear t4 HN HSo2
        go_wp2_with fail
        ((with_reducible refine (HPa.out _).mono ?_))
        rintro e W1 ⟨v, rfl, ⟨⟨vC, vP, rfl, hC1, hP1⟩, hc32, hp32⟩, b1⟩
        obtain ⟨qA, qc, rfl⟩ := own_slice hC1
        obtain ⟨qD, qd, rfl⟩ := own_slice hP1
        obtain ⟨hA1, hB1⟩ := HW.out W1 b1
        have hO : OwnA W1 wr.heap.size a (.slice qA a.cl.length qc) (.slice qD a.pr.length qd) := ⟨hC1, hP1, b1.size, hc32, hp32⟩
        have hO2 := Lib.hid (hO.below ((Below.refl _ _).alloc (Nat.le_refl _) (.cells #[.string a.id, .slice qA a.cl.length qc, .slice qD a.pr.length qd] 25)))
        have hA2 := Blk.alloc hA1 (.cells #[.string a.id, .slice qA a.cl.length qc, .slice qD a.pr.length qd] 25)
        have hB2 := Lib.hid (hB1.alloc hB1.size (.cells #[.string a.id, .slice qA a.cl.length qc, .slice qD a.pr.length qd] 25))
        have hn := Blk.new W1 25 #[.string a.id, .slice qA a.cl.length qc, .slice qD a.pr.length qd]
        have e0 := hn.cell 0
        have e1 := hn.cell 1
        have e2 := hn.cell 2
        have a0 := hA2.cell 0
        have a1 := hA2.cell 1
        have a2 := hA2.cell 2
        have f0 := hA2.frozen 0
        have f1 := hA2.frozen 1
        have f2 := hA2.frozen 2
        have HA2 := Lib.hid hA2
        clear b1 hC1 hP1 hA1 hB1 hA2 hn hO
        go_wp2_with fail
        generalize (W1.alloc (.cells #[.string a.id, .slice qA a.cl.length qc, .slice qD a.pr.length qd] 25)) = W3 at *
        refine wp_region_still_tail 5 (by kernel_rfl) (by kernel_rfl) ?_
        simp only [List.take_succ_cons, List.take_zero, List.drop_succ_cons, List.drop_zero]
        repeat still_step
        still_call (HTr.out _)
        repeat still_step
        refine wpStill_nil ?_
        go_wp2_with fail
        refine attrEnd_ret (Blk.drewN (blk3 HA2.out rfl (.string a.id) (.slice qA a.cl.length qc) (.slice qD a.pr.length qd)) 1) rfl rfl rfl ?_
        rw [HF.out]
        refine ⟨⟨_, _, rfl, ?_⟩, below_drewN (below3 hB2.out (Nat.le_refl _) _ _ _) 1⟩
        exact ownA_low ((ownA_far hO2.out (grown3 W3 w.heap.size (.string a.id) (.slice qA a.cl.length qc) (.slice qD a.pr.length qd)) HLT.out).below (below_drewN (Below.refl _ _) 1)) (Nat.le_of_lt HLT.out)
    · have hcast : ((k : Int) - 1) = ((k - 1 : Nat) : Int) := by omega
      have hnat : ((k : Int) - 1).toNat = k - 1 := by omega
      rcases htest with ⟨t1, t2⟩ | ⟨t1, t2, t3, t4⟩ | ⟨t1, t2, t3, t4⟩
      · have HN2 := Lib.hid (HN.out t2)
        clear t2 HN HSo2 HTr
        go_wp2_with fail
        ((with_reducible refine (HPa.out _).mono ?_))
        rintro e W1 ⟨v, rfl, ⟨⟨vC, vP, rfl, hC1, hP1⟩, hc32, hp32⟩, b1⟩
        obtain ⟨qA, qc, rfl⟩ := own_slice hC1
        obtain ⟨qD, qd, rfl⟩ := own_slice hP1
        obtain ⟨hA1, hB1⟩ := HW.out W1 b1
        have hA2 := Lib.hid (Blk.alloc hA1 (.cells #[.string a.id, .slice qA a.cl.length qc, .slice qD a.pr.length qd] 25))
        have hB2 := Lib.hid (hB1.alloc hB1.size (.cells #[.string a.id, .slice qA a.cl.length qc, .slice qD a.pr.length qd] 25))
        clear b1 hC1 hP1 hA1 hB1
        go_wp2_with fail
        go_round
        case rel => exact ⟨k + 1, by go_num, by omega, hA2.out, hB2.out, HN2⟩
        case measure => simp [intOf]; omega
      · have HN2 := Lib.hid (HN.out t4)
        clear t4 HN HSo2 HTr
        go_wp2_with fail
        ((with_reducible refine (HPa.out _).mono ?_))
        rintro e W1 ⟨v, rfl, ⟨⟨vC, vP, rfl, hC1, hP1⟩, hc32, hp32⟩, b1⟩
        obtain ⟨qA, qc, rfl⟩ := own_slice hC1
        obtain ⟨qD, qd, rfl⟩ := own_slice hP1
        obtain ⟨hA1, hB1⟩ := HW.out W1 b1
        have hA2 := Lib.hid (Blk.alloc hA1 (.cells #[.string a.id, .slice qA a.cl.length qc, .slice qD a.pr.length qd] 25))
        have hB2 := Lib.hid (hB1.alloc hB1.size (.cells #[.string a.id, .slice qA a.cl.length qc, .slice qD a.pr.length qd] 25))
        clear b1 hC1 hP1 hA1 hB1
        go_wp2_with fail
        go_round
        case rel => exact ⟨k + 1, by go_num, by omega, hA2.out, hB2.out, HN2⟩
        case measure => simp [intOf]; omega
      · have HF := Lib.hid (HSo2.out t4)
        clear t4 HN HSo2
        go_wp2_with fail
        ((with_reducible refine (HPa.out _).mono ?_))
        rintro e W1 ⟨v, rfl, ⟨⟨vC, vP, rfl, hC1, hP1⟩, hc32, hp32⟩, b1⟩
        obtain ⟨qA, qc, rfl⟩ := own_slice hC1
        obtain ⟨qD, qd, rfl⟩ := own_slice hP1
        obtain ⟨hA1, hB1⟩ := HW.out W1 b1
        have hO : OwnA W1 wr.heap.size a (.slice qA a.cl.length qc) (.slice qD a.pr.length qd) := ⟨hC1, hP1, b1.size, hc32, hp32⟩
        have hO2 := Lib.hid (hO.below ((Below.refl _ _).alloc (Nat.le_refl _) (.cells #[.string a.id, .slice qA a.cl.length qc, .slice qD a.pr.length qd] 25)))
        have hA2 := Blk.alloc hA1 (.cells #[.string a.id, .slice qA a.cl.length qc, .slice qD a.pr.length qd] 25)
        have hB2 := Lib.hid (hB1.alloc hB1.size (.cells #[.string a.id, .slice qA a.cl.length qc, .slice qD a.pr.length qd] 25))
        have hn := Blk.new W1 25 #[.string a.id, .slice qA a.cl.length qc, .slice qD a.pr.length qd]
        have e0 := hn.cell 0
        have e1 := hn.cell 1
        have e2 := hn.cell 2
        have a0 := hA2.cell 0
        have a1 := hA2.cell 1
        have a2 := hA2.cell 2
        have f0 := hA2.frozen 0
        have f1 := hA2.frozen 1
        have f2 := hA2.frozen 2
        have HA2 := Lib.hid hA2
        clear b1 hC1 hP1 hA1 hB1 hA2 hn hO
        go_wp2_with fail
        generalize (W1.alloc (.cells #[.string a.id, .slice qA a.cl.length qc, .slice qD a.pr.length qd] 25)) = W3 at *
        refine wp_region_still_tail 5 (by kernel_rfl) (by kernel_rfl) ?_
        simp only [List.take_succ_cons, List.take_zero, List.drop_succ_cons, List.drop_zero]
        repeat still_step
        still_call (HTr.out _)
        repeat still_step
        refine wpStill_nil ?_
        go_wp2_with fail
        refine attrEnd_ret (Blk.drewN (blk3 HA2.out rfl (.string a.id) (.slice qA a.cl.length qc) (.slice qD a.pr.length qd)) 1) rfl rfl rfl ?_
        rw [HF.out]
        refine ⟨⟨_, _, rfl, ?_⟩, below_drewN (below3 hB2.out (Nat.le_refl _) _ _ _) 1⟩
        exact ownA_low ((ownA_far hO2.out (grown3 W3 w.heap.size (.string a.id) (.slice qA a.cl.length qc) (.slice qD a.pr.length qd)) HLT.out).below (below_drewN (Below.refl _ _) 1)) (Nat.le_of_lt HLT.out)
end Go.Proofs.YthfienjmigidbaaGreatDoor
namespace Go.Proofs.YthfienjmigidbaaGreatDoor
open Go.RowKit Go.Pub

theorem attrEnd_small (s : ByteArray) : SmallA s.size (attrEndR s).2 := by
  unfold attrEndR
  split
  · exact parseL_small s _
  · exact emptyA_small _
theorem mk_trim_le (s : ByteArray) (k : Nat) : (mk (trimS (sfx s k))).size ≤ s.size := by
  rw [mk_size]
  have h1 := trimS_len (sfx s k)
  rw [sfx_len] at h1
  omega
theorem head_small {c : ByteArray} {m : MkL} (h : headM c = some m) : SmallA c.size m.att ∧ m.off = 0 := by
  unfold headM at h
  generalize firstN c (· != 35) = n at h
  by_cases h1 : 1 ≤ n ∧ n ≤ 6
  · rw [if_pos h1] at h
    by_cases h2 : spB (c.extract n c.size) = true
    · rw [if_pos h2] at h
      injection h with h
      subst h
      exact ⟨small_mono (attrEnd_small _) (mk_trim_le c n), rfl⟩
    · rw [if_neg h2] at h; cases h
  · rw [if_neg h1] at h; cases h
theorem div_small {c : ByteArray} {m : MkL} (h : divM c = some m) : SmallA c.size m.att ∧ m.off = 0 := by
  unfold divM at h
  generalize firstN c (· != 58) = n at h
  by_cases h1 : 3 ≤ n
  · rw [if_pos h1] at h
    have hz := mk_trim_le c n
    generalize mk (trimS (sfx c n)) = T at h hz
    unfold divT at h
    by_cases h2 : nameB (T.extract 0 (nameN T)) = true
    · rw [if_pos h2] at h
      cases ho : onlyR (T.extract (nameN T) T.size) with
      | none => rw [ho] at h; cases h
      | some a =>
        rw [ho] at h
        injection h with h
        subst h
        exact ⟨small_mono (onlyR_small _ _ ho) (Nat.le_trans (extract_le _ _ _) hz), rfl⟩
    · rw [if_neg h2] at h; cases h
  · rw [if_neg h1] at h; cases h
theorem rule_small {c : ByteArray} {m : MkL} (h : ruleM c = some m) : m.att = emptyA ∧ m.off = 0 := by
  unfold ruleM at h
  split at h
  · split at h
    · injection h with h; subst h; exact ⟨rfl, rfl⟩
    · cases h
  · cases h
theorem fence_small {c : ByteArray} {ind : Nat} {m : MkL} (h : fenceM c ind = some m) : m.att = emptyA ∧ m.off = ind := by
  unfold fenceM at h
  split at h
  · split at h
    · injection h with h; subst h; exact ⟨rfl, rfl⟩
    · cases h
  · cases h
theorem math_small {c : ByteArray} {m : MkL} (h : mathM c = some m) : m.att = emptyA ∧ m.off = 0 := by
  unfold mathM at h
  split at h
  · injection h with h; subst h; exact ⟨rfl, rfl⟩
  · cases h
theorem defTitle_small {L : ByteArray} {d : List UInt8} {A : ByteArray} {n : Nat} {m : MkL} (h : defTitle L d A n = some m) : m.att = emptyA ∧ m.off = 0 := by
  unfold defTitle at h
  by_cases h1 : A.size = 0
  · rw [if_pos h1] at h; injection h with h; subst h; exact ⟨rfl, rfl⟩
  rw [if_neg h1] at h
  by_cases h2 : A.size = n
  · rw [if_pos h2] at h; cases h
  rw [if_neg h2] at h
  generalize titleR A 0 = o at h
  cases o with
  | none => cases h
  | some p =>
    obtain ⟨t, q⟩ := p
    simp only at h
    by_cases h3 : blankB (A.extract q A.size) = true
    · rw [if_pos h3] at h; injection h with h; subst h; exact ⟨rfl, rfl⟩
    · rw [if_neg h3] at h; cases h
theorem def_small {c : ByteArray} {m : MkL} (h : defM c = some m) : m.att = emptyA ∧ m.off = 0 := by
  unfold defM at h
  by_cases h1 : bt c 0 = 91 ∧ cutB (tl1 c) = true ∧ Lib.hasPrefix (bytesL (cutRest (tl1 c))) [58] = true ∧ labelL (bytesL (cutHead (tl1 c))) ≠ []
  · rw [if_pos h1] at h
    unfold defTail at h
    generalize destR _ 0 = o at h
    cases o with
    | none => cases h
    | some p => exact defTitle_small h
  · rw [if_neg h1] at h; cases h
theorem number_off {c : ByteArray} {ind : Nat} {m : MkL} (h : numberM c ind = some m) : m.att = emptyA ∧ m.off ≤ ind + 11 := by
  unfold numberM numR at h
  generalize numDig c = k at h
  generalize numVal c k = v at h
  by_cases h1 : (1 ≤ k ∧ k ≤ 9 ∧ k < c.size) ∧ (bt c k = 46 ∨ bt c k = 41)
  · rw [if_pos h1] at h
    by_cases h2 : spB (c.extract (k + 1) c.size) = true
    · rw [if_pos h2] at h
      injection h with h
      subst h
      exact ⟨rfl, by show ind + k + 2 ≤ _; omega⟩
    · rw [if_neg h2] at h; cases h
  · rw [if_neg h1] at h; cases h
theorem rdrs_small (c : ByteArray) (ind : Nat) (hi : ind ≤ 3) (m : MkL) (h : some m ∈ rdrs c ind) : SmallA c.size m.att ∧ m.off ≤ c.size + 14 := by
  have E : ∀ {n : Nat}, m.att = emptyA → SmallA n m.att := fun e => by rw [e]; exact emptyA_small _
  unfold rdrs at h
  simp only [List.mem_cons, List.not_mem_nil, or_false] at h
  rcases h with h | h | h | h | h | h | h | h | h | h
  · obtain ⟨h1, h2⟩ := head_small h.symm; exact ⟨h1, by omega⟩
  · obtain ⟨h1, h2⟩ := rule_small h.symm; exact ⟨E h1, by omega⟩
  · obtain ⟨_, rfl⟩ := quote_some h.symm; exact ⟨emptyA_small _, by show ind + c.size - _ ≤ _; omega⟩
  · have := bullet_some h.symm; subst this; exact ⟨emptyA_small _, by show ind + 2 ≤ _; omega⟩
  · obtain ⟨h1, h2⟩ := number_off h.symm; exact ⟨E h1, by omega⟩
  · obtain ⟨h1, h2⟩ := fence_small h.symm; exact ⟨E h1, by omega⟩
  · obtain ⟨h1, h2⟩ := math_small h.symm; exact ⟨E h1, by omega⟩
  · obtain ⟨h1, h2⟩ := div_small h.symm; exact ⟨h1, by omega⟩
  · obtain ⟨_, rfl⟩ := note_some h.symm; exact ⟨emptyA_small _, by show 4 ≤ _; omega⟩
  · obtain ⟨h1, h2⟩ := def_small h.symm; exact ⟨E h1, by omega⟩
theorem mark_small (s : ByteArray) : SmallA s.size (markM s).att ∧ (markM s).off ≤ s.size + 14 := by
  unfold markM
  by_cases hb : blankB s = true
  · rw [if_pos hb]; exact ⟨emptyA_small _, Nat.zero_le _⟩
  rw [if_neg hb]
  unfold markC
  by_cases h3 : 3 < indA s 0
  · rw [if_pos h3]; exact ⟨emptyA_small _, Nat.zero_le _⟩
  rw [if_neg h3]
  cases hf : firstS (rdrs (s.extract (indA s 0) s.size) (indA s 0)) with
  | none => exact ⟨emptyA_small _, Nat.zero_le _⟩
  | some m =>
    obtain ⟨h1, h2⟩ := rdrs_small _ _ (by omega) m (first_mem _ _ hf)
    have hz := extract_le s (indA s 0) s.size
    exact ⟨small_mono h1 hz, by show m.off ≤ _; omega⟩
end Go.Proofs.YthfienjmigidbaaGreatDoor
namespace Go.Proofs.YthfienjmigidbaaGreatDoor
open Go.RowKit Go.Pub

theorem rmk_own {o : Option MkL} {m : MkL} {vC vP : Value} {w w' : World} (ho : o = some m) (h : OwnA w' w.heap.size m.att vC vP) (hb : Below w.heap.size w w') : MkPost (o.getD {}) w (.returned (.agg (m.cells vC vP))) w' := by
  subst ho
  exact ⟨⟨_, rfl, _, _, rfl, h⟩, hb⟩
theorem spB_at (c : ByteArray) (n : Nat) (hn : n ≤ c.size) : spB (c.extract n c.size) = true ↔ ¬ (n < c.size ∧ bt c n ≠ 32) := by
  have hz : (c.extract n c.size).size = c.size - n := by rw [ByteArray.size_extract]; omega
  unfold spB
  rw [Bool.or_eq_true, decide_eq_true_iff, decide_eq_true_iff, hz, ext_eq]
  by_cases h : n < c.size
  · rw [ext_bt c n 0 (by omega)]
    show c.size - n = 0 ∨ bt c n = 32 ↔ _
    constructor
    · rintro (e | e) ⟨_, h2⟩
      · omega
      · exact h2 e
    · intro e
      by_cases h2 : bt c n = 32
      · exact Or.inr h2
      · exact absurd ⟨h, h2⟩ e
  · constructor
    · rintro _ ⟨h1, _⟩; exact h h1
    · intro _; left; omega

set_option maxRecDepth 100000 in
set_option maxHeartbeats 2000000 in
theorem r5_head (c : ByteArray) (w : World) (hs : c.size ≤ 1000000) : Calls Tryz.prog 44 #[.string c] w (MkPost ((headM c).getD {}) w) := by
  have HRn : Hid (∀ W, Calls Tryz.prog 31 #[.string c, .int .i64 0, .int .u8 35] W fun e w' => e = .returned (.int .i64 (firstN c (· != 35))) ∧ W = w') := Lib.hid fun W => r5_run c 35 W hs (by omega)
  have hnl := firstN_le c (· != 35)
  have HR : Hid (headM c = if 1 ≤ firstN c (· != 35) ∧ firstN c (· != 35) ≤ 6 then (if spB (c.extract (firstN c (· != 35)) c.size) = true then some { kind := 2, n := firstN c (· != 35), rest := (attrEndR (mk (trimS (sfx c (firstN c (· != 35)))))).1, att := (attrEndR (mk (trimS (sfx c (firstN c (· != 35)))))).2 } else none) else none) := Lib.hid rfl
  generalize headM c = R at *
  generalize firstN c (· != 35) = n at *
  have hB : Hid (∀ x y z, Below w.heap.size w (w.alloc (.cells x y z))) := Lib.hid fun _ _ _ => (Below.refl _ w).alloc (Nat.le_refl _) _
  by_cases h1 : n < 1
  · have HF : Hid (R = none) := Lib.hid (by rw [HR.out, if_neg (by omega)])
    have y1 : decide ((n : Int) < 1) = true := decide_eq_true (by omega)
    have y2 : decide (n < 1) = true := decide_eq_true h1
    clear HR
    go_enter Tryz.func44, Tryz.ntmps44
    go_wp2_with fail
    ((with_reducible refine (HRn.out _).mono ?_))
    rintro e w0 ⟨rfl, rfl⟩
    go_wp2_with fail
    exact rhead_ret (Blk.new w _ _) rfl rfl (rmk_none HF.out (hB.out _ _ _))
  have y1 : decide ((n : Int) < 1) = false := decide_eq_false (by omega)
  have y2 : decide (n < 1) = false := decide_eq_false h1
  by_cases h6 : 6 < n
  · have HF : Hid (R = none) := Lib.hid (by rw [HR.out, if_neg (by omega)])
    have y3 : decide (6 < (n : Int)) = true := decide_eq_true (by omega)
    have y4 : decide (6 < n) = true := decide_eq_true h6
    clear HR
    go_enter Tryz.func44, Tryz.ntmps44
    go_wp2_with fail
    ((with_reducible refine (HRn.out _).mono ?_))
    rintro e w0 ⟨rfl, rfl⟩
    go_wp2_with fail
    exact rhead_ret (Blk.new w _ _) rfl rfl (rmk_none HF.out (hB.out _ _ _))
  have y3 : decide (6 < (n : Int)) = false := decide_eq_false (by omega)
  have y4 : decide (6 < n) = false := decide_eq_false h6
  have hsp := spB_at c n hnl
  have HR2 : Hid (R = if spB (c.extract n c.size) = true then some { kind := 2, n := n, rest := (attrEndR (mk (trimS (sfx c n)))).1, att := (attrEndR (mk (trimS (sfx c n)))).2 } else none) := Lib.hid (by rw [HR.out, if_pos ⟨by omega, by omega⟩])
  clear HR
  have htest : (∃ h : n < c.size, (((c[n].toNat : Nat) : Int) != 32) = true ∧ decide ((n : Int) < (c.size : Int)) = true ∧ Hid (R = none)) ∨ (((decide ((n : Int) < (c.size : Int)) = false ∧ decide (n < c.size) = false) ∨ ∃ h : n < c.size, (((c[n].toNat : Nat) : Int) != 32) = false ∧ decide ((n : Int) < (c.size : Int)) = true) ∧ Hid (R = some { kind := 2, n := n, rest := (attrEndR (mk (trimS (sfx c n)))).1, att := (attrEndR (mk (trimS (sfx c n)))).2 })) := by
    by_cases h : n < c.size
    · by_cases h2 : bt c n = 32
      · right
        refine ⟨Or.inr ⟨h, by rw [get_bt c n h, h2]; rfl, decide_eq_true (by omega)⟩, Lib.hid (by rw [HR2.out, if_pos (hsp.2 (fun e => e.2 h2))])⟩
      · left
        exact ⟨h, by rw [get_bt c n h, bne_iff_ne]; omega, decide_eq_true (by omega), Lib.hid (by rw [HR2.out, if_neg (fun e => hsp.1 e ⟨h, h2⟩)])⟩
    · right
      exact ⟨Or.inl ⟨decide_eq_false (by omega), decide_eq_false h⟩, Lib.hid (by rw [HR2.out, if_pos (hsp.2 (fun e => h e.1))])⟩
  clear HR2 hsp
  have hxz : (c.extract n c.size).size ≤ 1000000 := by rw [ByteArray.size_extract]; omega
  have HTr : Hid (∀ W, Calls Tryz.prog 91 #[.string (c.extract n c.size)] W fun e w' => e = .returned (.string (mk (trimS (sfx c n)))) ∧ W = w') := Lib.hid fun W => by
    have h := r5_trim (c.extract n c.size) W hxz
    rw [extract_drop, bytesL_mk', ← extract_drop] at h
    exact h
  have htz := mk_trim_le c n
  have HAE := Lib.hid fun W => r5_attrEnd (mk (trimS (sfx c n))) W (by omega)
  generalize attrEndR (mk (trimS (sfx c n))) = AE at *
  generalize mk (trimS (sfx c n)) = T at *
  obtain ⟨rs, a⟩ := AE
  rcases htest with ⟨hlt, z1, z2, HF⟩ | ⟨⟨z2, z3⟩ | ⟨hlt, z1, z2⟩, HF⟩
  · go_enter Tryz.func44, Tryz.ntmps44
    go_wp2_with fail
    ((with_reducible refine (HRn.out _).mono ?_))
    rintro e w0 ⟨rfl, rfl⟩
    go_wp2_with fail
    exact rhead_ret (Blk.new w _ _) rfl rfl (rmk_none HF.out (hB.out _ _ _))
  all_goals
    go_enter Tryz.func44, Tryz.ntmps44
    go_wp2_with fail
    ((with_reducible refine (HRn.out _).mono ?_))
    rintro e w0 ⟨rfl, rfl⟩
    go_wp2_with fail
    ((with_reducible refine (HTr.out _).mono ?_))
    rintro e w0 ⟨rfl, rfl⟩
    go_wp2_with fail
    ((with_reducible refine (HAE.out _).mono ?_))
    rintro e w1 ⟨⟨vC, vP, rfl, ho⟩, b1⟩
    obtain ⟨qA, qc, rfl⟩ := own_slice ho.cls
    obtain ⟨qD, qd, rfl⟩ := own_slice ho.prs
    obtain ⟨HZ1, HB1⟩ := zw_after b1
    have HZ := Blk.alloc HZ1 (.cells #[.string a.id, .slice qA a.cl.length qc, .slice qD a.pr.length qd] 25)
    have HB := HB1.alloc HB1.size (.cells #[.string a.id, .slice qA a.cl.length qc, .slice qD a.pr.length qd] 25)
    have ho2 : OwnA w1 (w.heap.size + 1) a (.slice qA a.cl.length qc) (.slice qD a.pr.length qd) := by
      have e : (zw w).heap.size = w.heap.size + 1 := zw_size w
      rw [← e]; exact ho
    have HO := Lib.hid (ho2.below ((Below.refl _ _).alloc (Nat.le_refl _) (.cells #[.string a.id, .slice qA a.cl.length qc, .slice qD a.pr.length qd] 25)))
    have hn := Blk.new w1 25 #[.string a.id, .slice qA a.cl.length qc, .slice qD a.pr.length qd]
    have e0 := hn.cell 0
    have e1 := hn.cell 1
    have e2 := hn.cell 2
    clear b1 ho ho2 HZ1 HB1 hn
    obtain ⟨k0, k1, k2, k3, k4, k5, k6, k7, k8, k9, k10, v0, v1, v2, v3, v4, v5, v6, v7, v8, v9, v10⟩ := ZM.facts HZ
    go_wp2_with fail
    refine rhead_ret (blk11 HZ _ _ _ _ _ _ _ _ _ _ _) rfl rfl (rmk_own (m := { kind := 2, n := n, rest := rs, att := a }) HF.out ?_ (below11 HB (Nat.le_refl _) _ _ _ _ _ _ _ _ _ _ _))
    exact ownA_low (ownA_far HO.out (grown11 _ _ _ _ _ _ _ _ _ _ _ _ _) (Nat.lt_succ_self _)) (Nat.le_succ _)
end Go.Proofs.YthfienjmigidbaaGreatDoor
namespace Go.Pub
theorem has_next (c : ByteArray) (i : Nat) (h : i < c.size) : (sfx c i).contains 96 = (decide (bt c i = 96) || (sfx c (i + 1)).contains 96) := by
  rw [sfx_cons c i h, List.contains_cons]
  congr 1
  rw [Bool.eq_iff_iff, beq_iff_eq, decide_eq_true_iff]
  constructor
  · intro e; exact (bt_u8 c i 96 (by decide)).1 e.symm
  · intro e; exact ((bt_u8 c i 96 (by decide)).2 e).symm
end Go.Pub
namespace Go.Proofs.YthfienjmigidbaaGreatDoor
open Go.RowKit Go.Pub

set_option maxRecDepth 100000 in
set_option maxHeartbeats 4000000 in
theorem r5_fence (c : ByteArray) (ind : Nat) (w : World) (hs : c.size ≤ 1000000) (h0 : 0 < c.size) (hi : ind ≤ 3) : Calls Tryz.prog 48 #[.string c, .int .i64 ind] w (MkPost ((fenceM c ind).getD {}) w) := by
  have hg := get_bt c 0 h0
  have hb256 := bt_lt c 0
  have HRn := Lib.hid fun W => r5_run c (bt c 0) W hs hb256
  have hnl := firstN_le c (· != bt c 0)
  have HR : Hid (fenceM c ind = if bt c 0 = 96 ∨ bt c 0 = 126 then (if fenceB c (firstN c (· != bt c 0)) = true then some { kind := 7, n := firstN c (· != bt c 0), ch := c.extract 0 1, info := mk (trimS (sfx c (firstN c (· != bt c 0)))), off := ind } else none) else none) := Lib.hid rfl
  generalize fenceM c ind = R at *
  generalize firstN c (· != bt c 0) = n at *
  have hB : Hid (∀ x y z, Below w.heap.size w (w.alloc (.cells x y z))) := Lib.hid fun _ _ _ => (Below.refl _ w).alloc (Nat.le_refl _) _
  have h1 : 1 ≤ c.size := h0
  have h1i : (1 : Int) ≤ (c.size : Int) := by omega
  have hnli : (n : Int) ≤ (c.size : Int) := by omega
  by_cases hq : bt c 0 = 96 ∨ bt c 0 = 126
  case neg =>
    have HF : Hid (R = none) := Lib.hid (by rw [HR.out, if_neg hq])
    have z1 : (((bt c 0 : Nat) : Int) != 96) = true := by rw [bne_iff_ne]; omega
    have z2 : (((bt c 0 : Nat) : Int) != 126) = true := by rw [bne_iff_ne]; omega
    clear HR hq
    go_enter Tryz.func48, Tryz.ntmps48
    go_wp2_with fail
    ((with_reducible refine (HRn.out _).mono ?_))
    rintro e w0 ⟨rfl, rfl⟩
    go_wp2_with fail
    exact rfence_ret (Blk.new w _ _) rfl rfl (rmk_none HF.out (hB.out _ _ _))
  have HFB : Hid (fenceB c n = (decide (3 ≤ n) && !(decide (bt c 0 = 96) && (sfx c n).contains 96))) := Lib.hid rfl
  have HR2 : Hid (R = if fenceB c n = true then some { kind := 7, n := n, ch := c.extract 0 1, info := mk (trimS (sfx c n)), off := ind } else none) := Lib.hid (by rw [HR.out, if_pos hq])
  clear HR
  generalize fenceB c n = FB at *
  have hcase : ((((bt c 0 : Nat) : Int) != 96) = false ∧ (((bt c 0 : Nat) : Int) == 96) = true ∧ bt c 0 = 96) ∨ ((((bt c 0 : Nat) : Int) != 96) = true ∧ (((bt c 0 : Nat) : Int) != 126) = false ∧ (((bt c 0 : Nat) : Int) == 96) = false ∧ bt c 0 = 126) := by
    rcases hq with h | h
    · left; exact ⟨by rw [h]; rfl, by rw [h]; rfl, h⟩
    · right; exact ⟨by rw [h]; rfl, by rw [h]; rfl, by rw [h]; rfl, h⟩
  clear hq
  by_cases h3 : n < 3
  · have HF : Hid (R = none) := Lib.hid (by rw [HR2.out, HFB.out, decide_eq_false (by omega)]; rfl)
    have d1 : decide ((n : Int) < 3) = true := decide_eq_true (by omega)
    have d2 : decide (n < 3) = true := decide_eq_true h3
    clear HR2 HFB
    rcases hcase with ⟨z1, z2, z3⟩ | ⟨z1, z2, z3, z4⟩
    · have HRn : Hid (∀ W, Calls Tryz.prog 31 #[.string c, .int .i64 0, .int .u8 96] W fun e w' => e = .returned (.int .i64 n) ∧ W = w') := Lib.hid fun W => by have h := HRn.out W; rw [z3] at h; exact h
      go_enter Tryz.func48, Tryz.ntmps48
      go_wp2_with fail
      ((with_reducible refine (HRn.out _).mono ?_))
      rintro e w0 ⟨rfl, rfl⟩
      go_wp2_with fail
      exact rfence_ret (Blk.new w _ _) rfl rfl (rmk_none HF.out (hB.out _ _ _))
    · have HRn : Hid (∀ W, Calls Tryz.prog 31 #[.string c, .int .i64 0, .int .u8 126] W fun e w' => e = .returned (.int .i64 n) ∧ W = w') := Lib.hid fun W => by have h := HRn.out W; rw [z4] at h; exact h
      go_enter Tryz.func48, Tryz.ntmps48
      go_wp2_with fail
      ((with_reducible refine (HRn.out _).mono ?_))
      rintro e w0 ⟨rfl, rfl⟩
      go_wp2_with fail
      exact rfence_ret (Blk.new w _ _) rfl rfl (rmk_none HF.out (hB.out _ _ _))
  have d1 : decide ((n : Int) < 3) = false := decide_eq_false (by omega)
  have d2 : decide (n < 3) = false := decide_eq_false h3
  rw [decide_eq_true (show 3 ≤ n by omega), Bool.true_and] at HFB
  have hxz : (c.extract n c.size).size ≤ 1000000 := by rw [ByteArray.size_extract]; omega
  have HTr : Hid (∀ W, Calls Tryz.prog 91 #[.string (c.extract n c.size)] W fun e w' => e = .returned (.string (mk (trimS (sfx c n)))) ∧ w' = W) := Lib.hid fun W => by
    have h := r5_trim (c.extract n c.size) W hxz
    rw [extract_drop, bytesL_mk', ← extract_drop] at h
    exact h.mono fun e w' hh => ⟨hh.1, hh.2.symm⟩
  generalize mk (trimS (sfx c n)) = T at *
  have HZ0 : Hid (ZM (w.alloc (.cells #[.int .i64 0, .int .i64 0, .string ⟨#[]⟩, .int .i64 0, .string ⟨#[]⟩, .string ⟨#[]⟩, .string ⟨#[]⟩, .string ⟨#[]⟩, .string ⟨#[]⟩, .slice none 0 0, .slice none 0 0] 27)) w.heap.size) := Lib.hid (Blk.new w _ _)
  rcases hcase with ⟨z1, z2, z3⟩ | ⟨z1, z2, z2', z3⟩
  · have HRn : Hid (∀ W, Calls Tryz.prog 31 #[.string c, .int .i64 0, .int .u8 96] W fun e w' => e = .returned (.int .i64 n) ∧ W = w') := Lib.hid fun W => by have h := HRn.out W; rw [z3] at h; exact h
    have HFB2 : Hid (FB = !((sfx c n).contains 96)) := Lib.hid (by rw [HFB.out, decide_eq_true z3]; rfl)
    clear HFB
    go_enter Tryz.func48, Tryz.ntmps48
    go_wp2_with fail
    ((with_reducible refine (HRn.out _).mono ?_))
    rintro e w0 ⟨rfl, rfl⟩
    go_wp2_with fail
    go_loop [6] (fun v => ∃ k : Nat, v = .int .i64 k ∧ k ≤ c.size ∧ Hid (FB = !((sfx c k).contains 96))) (fun v => c.size - (intOf v).toNat)
    case atStart => exact ⟨n, rfl, hnl, HFB2⟩
    case round =>
      obtain ⟨k, rfl, hks, Hk⟩ := hrel
      clear HFB2
      by_cases hlt : k < c.size
      · have hgk := get_bt c k hlt
        have hn := has_next c k hlt
        by_cases hc : bt c k = 96
        · have HF : Hid (R = none) := Lib.hid (by rw [HR2.out, Hk.out, hn, decide_eq_true hc]; rfl)
          have y1 : (((c[k].toNat : Nat) : Int) == 96) = true := by rw [hgk, hc]; rfl
          clear HR2 Hk hn hc hgk
          go_wp2_with fail
          exact rfence_ret (Blk.new w _ _) rfl rfl (rmk_none HF.out (hB.out _ _ _))
        · have HN : Hid (FB = !((sfx c (k + 1)).contains 96)) := Lib.hid (by rw [Hk.out, hn, decide_eq_false hc]; rfl)
          have y1 : (((c[k].toNat : Nat) : Int) == 96) = false := by rw [hgk, beq_eq_false_iff_ne]; omega
          clear Hk hn hc hgk
          go_wp2_with fail
          go_round
          case rel => exact ⟨k + 1, by go_num, by omega, HN⟩
          case measure => simp [intOf]; omega
      · obtain rfl : k = c.size := by omega
        have HF : Hid (R = some { kind := 7, n := n, ch := c.extract 0 1, info := T, off := ind }) := Lib.hid (by rw [HR2.out, Hk.out, sfx_nil c _ (Nat.le_refl _)]; rfl)
        have HZ := HZ0.out
        obtain ⟨k0, k1, k2, k3, k4, k5, k6, k7, k8, k9, k10, y0, y1, y2, y3, y4, y5, y6, y7, y8, y9, y10⟩ := ZM.facts HZ
        have HB := Lib.hid (hB.out #[.int .i64 0, .int .i64 0, .string ⟨#[]⟩, .int .i64 0, .string ⟨#[]⟩, .string ⟨#[]⟩, .string ⟨#[]⟩, .string ⟨#[]⟩, .string ⟨#[]⟩, .slice none 0 0, .slice none 0 0] 27 (0, 0))
        clear HR2 Hk
        go_wp2_with fail
        generalize w.alloc (.cells #[.int .i64 0, .int .i64 0, .string ⟨#[]⟩, .int .i64 0, .string ⟨#[]⟩, .string ⟨#[]⟩, .string ⟨#[]⟩, .string ⟨#[]⟩, .string ⟨#[]⟩, .slice none 0 0, .slice none 0 0] 27) = W3 at *
        refine wp_region_still_tail 9 (by kernel_rfl) (by kernel_rfl) ?_
        simp only [List.take_succ_cons, List.take_zero, List.drop_succ_cons, List.drop_zero]
        repeat still_step
        still_call (HTr.out _)
        repeat still_step
        refine wpStill_nil ?_
        go_wp2_with fail
        exact rfence_ret (Blk.drewN (blk11 HZ _ _ _ _ _ _ _ _ _ _ _) 1) rfl rfl (rmk_plain (m := { kind := 7, n := n, ch := c.extract 0 1, info := T, off := ind }) HF.out rfl (below_drewN (below11 HB.out (Nat.le_refl _) _ _ _ _ _ _ _ _ _ _ _) 1))
  · have HRn : Hid (∀ W, Calls Tryz.prog 31 #[.string c, .int .i64 0, .int .u8 126] W fun e w' => e = .returned (.int .i64 n) ∧ W = w') := Lib.hid fun W => by have h := HRn.out W; rw [z3] at h; exact h
    have HFB2 : Hid (FB = true) := Lib.hid (by rw [HFB.out, decide_eq_false (by omega)]; rfl)
    have HF : Hid (R = some { kind := 7, n := n, ch := c.extract 0 1, info := T, off := ind }) := Lib.hid (by rw [HR2.out, HFB2.out]; rfl)
    clear HFB HR2
    go_enter Tryz.func48, Tryz.ntmps48
    go_wp2_with fail
    ((with_reducible refine (HRn.out _).mono ?_))
    rintro e w0 ⟨rfl, rfl⟩
    go_wp2_with fail
    go_loop [6] (fun v => ∃ k : Nat, v = .int .i64 k ∧ k ≤ c.size) (fun v => c.size - (intOf v).toNat)
    case atStart => exact ⟨n, rfl, hnl⟩
    case round =>
      obtain ⟨k, rfl, hks⟩ := hrel
      by_cases hlt : k < c.size
      · go_wp2_with fail
        go_round
        case rel => exact ⟨k + 1, by go_num, by omega⟩
        case measure => simp [intOf]; omega
      · obtain rfl : k = c.size := by omega
        have HZ := HZ0.out
        obtain ⟨k0, k1, k2, k3, k4, k5, k6, k7, k8, k9, k10, y0, y1, y2, y3, y4, y5, y6, y7, y8, y9, y10⟩ := ZM.facts HZ
        have HB := Lib.hid (hB.out #[.int .i64 0, .int .i64 0, .string ⟨#[]⟩, .int .i64 0, .string ⟨#[]⟩, .string ⟨#[]⟩, .string ⟨#[]⟩, .string ⟨#[]⟩, .string ⟨#[]⟩, .slice none 0 0, .slice none 0 0] 27 (0, 0))
        go_wp2_with fail
        generalize w.alloc (.cells #[.int .i64 0, .int .i64 0, .string ⟨#[]⟩, .int .i64 0, .string ⟨#[]⟩, .string ⟨#[]⟩, .string ⟨#[]⟩, .string ⟨#[]⟩, .string ⟨#[]⟩, .slice none 0 0, .slice none 0 0] 27) = W3 at *
        refine wp_region_still_tail 9 (by kernel_rfl) (by kernel_rfl) ?_
        simp only [List.take_succ_cons, List.take_zero, List.drop_succ_cons, List.drop_zero]
        repeat still_step
        still_call (HTr.out _)
        repeat still_step
        refine wpStill_nil ?_
        go_wp2_with fail
        exact rfence_ret (Blk.drewN (blk11 HZ _ _ _ _ _ _ _ _ _ _ _) 1) rfl rfl (rmk_plain (m := { kind := 7, n := n, ch := c.extract 0 1, info := T, off := ind }) HF.out rfl (below_drewN (below11 HB.out (Nat.le_refl _) _ _ _ _ _ _ _ _ _ _ _) 1))
end Go.Proofs.YthfienjmigidbaaGreatDoor
