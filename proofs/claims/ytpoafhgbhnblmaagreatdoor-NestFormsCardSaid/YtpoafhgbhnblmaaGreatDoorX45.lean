/-
  Texts of the proof, put together (what this law reaches): NfM, NsXA, NfN.
-/
import Derived.Test.YtpoafhgbhnblmaaGreatDoorX30
import Derived.Test.YtpoafhgbhnblmaaGreatDoorX22
import Derived.Test.YtpoafhgbhnblmaaGreatDoorX20
import Derived.Test.YtpoafhgbhnblmaaGreatDoorX25
import Derived.Test.YtpoafhgbhnblmaaGreatDoorX43
import Derived.Test.YtpoafhgbhnblmaaGreatDoorX31
import Derived.Test.YtpoafhgbhnblmaaGreatDoorX28
import Derived.Test.YtpoafhgbhnblmaaGreatDoorX12
import Derived.RangeFuncNested
import Derived.RangeFuncBound
import Derived.RangeFuncCalls
import Derived.RangeFuncLeaves
import Derived.OwnWalkIn
import Derived.TacticsInMore
import Derived.Laws.OwnMore
set_option linter.unusedVariables false
set_option linter.unusedSimpArgs false
namespace Go.Proofs.YtpoafhgbhnblmaaGreatDoor
open Go.RowKit Go.Pub
theorem trimR_cons (t : List UInt8) : trimR (32 :: t) = if trimR t = [] then [] else 32 :: trimR t := by
  unfold trimR
  rw [List.reverse_cons, List.dropWhile_append]
  by_cases h : t.reverse.dropWhile (· == 32) = []
  · rw [h]; rfl
  · have : (t.reverse.dropWhile (· == 32)).isEmpty = false := by rw [List.isEmpty_eq_false_iff]; exact h
    rw [this]
    simp [h]
theorem trimB_S (l : List UInt8) : Lib.trimB l 32 = trimS l := by
  show trimF (trimR l) = trimR (trimF l)
  induction l with
  | nil => rfl
  | cons c t ih =>
    by_cases hc : c = 32
    · subst hc
      rw [trimF_sp, ← ih, trimR_cons]
      by_cases h : trimR t = []
      · rw [if_pos h, h]
      · rw [if_neg h, trimF_sp]
    · rw [trimF_no _ _ hc]
      rcases (trimR_pre _ (c :: t) (Nat.le_refl _)).2 with h | h
      · cases hr : trimR (c :: t) with
        | nil => rfl
        | cons d r =>
          rw [hr] at h
          have : d = c := by simpa using h
          rw [this, trimF_no _ _ hc]
      · rw [h]; rfl
theorem triL_ind : ∀ l : List UInt8, triL l = l.drop (indN l)
  | [] => rfl
  | c :: l => by
    rw [triL_cons]
    unfold indN
    by_cases hc : c = 32
    · rw [if_pos hc, if_pos hc, triL_ind l]; rfl
    · rw [if_neg hc, if_neg hc]; rfl
theorem triB_ind (z : ByteArray) : triB z = mk (sfx z (indA z 0)) := by
  unfold triB
  rw [triL_ind]
  show _ = mk ((bytesL z).drop (0 + indN (sfx z 0)))
  rw [Nat.zero_add]; rfl
set_option maxRecDepth 100000 in
set_option maxHeartbeats 4000000 in
theorem f_closesMath (z : ByteArray) (w : World) (hs : z.size ≤ 1000000) : Calls Tryz.prog 93 #[.string z] w fun e w' => e = .returned (.bool (cloB z)) ∧ Below w.heap.size w w' := by
  have hil := indA_le z
  have HTl : Hid (∀ W, Calls Tryz.prog 113 #[.string z, .string ⟨#[32]⟩] W fun e w' => e = .returned (.string (triB z)) ∧ W = w') := Lib.hid fun W => trim_any z W
  have hcz : (triB z).size = z.size - indA z 0 := by rw [triB_ind, mk_size, sfx_len]
  have hcb : bytesL (triB z) = sfx z (indA z 0) := by rw [triB_ind, bytesL_mk']
  have hc2 : sfx (triB z) 2 = sfx z (indA z 0 + 2) := by
    show (bytesL (triB z)).drop 2 = _
    rw [hcb]; unfold sfx; rw [List.drop_drop]
  obtain ⟨R, hn⟩ : ∃ R, R = cloB z := ⟨_, rfl⟩
  rw [← hn]
  unfold cloB at hn
  generalize indA z 0 = i at *
  generalize triB z = c at *
  have hcle : c.size ≤ z.size := by omega
  have hdi : ∀ b, decide (3 < i) = b → decide (3 < (z.size : Int) - (c.size : Int)) = b := fun b h => by
    rw [← h]; exact decide_eq_decide.2 (by omega)
  clear hcz
  by_cases h3 : 3 < i
  · have d1 : decide (3 < (z.size : Int) - (c.size : Int)) = true := hdi _ (decide_eq_true h3)
    have HF : R = false := by rw [hn, decide_eq_false (by omega), Bool.false_and]
    subst HF
    clear hn hcb hc2 hdi h3
    go_enter Tryz.func93, Tryz.ntmps93
    go_wp2_with fail
    ((with_reducible refine (HTl.out _).mono ?_))
    rintro e w' ⟨rfl, rfl⟩
    go_wp2_with fail
    go_ret
    exact ⟨rfl, Below.refl _ _⟩
  rw [decide_eq_true (by omega : i ≤ 3), Bool.true_and] at hn
  have d1 : decide (3 < (z.size : Int) - (c.size : Int)) = false := hdi _ (decide_eq_false h3)
  have HP : Hid (∀ W, Calls Tryz.prog 108 #[.string c, .string ⟨#[36, 36]⟩] W fun e w' => e = .returned (.bool (Lib.hasPrefix (bytesL c) [36, 36])) ∧ W = w') := Lib.hid fun W => (Tryz.strings_HasPrefix c ⟨#[36, 36]⟩ W).mono (by rintro e w' ⟨rfl, rfl⟩; exact ⟨rfl, rfl⟩)
  rw [← hcb] at hn
  have hpl : Lib.hasPrefix (bytesL c) [36, 36] = true → 2 ≤ c.size := fun h => by have := pre_len h; simpa using this
  generalize Lib.hasPrefix (bytesL c) [36, 36] = p at *
  cases p with
  | false =>
    have HF : R = false := by rw [hn]; rfl
    subst HF
    clear hn hcb hc2 hdi h3 hpl
    go_enter Tryz.func93, Tryz.ntmps93
    go_wp2_with fail
    ((with_reducible refine (HTl.out _).mono ?_))
    rintro e w' ⟨rfl, rfl⟩
    go_wp2_with fail
    ((with_reducible refine (HP.out _).mono ?_))
    rintro e w' ⟨rfl, rfl⟩
    go_wp2_with fail
    go_ret
    exact ⟨rfl, Below.refl _ _⟩
  | true =>
    have h2 := hpl rfl
    rw [Bool.true_and] at hn
    have hxz : (c.extract 2 c.size).size ≤ 1000000 := by rw [ByteArray.size_extract]; omega
    have hTm : ∀ W, Calls Tryz.prog 94 #[.string (c.extract 2 c.size), .string ⟨#[32]⟩] W fun e w' => e = .returned (.string (mk (trimS (sfx c 2)))) ∧ Below W.heap.size W w' := fun W => by
      refine (Tryz.strings_Trim_one (c.extract 2 c.size) 32 (by decide) W (by omega)).mono ?_
      have e1 : Lib.trimB (c.extract 2 c.size).data.toList 32 = trimS (sfx c 2) := by
        rw [trimB_S]
        show trimS (bytesL (c.extract 2 c.size)) = _
        rw [extract_drop, bytesL_mk']
      rintro e w' ⟨rfl, rfl | h⟩
      · exact ⟨by rw [e1]; rfl, Below.refl _ _⟩
      · exact ⟨by rw [e1]; rfl, by rw [h]; exact (Below.refl _ _).drew⟩
    have HT := Lib.hid hTm
    have hon : R = (onlyR (mk (sfx c 2))).isSome := by rw [hc2]; exact hn
    have htz : (mk (trimS (sfx c 2))).size ≤ 1000000 := by rw [mk_size]; have := trimS_len (sfx c 2); rw [sfx_len] at this; omega
    unfold onlyR at hon
    rw [bytesL_mk'] at hon
    clear hn hTm hcb hc2 hpl hdi h3
    generalize mk (trimS (sfx c 2)) = T at *
    by_cases h0 : T.size = 0
    · rw [if_pos h0] at hon
      have HF : R = true := hon
      subst HF
      have hT0 := empty_of h0
      subst hT0
      clear hon h0
      go_enter Tryz.func93, Tryz.ntmps93
      go_wp2_with fail
      ((with_reducible refine (HTl.out _).mono ?_))
      rintro e w' ⟨rfl, rfl⟩
      go_wp2_with fail
      ((with_reducible refine (HP.out _).mono ?_))
      rintro e w' ⟨rfl, rfl⟩
      go_wp2_with fail
      ((with_reducible refine (HT.out _).mono ?_))
      rintro e W1 ⟨rfl, b1⟩
      go_wp2_with fail
      go_ret
      exact ⟨rfl, b1⟩
    rw [if_neg h0] at hon
    obtain ⟨x1, x2⟩ := cons_list T (fun e => h0 ((size_nil T).2 e))
    have HPa := Lib.hid fun W => parse_any W T 0 htz
    generalize parseL T 0 = pr at *
    obtain ⟨a, t, n⟩ := pr
    simp only at hon
    have htest : (((n : Int) == 0) = false ∧ R = false) ∨ (((n : Int) == 0) = true ∧ (t == T.size) = false ∧ ((t : Int) == (T.size : Int)) = false ∧ R = false) ∨ (((n : Int) == 0) = true ∧ (t == T.size) = true ∧ ((t : Int) == (T.size : Int)) = true ∧ R = true) := by
      by_cases h1 : n = 0
      · by_cases h2 : t = T.size
        · rw [if_pos ⟨h1, h2⟩] at hon
          right; right; exact ⟨by rw [beq_iff_eq]; omega, by rw [beq_iff_eq]; exact h2, by rw [beq_iff_eq]; omega, hon⟩
        · rw [if_neg (fun h => h2 h.2)] at hon
          right; left; exact ⟨by rw [beq_iff_eq]; omega, by rw [beq_eq_false_iff_ne]; exact h2, by rw [beq_eq_false_iff_ne]; omega, hon⟩
      · rw [if_neg (fun h => h1 h.1)] at hon
        left; exact ⟨by rw [beq_eq_false_iff_ne]; omega, hon⟩
    clear hon h0
    rcases htest with ⟨e1, rfl⟩ | ⟨e1, e2, e3, rfl⟩ | ⟨e1, e2, e3, rfl⟩
    all_goals
      go_enter Tryz.func93, Tryz.ntmps93
      go_wp2_with fail
      ((with_reducible refine (HTl.out _).mono ?_))
      rintro e w' ⟨rfl, rfl⟩
      go_wp2_with fail
      ((with_reducible refine (HP.out _).mono ?_))
      rintro e w' ⟨rfl, rfl⟩
      go_wp2_with fail
      ((with_reducible refine (HT.out _).mono ?_))
      rintro e W1 ⟨rfl, b1⟩
      go_wp2_with fail
      ((with_reducible refine (HPa.out _).mono ?_))
      rintro e W2 ⟨v, rfl, ⟨⟨vC, vP, rfl, hC1, hP1⟩, hc32, hp32⟩, b2⟩
      obtain ⟨qA, qc, rfl⟩ := own_slice hC1
      obtain ⟨qD, qd, rfl⟩ := own_slice hP1
      have HB := Lib.hid ((b1.trans (b2.mono b1.size)).alloc (b1.trans (b2.mono b1.size)).size (.cells #[.string a.id, .slice qA a.cl.length qc, .slice qD a.pr.length qd] 43))
      clear hC1 hP1 b1 b2
      go_wp2_with fail
      go_ret
      exact ⟨rfl, HB.out⟩

end Go.Proofs.YtpoafhgbhnblmaaGreatDoor
namespace Go.Proofs.YtpoafhgbhnblmaaGreatDoor
open Go.RowKit Go.Pub
def exL1 : List ByteArray := [⟨#[45, 32, 97]⟩, ⟨#[32, 32, 45, 32, 98]⟩]
def exL2 : List ByteArray := [⟨#[97]⟩, ⟨#[]⟩, ⟨#[35, 32, 84]⟩]
def exB1 : List BkT := [.mk 7 0 ⟨#[]⟩ ⟨#[]⟩ ⟨#[]⟩ ⟨#[]⟩ emptyA ⟨#[]⟩ [kidB 9 [leafB 1 ⟨#[97]⟩, .mk 7 0 ⟨#[]⟩ ⟨#[]⟩ ⟨#[]⟩ ⟨#[]⟩ emptyA ⟨#[]⟩ [kidB 9 [leafB 1 ⟨#[98]⟩]]]]]
theorem ex_b1 : blocksN 16 exL1 = some (exB1, [(0, 2)]) := by kernel_rfl
theorem ex_b2 : (blocksN 16 exL2).map (·.2) = some [(0, 1), (2, 3)] := by kernel_rfl
end Go.Proofs.YtpoafhgbhnblmaaGreatDoor
namespace Go.Proofs.YtpoafhgbhnblmaaGreatDoor
open Go.RowKit Go.Pub
attribute [local go_sem] Oper.semAt_some
theorem join_text (ls : List ByteArray) (h : ClnL ls) : (mk (joinN ls)).size ≤ 1000000 ∧ ((mk (joinN ls)).size = 0 ∨ (validB (mk (joinN ls)) = true ∧ bt (mk (joinN ls)) ((mk (joinN ls)).size - 1) = 10)) := by
  have h1 := joinN_len ls 150 h.sz ls.length
  rw [List.take_length] at h1
  have h2 := h.len
  have h3 : ls.length * (150 + 1) ≤ 60 * 151 := Nat.mul_le_mul h2 (Nat.le_refl _)
  refine ⟨by rw [mk_size]; omega, ?_⟩
  rcases List.eq_nil_or_concat ls with rfl | ⟨l', z, rfl⟩
  · left; rfl
  · right
    have hg : ∀ l : List ByteArray, (∀ z ∈ l, lnP (bytesL z)) → gdP (joinN l) := fun l => by
      induction l with
      | nil => intro _; exact gd_nil
      | cons y l ih =>
        intro hl
        show gdP ((bytesL y ++ [10]) ++ joinN l)
        exact gd_app (gd_app (hl y List.mem_cons_self).1 (gd_one (x := 10) (by decide) (by decide))) (ih fun x hx => hl x (List.mem_cons_of_mem _ hx))
    refine ⟨hg _ h.lns, ?_⟩
    have e : joinN (l'.concat z) = (joinN l' ++ bytesL z) ++ [10] := by
      unfold joinN
      rw [List.concat_eq_append, List.flatMap_append]
      simp
    rw [e, mk_size, List.length_append, List.length_singleton, Nat.add_sub_cancel]
    have h0 := bytesL_at (mk ((joinN l' ++ bytesL z) ++ [10])) (joinN l' ++ bytesL z).length (by rw [mk_size]; simp only [List.length_append, List.length_singleton]; omega)
    rw [bytesL_mk', List.getElem?_append_right (Nat.le_refl _), Nat.sub_self] at h0
    injection h0 with h0
    show ((mk ((joinN l' ++ bytesL z) ++ [10])).get! (joinN l' ++ bytesL z).length).toNat = 10
    rw [← h0]; rfl
theorem cloB_nil : cloB ⟨#[]⟩ = false := by decide +kernel
/-- No part of the text closes a formula. -/
theorem parts_open (ls : List ByteArray) (hc : ClnL ls) (hn : ∀ z ∈ ls, cloB z = false) : ∀ p ∈ lfL (bytesL (mk (joinN ls))), cloB (toStrQ p).1 = false := by
  intro p hp
  rw [bytesL_mk'] at hp
  have e := lf_join ls fun z hz b hb => (hc.lns z hz).2 b hb
  unfold joinN at hp
  rw [e] at hp
  rcases List.mem_append.1 hp with hp | hp
  · obtain ⟨z, hz, rfl⟩ := List.mem_map.1 hp
    rw [toStrQ_val _ (by rw [bytesL_length]; have := hc.sz z hz; omega), mk_bytesL]
    exact hn z hz
  · rw [List.mem_singleton] at hp
    subst hp
    rw [toStrQ_val _ (by decide)]
    exact cloB_nil
set_option maxRecDepth 100000 in
set_option maxHeartbeats 4000000 in
theorem f_math (g off : Nat) (ls : List ByteArray) (lv : Nat) (i d ti : ByteArray) (a : AttrL) (A1 : Option Addr) (c1 : Nat) (A2 : Option Addr) (c2 : Nat) (AL : Option Addr) (nL cL : Nat) (A4 : Option Addr) (n4 c4 : Nat) (w : World) (h : CellB w g off 4 lv i (mk (joinN ls)) d ti a A1 c1 A2 c2 AL nL cL A4 n4 c4)
    (hA : ReadA w w.heap.size a A1 c1 A2 c2) (ha : checkE a = 0) (hc : ClnL ls) (hn : ∀ z ∈ ls, cloB z = false) :
    Calls Tryz.prog 48 #[.pointer (some ⟨g, off, none⟩)] w fun e w' => e = .returned (.int .i64 0) ∧ Below w.heap.size w w' := by
  obtain ⟨hs, htx⟩ := join_text ls hc
  have HOp := Lib.hid (parts_open ls hc hn)
  have HTx : Hid (∀ W, Calls Tryz.prog 47 #[.string (mk (joinN ls))] W fun e w' => e = .returned (.bool true) ∧ Below W.heap.size W w') := Lib.hid fun W => f_cleanText _ W hs htx
  have HS := Lib.hid fun W => split_lf (mk (joinN ls)) W
  have HCk : Hid (∀ W, Below w.heap.size w W → Calls Tryz.prog 52 #[.agg #[.string a.id, .slice A1 a.cl.length c1, .slice A2 a.pr.length c2]] W fun e w' => e = .returned (.int .i64 0) ∧ Below W.heap.size W w') := Lib.hid fun W hW => by
    have := check_any W a A1 c1 A2 c2 w.heap.size ⟨hA.cls.below hW, hA.prs.below hW, hW.size, hA.nc, hA.np, hA.sid, hA.scl, hA.spr⟩
    rw [ha] at this
    exact this
  have HC : Hid (∀ W, Below w.heap.size w W → CellB W g off 4 lv i (mk (joinN ls)) d ti a A1 c1 A2 c2 AL nL cL A4 n4 c4) := Lib.hid fun W hW => h.below hW
  clear hA ha hc hn htx h
  generalize mk (joinN ls) = T at *
  have hb0 := (Below.refl _ w).alloc (Nat.le_refl _) (.cells #[.int .i64 0] 26)
  obtain ⟨q0, q1, q2, q3, q4, q5, q6, q7, q8, q9, q10⟩ := HC.out _ hb0
  have HB0 := Lib.hid hb0
  clear hb0
  refine (callsIn_wide (n := 5)).1 ?_
  refine callsIn_of_wp_marks Tryz.func48 rfl trivial ?_ rfl
  simp only [Tryz.ntmps48, List.size_toArray, List.length_cons, List.length_nil, Nat.reduceAdd, Nat.reduceSub, Array.replicate_succ, Array.replicate_zero, List.push_toArray, List.append_toArray, List.nil_append, List.cons_append]
  gi_wp2_with fail
  refine ⟨trivial, ?_⟩
  ((with_reducible refine (callsIn_wide.2 (HTx.out _)).mono ?_))
  rintro e W1 ⟨rfl, b1⟩
  have hr0 := Boxed.new w 26 (.int .i64 0)
  have R0 : Boxed W1 w.heap.size 26 (.int .i64 0) := (b1.block _ (by simp)).trans hr0
  have QB : Below w.heap.size w W1 := HB0.out.trans (b1.mono HB0.out.size)
  have z1 := R0.lt
  obtain ⟨p0, p1, p2, p3, p4, p5, p6, p7, p8, p9, p10⟩ := HC.out _ QB
  clear q0 q1 q2 q3 q4 q5 q6 q7 q8 q9 q10 hr0 b1
  gi_wp2_with fail
  refine ⟨trivial, ?_⟩
  ((with_reducible refine (callsIn_wide.2 (HS.out _)).mono ?_))
  rintro e W2 ⟨rfl, rfl⟩
  gi_wp2_with fail
  have SB : SqL W1.heap.size (W1.heap.size + 1) (W1.heap.size + 2) T (((W1.alloc (.cells #[.string T] 9)).alloc (.cells #[.string ⟨#[10]⟩] 9)).alloc (.cells #[.int .i64 0] 3)) := by
    have x1 := Boxed.new W1 9 (.string T)
    have x2 := Boxed.new (W1.alloc (.cells #[.string T] 9)) 9 (.string ⟨#[10]⟩)
    have x3 := Boxed.new ((W1.alloc (.cells #[.string T] 9)).alloc (.cells #[.string ⟨#[10]⟩] 9)) 3 (.int .i64 0)
    simp only [World.size_alloc] at x1 x2 x3
    exact ⟨(x1.alloc _).alloc _, x2.alloc _, x3⟩
  have RX0 : Boxed (((W1.alloc (.cells #[.string T] 9)).alloc (.cells #[.string ⟨#[10]⟩] 9)).alloc (.cells #[.int .i64 0] 3)) w.heap.size 26 (.int .i64 0) := ((R0.alloc _).alloc _).alloc _
  have QX : Below w.heap.size w (((W1.alloc (.cells #[.string T] 9)).alloc (.cells #[.string ⟨#[10]⟩] 9)).alloc (.cells #[.int .i64 0] 3)) := ((QB.alloc QB.size _).alloc (by have := QB.size; simp; omega) _).alloc (by have := QB.size; simp; omega) _
  have zX : (((W1.alloc (.cells #[.string T] 9)).alloc (.cells #[.string ⟨#[10]⟩] 9)).alloc (.cells #[.int .i64 0] 3)).heap.size = W1.heap.size + 3 := by simp
  generalize (((W1.alloc (.cells #[.string T] 9)).alloc (.cells #[.string ⟨#[10]⟩] 9)).alloc (.cells #[.int .i64 0] 3)) = X at *
  clear R0 p0 p1 p2 p3 p4 p5 p6 p7 p8 p9 p10
  refine range_stepsL rfl (by omega) (gf := 199) (lb := #[.pointer (some ⟨W1.heap.size + 1, 0, none⟩), .pointer (some ⟨W1.heap.size, 0, none⟩), .pointer (some ⟨W1.heap.size + 2, 0, none⟩)]) rfl trivial (enters_of Tryz.func199 (by kernel_rfl) rfl)
    (Kp := KpL W1.heap.size (W1.heap.size + 1) (W1.heap.size + 2)) (St := StL W1.heap.size) (lf_stops 4 (by omega) W1.heap.size (W1.heap.size + 1) (W1.heap.size + 2) (by omega) (by omega) T hs _ SB)
    (fun h1 h2 => ⟨h2.1.trans h1.1, h2.2.1.trans h1.2.1, h2.2.2.trans h1.2.2⟩)
    (fun W l o o' hl ho hc _ => ⟨World.putObj_heap_other (by omega), World.putObj_heap_other (by omega), World.putObj_heap_other (by omega)⟩) (fun _ => rfl)
    (fun (pre : List StrQ) W => Boxed W w.heap.size 26 (.int .i64 0) ∧ Below w.heap.size X W)
    (fun c pre W => ∃ x ∈ pre, cloB x.1 = true)
    (OwnFrom.and (Own.from (boxed_own w.heap.size 26 (fun _ => .int .i64 0)) _) (ownFrom_below QX.size QX.size))
    (fun c => (fun _ _ _ _ hs _ _ => hs))
    (fun pre A B h hst => by
      obtain ⟨v, rfl⟩ := hst
      exact ⟨h.1.other (by omega) _, h.2.setCell (p := ⟨W1.heap.size, 0, none⟩) (by show w.heap.size ≤ W1.heap.size; omega) _⟩)
    (fun A B hst k hk => by
      obtain ⟨v, rfl⟩ := hst
      exact Below.heap_setCell _ _ _ k (by show k ≠ W1.heap.size; omega))
    ⟨RX0, Below.refl _ _⟩
    (fun (x : StrQ) => { tmps := #[.pointer (some ⟨g, off, none⟩), undef, .pointer (some ⟨w.heap.size, 0, none⟩), .string x.1, .pointer (some ⟨g, off, none⟩), .pointer (some ⟨g, off, none⟩), .pointer (some ⟨g, off + 3, none⟩), .string T, .bool true, .bool false, .pointer (some ⟨g, off, none⟩), .pointer (some ⟨g, off, none⟩), .pointer (some ⟨g, off + 3, none⟩), .string T, .func (.func 199) #[] #[.pointer (some ⟨W1.heap.size + 1, 0, none⟩), .pointer (some ⟨W1.heap.size, 0, none⟩), .pointer (some ⟨W1.heap.size + 2, 0, none⟩)], .string x.1, undef, undef, undef, undef, undef, undef, undef], defers := [] }) ?assign ?body ?done ?stop
  case assign =>
    intro l x W K hK
    gi_wp2_with fail
    exact hK
  case body =>
    rintro l pre x W ⟨hr0, hB⟩ hlt
    have HCd : Hid (∀ W, Calls Tryz.prog 93 #[.string x.1] W fun e w' => e = .returned (.bool (cloB x.1)) ∧ Below W.heap.size W w') := Lib.hid fun W => f_closesMath x.1 W x.2
    have hzW := hr0.lt
    have hXW : W1.heap.size + 3 ≤ W.heap.size := by have := hB.size; omega
    cases hcl : cloB x.1 with
    | true =>
      rw [hcl] at HCd
      gi_wp2_with fail
      refine ⟨trivial, ?_⟩
      ((with_reducible refine (CallsIn.inRound l (callsIn_wide.2 (HCd.out _))).mono ?_))
      rintro e W4 ⟨rfl, b4⟩
      have k0 : Boxed W4 w.heap.size 26 (.int .i64 0) := (b4.block _ hr0.lt).trans hr0
      have f0 := k0.frozen
      have c0 := k0.cell
      have KO := (keeps_of_below b4).trans (KeepsOthers.setCell W4 ⟨w.heap.size, 0, none⟩ (.int .i64 5))
      have HK := Lib.hid KO
      clear KO k0
      gi_wp2_with fail
      exact ⟨HK.out.from _, x, by simp, hcl⟩
    | false =>
      rw [hcl] at HCd
      gi_wp2_with fail
      refine ⟨trivial, ?_⟩
      ((with_reducible refine (CallsIn.inRound l (callsIn_wide.2 (HCd.out _))).mono ?_))
      rintro e W4 ⟨rfl, b4⟩
      have k0 : Boxed W4 w.heap.size 26 (.int .i64 0) := (b4.block _ hr0.lt).trans hr0
      have hB4 := hB.trans (b4.mono (Nat.le_trans QX.size hB.size))
      have KP : KpL W1.heap.size (W1.heap.size + 1) (W1.heap.size + 2) W W4 := ⟨b4.block _ (by omega), b4.block _ (by omega), b4.block _ (by omega)⟩
      have HH := Lib.hid (And.intro (keeps_of_below b4) (And.intro KP (And.intro k0 hB4)))
      clear KP k0 hB4
      gi_wp2_with fail
      exact ⟨HH.out.1.from _, HH.out.2.1, HH.out.2.2.1, HH.out.2.2.2⟩
  case done =>
    rintro D ys W hD rfl ⟨hr, hB⟩ hK
    have hQW := QX.trans hB
    have HCkW := Lib.hid (HCk.out W hQW)
    obtain ⟨p0, p1, p2, p3, p4, p5, p6, p7, p8, p9, p10⟩ := HC.out _ hQW
    gi_wp2_with fail
    refine ⟨trivial, ?_⟩
    ((with_reducible refine (callsIn_wide.2 (HCkW.out)).mono ?_))
    rintro e W5 ⟨rfl, b5⟩
    have hDlt : D < W.heap.size := (Array.getElem?_eq_some_iff.1 hK).1
    have hK5 : W5.heap[D]? = some (.deferred (some [])) := (b5.block D hDlt).trans hK
    have k5 : Boxed W5 w.heap.size 26 (.int .i64 0) := (b5.block _ hr.lt).trans hr
    have f0 := k5.frozen
    have c0 := k5.cell
    have KO := KeepsOthers.setCell W5 ⟨w.heap.size, 0, none⟩ (.int .i64 0)
    have hK2 := KO.same D _ hK5 rfl
    have d0 := k5.set (.int .i64 0)
    have g0 := Boxed.cell (v := .int .i64 0) (d0.kept (grownBy_putObj' _ D (.deferred none)) (fun e => by cases e; unfold Boxed at d0; rw [d0] at hK2; cases hK2))
    have hBB := (hQW.trans (b5.mono hQW.size)).setCell (p := ⟨w.heap.size, 0, none⟩) (Nat.le_refl _) (.int .i64 0)
    have hB2 := hBB.trans (belowK_b (w := w) (Nat.le_refl _) _ D _ (.deferred none) (by omega) hK2 rfl rfl)
    have HH := Lib.hid hB2
    clear hBB hB2 d0 KO p0 p1 p2 p3 p4 p5 p6 p7 p8 p9 p10
    gi_wp2_with fail
    refine ⟨by simp, .inl ⟨_, _, rfl, run_takeDeferred hK2, ?_⟩⟩
    refine ⟨.int .i64 0, by simp [results, Tryz.results48, go_sem, g0], rfl, HH.out⟩
  case stop =>
    rintro D c pre W hD hpre ⟨x, hx, hxn⟩ hK
    exfalso
    obtain ⟨p, hp, rfl⟩ := List.mem_map.1 (hpre.subset hx)
    rw [HOp.out p hp] at hxn
    cases hxn

end Go.Proofs.YtpoafhgbhnblmaaGreatDoor
