/-
  Texts of the proof, put together (what this law reaches): EmPD, EmRB.
-/
import Derived.Test.YtfnloonmeilhlaaW08
import Derived.Test.YtfnloonmeilhlaaW07
import Derived.OpenShut
import Derived.ChangeSame
import Derived.SizedLaws
import Derived.Carry
import Derived.SliceStrings
set_option linter.unusedVariables false
set_option linter.unusedSimpArgs false
namespace Go.Pub
open Go.RowKit
theorem repB_snoc (c : ByteArray) : ∀ n, repB c (n + 1) = repB c n ++ c.toList
  | 0 => by show c.toList ++ [] = [] ++ c.toList; simp
  | n + 1 => by
    show c.toList ++ repB c (n + 1) = (c.toList ++ repB c n) ++ c.toList
    rw [repB_snoc c n, List.append_assoc]
theorem mtN_take {l : List (Nat × Nat × Nat)} {k i : Nat} (h : k < l.length) : mtN (l.take (k + 1)) i = mtN (l.take k) i + if l[k].1 = i ∨ l[k].2.1 = i then l[k].2.2 else 0 := by
  rw [List.take_succ_eq_append_getElem h, mtN_snoc]
theorem mtN_sub (i : Nat) : ∀ (l : List (Nat × Nat × Nat)) (k : Nat), mtN (l.take k) i ≤ mtN l i
  | _, 0 => Nat.zero_le _
  | [], k + 1 => Nat.le_refl _
  | t :: l, k + 1 => by
    have := mtN_sub i l k
    show _ + mtN (l.take k) i ≤ _ + mtN l i
    omega
theorem one_row {w : World} {S : Nat → Prop} {T : TypeId} {x0 x1 x2 x3 x4 x5 x6 x7 x8 x9 : Value} {x : InT} (hr : RepI w S #[x0, x1, x2, x3, x4, x5, x6, x7, x8, x9] x) (hS : ∀ g, S g → g < w.heap.size) :
    RepIs (w.alloc (.cells #[x0, x1, x2, x3, x4, x5, x6, x7, x8, x9] T)) (fun g => S g ∨ g = w.heap.size) [#[x0, x1, x2, x3, x4, x5, x6, x7, x8, x9]] [x] ∧ ReadsS (w.alloc (.cells #[x0, x1, x2, x3, x4, x5, x6, x7, x8, x9] T)) (fun g => S g ∨ g = w.heap.size) 10 (some ⟨w.heap.size, 0, none⟩) 1 ([#[x0, x1, x2, x3, x4, x5, x6, x7, x8, x9]].flatMap Array.toList) := by
  refine ⟨.cons _ _ _ _ (hr.keep (fun g hg => Below.heap_alloc w _ g (hS g hg)) fun _ h => .inl h) .nil, ⟨⟨rfl, by unfold maxLen; omega⟩, fun _ => ⟨_, rfl, .inr rfl, fun j u hj => ?_⟩⟩⟩
  have hadd : (⟨w.heap.size, 0, none⟩ : Addr).add j = ⟨w.heap.size, j, none⟩ := by unfold Addr.add; split <;> simp_all
  rw [hadd, Lib.cell_of_heap (heap_alloc_new w _), ← Array.getElem?_toList]
  exact hj
end Go.Pub
namespace Go.Proofs.Ytfnloonmeilhlaa
open Go.RowKit Go.Pub
set_option maxHeartbeats 8000000 in
set_option maxRecDepth 100000 in
theorem law10_plain {L : Value} {ps : List PcT} (w : World) (hL : PcsR w (fun g => g < w.heap.size) L ps) (ho : OkPs ps) : Calls Try.prog 6 #[L] w (BoolP true w) := by
  have HF := Lib.hid (t_few w hL (fun _ h => h) ho)
  obtain ⟨A0, c0, vs0, hL0, -⟩ := id hL
  subst hL0
  cases hf : fewP ps with
  | false =>
    rw [hf] at HF
    clear hL ho hf
    go_enter Try.func6, Try.ntmps6
    go_wp2_with fail
    ((with_reducible refine HF.out.mono ?_))
    rintro e w1 ⟨rfl, b1⟩
    have HB1 := Lib.hid b1
    clear b1 HF
    go_wp2_with fail
    ((with_reducible refine (l_awake w1).mono ?_))
    rintro e w2 ⟨rfl, b2⟩
    have HB2 := Lib.hid (HB1.out.trans (b2.mono HB1.out.size))
    clear b2
    go_wp2_with fail
    go_ret
    exact ⟨rfl, HB2.out⟩
  | true =>
    rw [hf] at HF
    obtain ⟨f1, f2, f3⟩ := few_sums hf
    obtain ⟨-, hfn, hfs⟩ := few_bd hf
    have hfp := few_pl hf
    obtain ⟨hpl, hle⟩ := plain_nest ps
    obtain ⟨ids, -, hcr⟩ : ∃ ids, MatI ps ps.length (matchA ps) ids ∧ CrI ps.length (matchA ps) ids := cross_all ps ps.length (Nat.le_refl _)
    have HFIT := Lib.hid hcr.fit
    have HLE := Lib.hid hle
    have HCL : Hid (∀ k, k ≤ ps.length → (catG (gPc ps (matchA ps).prs) 0 k).length ≤ 40000) := Lib.hid fun k hk => by
      have h1 := catG_len (fun i hi => (hfn i hi).2) (matchA ps).prs k hk
      have h2 := plnL_sub (l := ps.map (·.inl)) (i := k) (by rw [List.length_map]; exact hk)
      omega
    have HL := Lib.hid hL
    have HPR := Lib.hid fun (W : World) (hb : Below w.heap.size w W) => e_PairsB W (hL.keep (fun g hg => hb.block g hg) fun g hg => Nat.lt_of_lt_of_le hg hb.size) (by omega) (by omega)
    have HNE := Lib.hid fun (W : World) (hb : Below w.heap.size w W) => e_NestB W (hL.keep (fun g hg => hb.block g hg) fun g hg => Nat.lt_of_lt_of_le hg hb.size) (by omega) (by omega) (by omega)
    have HNP : Hid (∀ (S : Nat → Prop) (W : World) (A : Option Addr) (c : Nat) (vs : List (Array Value)), RepIs W S vs (nestA ps) → ReadsS W S 10 A (nestA ps).length (vs.flatMap Array.toList) → Calls Try.prog 16 #[.slice A (nestA ps).length c] W fun e w' => e = .returned (.string (bsT (catG (gPc ps (matchA ps).prs) 0 ps.length))) ∧ w' = W) := Lib.hid fun S W A c vs h1 h2 => by
      have := plain_all 1000000000 (Nat.le_refl _) (nestA ps) (by have := sizeL_nest ps; omega) S W A c vs h1 h2 (by rw [hpl]; have := HCL.out ps.length (Nat.le_refl _); omega)
      rwa [hpl] at this
    have HIP : Hid (∀ i (hi : i < ps.length) (S : Nat → Prop) (W : World) (A : Option Addr) (c : Nat) (vs : List (Array Value)), RepIs W S vs [(pcX ps i).inl] → ReadsS W S 10 A 1 (vs.flatMap Array.toList) → Calls Try.prog 16 #[.slice A 1 c] W fun e w' => e = .returned (.string (bsT (plnI (pcX ps i).inl))) ∧ w' = W) := Lib.hid fun i hi S W A c vs h1 h2 => by
      have hl : i < (ps.map (·.inl)).length := by rw [List.length_map]; exact hi
      have e1 : (ps.map (·.inl))[i] = (pcX ps i).inl := by rw [List.getElem_map, pcX_get hi]
      have h3 := sizeL_mem (ps.map (·.inl)) i hl
      have h4 := plnL_part hl
      rw [e1] at h3 h4
      have e2 : plnL [(pcX ps i).inl] = plnI (pcX ps i).inl := by rw [plnL_cons, plnL_nil, List.append_nil]
      have := plain_all 1000000000 (Nat.le_refl _) [(pcX ps i).inl] (by rw [sizeL_one]; omega) S W A c vs h1 h2 (by rw [e2]; omega)
      rwa [e2] at this
    have HN40 : Hid (∀ i, i < ps.length → (pcX ps i).n ≤ 40 ∧ (pcX ps i).ch.size ≤ 9) := Lib.hid fun i hi => ⟨(hfn i hi).2, (hfn i hi).1⟩
    have HGI : Hid (∀ i, catG (gPc ps (matchA ps).prs) 0 (i + 1) = catG (gPc ps (matchA ps).prs) 0 i ++ gPc ps (matchA ps).prs i) := Lib.hid fun i => by rw [catG_app (m := i) (by omega) (by omega), catG_one]
    have HGP : Hid (∀ i, gPc ps (matchA ps).prs i = if runP (pcX ps i) = true then repB (pcX ps i).ch ((pcX ps i).n.toNat - mtN (matchA ps).prs i) else if (pcX ps i).kind = 0 then plnI (pcX ps i).inl else []) := Lib.hid fun i => rfl
    have HRB : Hid (∀ p : PcT, runP p = runBit p.kind p.ch p.n) := Lib.hid fun _ => rfl
    have HR1 : Hid (∀ p : PcT, runP p = true → 1 ≤ p.n ∧ p.kind = 1) := Lib.hid fun p h => by obtain ⟨a, b, -⟩ := runP_spec h; exact ⟨b, a⟩
    generalize hG : gPc ps (matchA ps).prs = G at *
    clear hG hL ho hf hcr hle hpl hfn hfs hfp
    generalize (matchA ps).prs = prs at *
    have hb0 : (⟨#[]⟩ : ByteArray) = bsT (catG G 0 0) := by rw [catG_self]; rfl
    go_enter Try.func6, Try.ntmps6
    go_wp2_with fail
    ((with_reducible refine HF.out.mono ?_))
    rintro e w1 ⟨rfl, b1⟩
    have HP1 := Lib.hid (HPR.out w1 b1)
    have HB1 := Lib.hid b1
    clear b1 HF HPR
    go_wp2_with fail
    ((with_reducible refine HP1.out.mono ?_))
    rintro e w2 ⟨A2, c2, rfl, hr, b2⟩
    have HR := Lib.hid hr
    have HB2 := Lib.hid (HB1.out.trans (b2.mono HB1.out.size))
    have hpll : prs.length ≤ 9223372036854775807 := by have := hr.1.2; unfold maxLen at this; omega
    clear hr b2 HP1
    go_wp2_with fail
    go_loopw [4, 5] (fun v4 v5 wr => ∃ i : Nat, i ≤ ps.length ∧ v4 = .string (bsT (catG G 0 i)) ∧ v5 = .int .i64 i ∧ Hid (Below w2.heap.size w2 wr)) (fun _ v5 _ => ps.length - (intOf v5).toNat)
    case atStart => exact ⟨0, Nat.zero_le _, by rw [← hb0], rfl, Lib.hid (Below.refl _ _)⟩
    case round =>
      clear hb0
      obtain ⟨i, hi, rfl, rfl, HBw⟩ := hrel
      have HBW : Hid (Below w.heap.size w wr) := Lib.hid (HB2.out.trans (HBw.out.mono HB2.out.size))
      by_cases hlt : i < ps.length
      · have hLr : PcsR wr (fun g => g < w.heap.size) (.slice A0 ps.length c0) ps := HL.out.keep (fun g hg => HBW.out.block g hg) fun _ h => h
        obtain ⟨b, off, c, e, hb, hat⟩ := hLr.opn (by omega)
        obtain ⟨x0, x1, x2, x3, x4, x5, x6, x7, x8, x9, hr, hrg, hone⟩ := hat i hlt
        injection e with e1 e2 e3
        subst e1
        subst e3
        have hk0 : wr.cell? ⟨b, off + i * 18, none⟩ = some (.int .i64 (pcX ps i).kind) := hrg 0 _ rfl
        have hii : (i : Int) < (ps.length : Int) := by omega
        have hi00 : (0 : Int) ≤ (i : Int) := by omega
        obtain ⟨hn40, hc9⟩ := HN40.out i hlt
        have HGN := Lib.hid (HGI.out i)
        have HGG := Lib.hid (HGP.out i)
        have HPI := Lib.hid (HIP.out i hlt)
        have HRR := Lib.hid (HRB.out (pcX ps i))
        have HRS := Lib.hid (HR1.out (pcX ps i))
        have HLEI := Lib.hid (HLE.out i hlt)
        have hcl := HCL.out (i + 1) (by omega)
        rw [HGN.out, List.length_append] at hcl
        have HRG := Lib.hid hrg
        have HSZ := HBW.out.size
        clear hLr hat hrg
        generalize pcX ps i = Q at *
        obtain ⟨kd, il, ch, n, op, cl, im, bg, nd⟩ := Q
        dsimp only at *
        have HX : Hid (∀ W, Below wr.heap.size wr W → W.rangeAt b (off + i * 18) [.int .i64 kd, x0, x1, x2, x3, x4, x5, x6, x7, x8, x9, .string ch, .int .i64 n, .bool op, .bool cl, .bool im, .int .i64 bg, .int .i64 nd]) := Lib.hid fun W hW j u hj => (hW.cell (p := ⟨b, off + i * 18 + j, none⟩) (by show b < _; omega)).trans (HRG.out j u hj)
        by_cases hkd : kd = 0
        · have hnr : runP ⟨kd, il, ch, n, op, cl, im, bg, nd⟩ = false := by
            cases h : runP ⟨kd, il, ch, n, op, cl, im, bg, nd⟩
            · rfl
            · have := (HRS.out h).2; omega
          have hg : G i = plnI il := by rw [HGG.out, if_neg (by rw [hnr]; decide), if_pos hkd]
          have hrb : runBit kd ch n = false := by rw [← HRR.out]; exact hnr
          have hv := l_valid kd n x0 x1 x2 x3 x4 x5 x6 x7 x8 x9 ch op cl im bg nd (wr.alloc (.cells #[x0, x1, x2, x3, x4, x5, x6, x7, x8, x9] 37)) (by omega)
          rw [hrb] at hv
          have HV := Lib.hid hv
          have HG1 : Hid (wr.rangeAt b (off + i * 18 + 1) [x0, x1, x2, x3, x4, x5, x6, x7, x8, x9]) := Lib.hid fun j u hj => by
            have hj10 := (List.getElem?_eq_some_iff.1 hj).1
            simp only [List.length_cons, List.length_nil] at hj10
            rw [Nat.add_assoc (off + i * 18) 1 j]
            refine HRG.out (1 + j) u ?_
            rw [← hj, Nat.add_comm 1 j]
            match j, hj10 with
            | 0, _ => rfl
            | 1, _ => rfl
            | 2, _ => rfl
            | 3, _ => rfl
            | 4, _ => rfl
            | 5, _ => rfl
            | 6, _ => rfl
            | 7, _ => rfl
            | 8, _ => rfl
            | 9, _ => rfl
          obtain ⟨o1, o2⟩ := one_row (T := 37) hr (fun g hg => Nat.lt_of_lt_of_le hg HSZ)
          have HPC := Lib.hid (HPI.out _ _ _ 1 _ o1 o2)
          have hB1 : Below wr.heap.size wr (wr.alloc (.cells #[x0, x1, x2, x3, x4, x5, x6, x7, x8, x9] 37)) := (Below.refl _ wr).alloc (Nat.le_refl _) _
          have HX1 := Lib.hid (HX.out _ hB1)
          have HB1 := Lib.hid hB1
          have hps : (bsT (plnI il)).size = (plnI il).length := bsT_size _
          have hcat : ∀ W : World, (Op.stringOp .add (bsT (catG G 0 i)) (bsT (plnI il))).run Try.prog W = .ok (.string (bsT (catG G 0 i ++ plnI il))) W := fun W => by
            have h := cat_s (P := Try.prog) W (catG G 0 i) (bsT (plnI il)) (by rw [hps, ← hg]; omega)
            rwa [bsT_list] at h
          have HEQ : Hid (bsT (catG G 0 (i + 1)) = bsT (catG G 0 i ++ plnI il)) := Lib.hid (by rw [HGN.out, hg])
          clear o1 o2 hps hg hcl hone hr hB1 hv hrb hnr
          generalize plnI il = ql at *
          subst hkd
          go_wp2_with (first | (refine wpList_load_mid rfl 37 (.tmp 31) rfl b (off + i * 18 + 1) rfl _ _ HG1.out Try.underlying37 rfl inl_size ?_) | (refine wpList_inSlice rfl (.tmp 32) rfl x0 x1 x2 x3 x4 x5 x6 x7 x8 x9 rfl ?_; generalize wr.alloc (.cells #[x0, x1, x2, x3, x4, x5, x6, x7, x8, x9] 37) = W1 at *) | fail)
          ((with_reducible refine HPC.out.mono ?_))
          rintro e w' ⟨rfl, rfl⟩
          rename World => W1
          go_wp2_with (refine wpList_load_mid rfl 39 (.tmp 38) rfl b (off + i * 18) rfl _ _ HX1.out Try.underlying39 rfl pc18 ?_)
          ((with_reducible refine HV.out.mono ?_))
          rintro e W3 ⟨rfl, b3⟩
          have HB3 : Hid (Below w2.heap.size w2 W3) := Lib.hid (HBw.out.trans ((HB1.out.trans (b3.mono HB1.out.size)).mono HBw.out.size))
          clear b3 HV HPC
          go_wp2_with fail
          go_roundw
          case rel => exact ⟨i + 1, by omega, by rw [HEQ.out], by go_num, HB3⟩
          case measure => simp [intOf]; omega
        · have dk : (kd == 0) = false := beq_eq_false_iff_ne.2 hkd
          have HV := Lib.hid (l_valid kd n x0 x1 x2 x3 x4 x5 x6 x7 x8 x9 ch op cl im bg nd wr (by omega))
          have HX1 := Lib.hid (HX.out _ (Below.refl _ wr))
          cases hrb : runBit kd ch n with
          | false =>
            have hnr : runP ⟨kd, il, ch, n, op, cl, im, bg, nd⟩ = false := by rw [HRR.out]; exact hrb
            have hg : G i = [] := by rw [HGG.out, if_neg (by rw [hnr]; decide), if_neg hkd]
            have HEQ : Hid (bsT (catG G 0 (i + 1)) = bsT (catG G 0 i)) := Lib.hid (by rw [HGN.out, hg, List.append_nil])
            rw [hrb] at HV
            clear hg hcl hone hr hrb hnr hkd
            go_wp2_with (refine wpList_load_mid rfl 39 (.tmp 38) rfl b (off + i * 18) rfl _ _ HX1.out Try.underlying39 rfl pc18 ?_)
            ((with_reducible refine HV.out.mono ?_))
            rintro e W3 ⟨rfl, b3⟩
            have HB3 : Hid (Below w2.heap.size w2 W3) := Lib.hid (HBw.out.trans (b3.mono HBw.out.size))
            clear b3 HV
            go_wp2_with fail
            go_roundw
            case rel => exact ⟨i + 1, by omega, by rw [HEQ.out], by go_num, HB3⟩
            case measure => simp [intOf]; omega
          | true =>
            have hnr : runP ⟨kd, il, ch, n, op, cl, im, bg, nd⟩ = true := by rw [HRR.out]; exact hrb
            have hg : G i = repB ch (n.toNat - mtN prs i) := by rw [HGG.out, if_pos hnr]
            have hn1 : 1 ≤ n := (HRS.out hnr).1
            have hml : mtN prs i ≤ n.toNat := HLEI.out hnr
            have hcs : ch.size = 1 := runP_size hnr
            have HCS : Hid (∀ k, (repB ch k).length = k) := Lib.hid (repB_len hcs)
            have hcb : (catG G 0 i).length ≤ 40000 := by omega
            have HEQ : Hid (bsT (catG G 0 (i + 1)) = bsT (catG G 0 i ++ repB ch (n.toNat - mtN prs i))) := Lib.hid (by rw [HGN.out, hg])
            rw [hrb] at HV
            clear hg hcl hone hr hrb hnr hkd
            go_wp2_with (refine wpList_load_mid rfl 39 (.tmp 38) rfl b (off + i * 18) rfl _ _ HX1.out Try.underlying39 rfl pc18 ?_)
            ((with_reducible refine HV.out.mono ?_))
            rintro e W3 ⟨rfl, b3⟩
            have HB3 : Hid (Below w2.heap.size w2 W3) := Lib.hid (HBw.out.trans (b3.mono HBw.out.size))
            have kn : W3.cell? ⟨b, off + i * 18 + 12, none⟩ = some (.int .i64 n) := HX.out W3 b3 12 _ rfl
            have kc : W3.cell? ⟨b, off + i * 18 + 11, none⟩ = some (.string ch) := HX.out W3 b3 11 _ rfl
            clear b3 HV hk0 dk
            go_wp2_with fail
            go_loopw [6, 7] (fun v6 v7 wq => wq = W3 ∧ ∃ k : Nat, k ≤ prs.length ∧ v7 = .int .i64 k ∧ v6 = .int .i64 (n - (mtN (prs.take k) i : Nat))) (fun _ v7 _ => prs.length - (intOf v7).toNat)
            case atStart => exact ⟨rfl, 0, Nat.zero_le _, rfl, by rw [List.take_zero]; show _ = Value.int .i64 (n - 0); rw [Int.sub_zero]⟩
            case round =>
              obtain ⟨rfl, k, hk, rfl, rfl⟩ := hrel
              by_cases hkl : k < prs.length
              · obtain ⟨b', off', rfl, hb', p0, p1, p2⟩ := trips_cell HR.out k hkl
                have q0 : wr.cell? ⟨b', off' + k * 3, none⟩ = some (.int .i64 prs[k].1) := (HB3.out.cell (p := ⟨b', off' + k * 3, none⟩) hb'.2).trans p0
                have q1 : wr.cell? ⟨b', off' + k * 3 + 1, none⟩ = some (.int .i64 prs[k].2.1) := (HB3.out.cell (p := ⟨b', off' + k * 3 + 1, none⟩) hb'.2).trans p1
                have q2 : wr.cell? ⟨b', off' + k * 3 + 2, none⟩ = some (.int .i64 prs[k].2.2) := (HB3.out.cell (p := ⟨b', off' + k * 3 + 2, none⟩) hb'.2).trans p2
                obtain ⟨-, -, -, g4⟩ := HFIT.out _ (List.getElem_mem hkl)
                have hmk := mtN_sub i prs k
                have hmt := mtN_take (i := i) hkl
                have hkk : (k : Int) < (prs.length : Int) := by omega
                have hk00 : (0 : Int) ≤ (k : Int) := by omega
                clear p0 p1 p2
                generalize prs[k].1 = o at *
                generalize prs[k].2.1 = q at *
                generalize prs[k].2.2 = nn at *
                generalize mtN (prs.take k) i = m at *
                by_cases h1 : o = i
                · have d1 : ((o : Int) == (i : Int)) = true := by rw [h1]; exact beq_self_eq_true _
                  rw [if_pos (.inl h1)] at hmt
                  have HM := Lib.hid hmt
                  clear hmt h1
                  go_wp2_with fail
                  go_roundw
                  case rel => exact ⟨trivial, k + 1, by omega, by go_num, by rw [HM.out]; congr 1; omega⟩
                  case measure => simp [intOf]; omega
                · have d1 : ((o : Int) == (i : Int)) = false := beq_eq_false_iff_ne.2 (by omega)
                  by_cases h2 : q = i
                  · have d2 : ((q : Int) == (i : Int)) = true := by rw [h2]; exact beq_self_eq_true _
                    rw [if_pos (.inr h2)] at hmt
                    have HM := Lib.hid hmt
                    clear hmt h1 h2
                    go_wp2_with fail
                    go_roundw
                    case rel => exact ⟨trivial, k + 1, by omega, by go_num, by rw [HM.out]; congr 1; omega⟩
                    case measure => simp [intOf]; omega
                  · have d2 : ((q : Int) == (i : Int)) = false := beq_eq_false_iff_ne.2 (by omega)
                    rw [if_neg (by omega), Nat.add_zero] at hmt
                    have HM := Lib.hid hmt
                    clear hmt h1 h2
                    go_wp2_with fail
                    go_roundw
                    case rel => exact ⟨trivial, k + 1, by omega, by go_num, by rw [HM.out]; congr 1⟩
                    case measure => simp [intOf]; omega
              · obtain rfl : k = prs.length := by omega
                rw [List.take_length]
                obtain ⟨M, hM⟩ : ∃ M, M = mtN prs i := ⟨_, rfl⟩
                rw [← hM] at hml HEQ
                rw [← hM]
                have hz : decide (n - (M : Int) < 0) = false := decide_eq_false (by omega)
                clear hM HLEI HGG
                go_wp2_with fail
                go_loopw [4, 8] (fun v4 v8 wq => wq = wr ∧ ∃ k : Nat, k ≤ n.toNat - M ∧ v8 = .int .i64 k ∧ v4 = .string (bsT (catG G 0 i ++ repB ch k))) (fun _ v8 _ => n.toNat - M - (intOf v8).toNat)
                case atStart => exact ⟨rfl, 0, Nat.zero_le _, rfl, by rw [show repB ch 0 = [] from rfl, List.append_nil]⟩
                case round =>
                  obtain ⟨rfl, k, hk, rfl, rfl⟩ := hrel
                  by_cases hkm : k < n.toNat - M
                  · have hkm' : (k : Int) < n - (M : Int) := by omega
                    have hrl := HCS.out k
                    have hcat : ∀ W : World, (Op.stringOp .add (bsT (catG G 0 i ++ repB ch k)) ch).run Try.prog W = .ok (.string (bsT (catG G 0 i ++ repB ch k ++ ch.toList))) W := fun W => cat_s (P := Try.prog) W _ ch (by rw [List.length_append, hrl]; omega)
                    have HEK : Hid (catG G 0 i ++ repB ch (k + 1) = catG G 0 i ++ repB ch k ++ ch.toList) := Lib.hid (by rw [repB_snoc, List.append_assoc])
                    clear hrl
                    go_wp2_with fail
                    go_roundw
                    case rel => exact ⟨trivial, k + 1, by omega, by go_num, by rw [HEK.out, List.append_assoc]⟩
                    case measure => simp [intOf]; omega
                  · have hke : k = n.toNat - M := by omega
                    have hkm' : decide ((k : Int) < n - (M : Int)) = false := decide_eq_false (by omega)
                    rw [← hke] at HEQ
                    clear hke
                    go_wp2_with fail
                    go_roundw
                    case rel => exact ⟨i + 1, by omega, by rw [HEQ.out], by go_num, HB3⟩
                    case measure => simp [intOf]; omega
      · obtain rfl : i = ps.length := by omega
        have HC := Lib.hid (HNE.out wr HBW.out)
        clear HNE
        go_wp2_with fail
        ((with_reducible refine HC.out.mono ?_))
        rintro e W3 ⟨A, c, vs, rfl, hr, hm, b3⟩
        have HC2 := Lib.hid (HNP.out _ W3 A c vs hr hm)
        have HB3 := Lib.hid (HBW.out.trans (b3.mono HBW.out.size))
        clear hr hm b3 HC HNP
        go_wp2_with fail
        ((with_reducible refine HC2.out.mono ?_))
        rintro e w' ⟨rfl, rfl⟩
        have hbe : ((bsT (catG G 0 ps.length)).toList == (bsT (catG G 0 ps.length)).toList) = true := beq_self_eq_true _
        clear HC2
        go_wp2_with fail
        rename World => W3
        ((with_reducible refine (l_awake _).mono ?_))
        rintro e W4 ⟨rfl, b4⟩
        have HB4 := Lib.hid (HB3.out.trans (b4.mono HB3.out.size))
        clear b4
        go_wp2_with fail
        go_ret
        exact ⟨rfl, HB4.out⟩

end Go.Proofs.Ytfnloonmeilhlaa
namespace Go.Proofs.Ytfnloonmeilhlaa
open Go.RowKit Go.Pub Go.ChangeShapes Go.WideShapes
set_option maxRecDepth 100000 in
theorem open_pcsA {H : Type} {enc : TypeId × Value → H} {W : World} {r : Reach} {b0 : Nat} {v : Value} {d : DataW H} {p : List MemPlace} (hv : Value.okWide Try.prog W r b0 22 v) (h : DataW.Trod enc Try.prog W 0 (fun _ => true) true 22 v d p) (hw : Wt Try.prog 22 d) :
    ∃ ps, PcsR W (fun g => g < W.heap.size) v ps ∧ OkPs ps := by
  obtain ⟨a0, len0, cap0, rfl⟩ := okWide_slice Try.underlying22 hv
  obtain ⟨fuel, hf⟩ := h
  obtain ⟨ps, A, c, e, hp, ho⟩ := open_pcs hf hw
  have e1 : [Value.slice a0 len0 cap0] = [.slice A ps.length c] := e
  injection e1 with e1 _
  rw [e1]
  exact ⟨ps, hp, ho⟩

end Go.Proofs.Ytfnloonmeilhlaa
