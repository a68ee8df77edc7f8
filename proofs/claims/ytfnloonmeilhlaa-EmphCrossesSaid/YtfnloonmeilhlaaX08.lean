/-
  Texts of the proof, put together (what this law reaches): EmMC, EmMF, EmLB, EmLC, EmCB, EmRB.
-/
import Derived.Test.YtfnloonmeilhlaaX07
import Derived.Test.YtfnloonmeilhlaaX05
import Derived.Test.YtfnloonmeilhlaaX02
import Derived.KernelRfl
import Derived.BigQuiet
import Derived.Test.YtfnloonmeilhlaaX04
import Derived.OpenShut
import Derived.ChangeSame
import Derived.SizedLaws
import Derived.Carry
import Derived.SliceStrings
set_option linter.unusedVariables false
set_option linter.unusedSimpArgs false
namespace Go.Pub
theorem sizeL_mem : ∀ (l : List InT) (i : Nat) (hi : i < l.length), sizeI l[i] ≤ sizeL l
  | x :: l, 0, _ => by show sizeI x ≤ sizeL (x :: l); rw [sizeL]; omega
  | x :: l, i + 1, hi => by
    have hi' : i < l.length := by simpa using hi
    show sizeI (l[i]'hi') ≤ sizeL (x :: l)
    rw [sizeL]
    have := sizeL_mem l i hi'
    omega
theorem sizeL_len : ∀ (l : List InT), l.length ≤ sizeL l
  | [] => Nat.zero_le _
  | x :: l => by
    rw [sizeL, List.length_cons]
    have := sizeL_len l
    have : 1 ≤ sizeI x := by obtain ⟨k, t, d, ti, a, ar, c, ks⟩ := x; rw [sizeI]; omega
    omega
end Go.Pub
namespace Go.Proofs.Ytfnloonmeilhlaa
open Go.RowKit Go.Pub
theorem RepI.setTxt {w : World} {S : Nat → Prop} {u0 u1 u2 u3 u4 u5 u6 u7 u8 u9 : Value} {x : InT} (h : RepI w S #[u0, u1, u2, u3, u4, u5, u6, u7, u8, u9] x) (s : List UInt8) : RepI w S #[u0, .string ⟨s.toArray⟩, u2, u3, u4, u5, u6, u7, u8, u9] (setTxt x s) := by
  cases h
  next h1 h2 h3 h4 h5 h6 => exact .mk _ _ _ _ _ _ _ _ _ _ _ _ _ _ _ _ _ _ _ h1 h2 h3 h4 h5 h6
set_option maxHeartbeats 8000000 in
set_option maxRecDepth 100000 in
theorem t_merge (N : Nat) (hN : N ≤ 1000000) (hM : ∀ x : InT, sizeI x ≤ N → MrgH (sizeL x.kids)) : MrgH N := by
  intro l hl S w A c vs h1 h2 hS
  have hlen := sizeL_len l
  have HEL : Hid (∀ i (hi : i < l.length), ∃ b off, A = some ⟨b, off, none⟩ ∧ b < w.heap.size ∧ ∃ x2 x3 x4 x5 x6 x7 x8 x9, RepI w S #[.int .i64 l[i].kind, .string l[i].text, x2, x3, x4, x5, x6, x7, x8, x9] l[i] ∧ w.rangeAt b (off + i * 10) [.int .i64 l[i].kind, .string l[i].text, x2, x3, x4, x5, x6, x7, x8, x9]) := Lib.hid fun i hi => by
    obtain ⟨b, off, e, hb, hc⟩ := h2.row (by omega) (by decide)
    obtain ⟨v, hv, hvc⟩ := h1.at_ i hi
    obtain ⟨x0, x1, x2, x3, x4, x5, x6, x7, x8, x9, rfl⟩ := hv.opn
    obtain ⟨rfl, rfl⟩ := RepI.two hv
    refine ⟨b, off, e, hS b hb, x2, x3, x4, x5, x6, x7, x8, x9, hv, fun j u hj => ?_⟩
    have hj10 := (List.getElem?_eq_some_iff.1 hj).1
    simp only [List.length_cons, List.length_nil] at hj10
    rw [Nat.add_assoc]
    refine hc (i * 10 + j) u ?_
    rw [hvc j hj10, ← hj, ← Array.getElem?_toList]
  have HMG := Lib.hid fun i (hi : i < l.length) => hM l[i] (Nat.le_trans (sizeL_mem l i hi) hl)
  have HSZ := Lib.hid fun i (hi : i < l.length) => Nat.le_trans (sizeL_mem l i hi) (Nat.le_trans hl hN)
  have HS := Lib.hid hS
  have HSL : Hid (sizeL l ≤ 1000000) := Lib.hid (Nat.le_trans hl hN)
  have H0 := Lib.hid (MrW.start w l)
  obtain ⟨i0, hi0, hz0, hz1, hz2⟩ := info_parts inl_info
  have hll : l.length ≤ 1000000 := by omega
  clear h1 h2 hS hM hl
  go_enter Try.func25, Try.ntmps25
  go_wp2_with fail
  go_loopw [3, 4] (fun v3 v4 wr => ∃ (i : Nat) (done : List InT), i ≤ l.length ∧ done.length ≤ i ∧ v4 = .int .i64 i ∧ Hid (MrW w l done i v3 wr)) (fun _ v4 _ => l.length - (intOf v4).toNat)
  case atStart => exact ⟨0, [], Nat.zero_le _, Nat.zero_le _, rfl, H0⟩
  case round =>
    clear H0
    obtain ⟨i, done, hi, hdi, rfl, HI⟩ := hrel
    by_cases hlt : i < l.length
    · obtain ⟨b, off, hA, hbw, x2, x3, x4, x5, x6, x7, x8, x9, hr, hrg⟩ := HEL.out i hlt
      subst hA
      have hbel := HI.out.bel
      obtain ⟨S1, vs1, hS1, hr1, hown⟩ := HI.out.row
      obtain ⟨A3, c3, hv3, -, -⟩ := own_form hown
      subst hv3
      have hrgw : wr.rangeAt b (off + i * 10) [.int .i64 l[i].kind, .string l[i].text, x2, x3, x4, x5, x6, x7, x8, x9] := fun j u hj => (hbel.cell (p := ⟨b, off + i * 10 + j, none⟩) hbw).trans (hrg j u hj)
      have k0 : wr.cell? ⟨b, off + i * 10, none⟩ = some (.int .i64 l[i].kind) := hrgw 0 _ rfl
      have hii : (i : Int) < (l.length : Int) := by omega
      have hi00 : (0 : Int) ≤ (i : Int) := by omega
      by_cases hk : l[i].kind = 1
      · have d1 : (l[i].kind != 1) = false := by rw [hk]; rfl
        have HT0 := Lib.hid (TxW.start l i wr)
        clear hrgw hrg hr hS1 hr1 hown
        go_wp2_with fail
        clear d1 k0
        go_loopw [4, 5] (fun v4 v5 wx => ∃ (j : Nat) (f : Int), i ≤ j ∧ j ≤ l.length ∧ v4 = .int .i64 j ∧ v5 = .int .i64 f ∧ Hid (TxW l i j f wr wx)) (fun v4 _ _ => l.length - (intOf v4).toNat)
        case atStart => exact ⟨i, -1, Nat.le_refl _, by omega, rfl, rfl, HT0⟩
        case round =>
          clear HT0
          rename World => wx
          obtain ⟨j, f, hij, hj, rfl, rfl, HT⟩ := hrel
          have hbx := HT.out.bel
          have hzx := hbx.size
          have hzb := hbel.size
          by_cases hgo : ∃ h : j < l.length, l[j].kind = 1
          · obtain ⟨hjl, hkj⟩ := hgo
            obtain ⟨b', off', hA', -, y2, y3, y4, y5, y6, y7, y8, y9, -, hrgj⟩ := HEL.out j hjl
            injection hA' with hA'
            injection hA' with e1 e2
            subst e1 e2
            have kc : wx.cell? ⟨b, off + j * 10, none⟩ = some (.int .i64 l[j].kind) := (hbx.cell (p := ⟨b, off + j * 10, none⟩) (by show b < _; omega)).trans ((hbel.cell (p := ⟨b, off + j * 10, none⟩) hbw).trans (hrgj 0 _ rfl))
            have tc : wx.cell? ⟨b, off + j * 10 + 1, none⟩ = some (.string l[j].text) := (hbx.cell (p := ⟨b, off + j * 10 + 1, none⟩) (by show b < _; omega)).trans ((hbel.cell (p := ⟨b, off + j * 10 + 1, none⟩) hbw).trans (hrgj 1 _ rfl))
            have hjj : (j : Int) < (l.length : Int) := by omega
            have hj0 : (0 : Int) ≤ (j : Int) := by omega
            have dk : (l[j].kind == 1) = true := by rw [hkj]; rfl
            have HLEN : Hid ((Lib.byteCells (catT (segL l i j))).length + l[j].text.size ≤ 140737488355328) := Lib.hid (by
              rw [Lib.byteCells_length]
              have h1 := catT_len (segL l i j)
              have h2 := segL_size l i j
              have h3 := HSZ.out j hjl
              have h4 : l[j].text.size ≤ sizeI l[j] := by
                generalize l[j] = x
                obtain ⟨k, t, d, ti, a, ar, c, ks⟩ := x
                rw [sizeI]; show t.size ≤ _; omega
              have h5 := HSL.out
              omega)
            have HSTEP := Lib.hid fun (w2 : World) (f' : Int) hb hbd hf => HT.out.step (w2 := w2) (f' := f') hij hjl hkj hb hbd hf
            have HBL := Lib.hid HT.out.bld
            have HSC : Hid (Lib.strCells l[j].text = Lib.byteCells l[j].text.toList) := Lib.hid (by rw [Lib.strCells_eq, Lib.toList_data])
            have hwz : wr.heap.size ≤ wx.heap.size := hzx
            have HFS := Lib.hid HT.out.fst
            clear hrgj hbx HT hbel
            generalize l[j].text = t at *
            generalize l[j].kind = kj at *
            rcases HFS.out with ⟨rfl, -⟩ | ⟨q, hq, rfl, hq1, hq2, -⟩
            · by_cases ht : t.toList = []
              · have ht2 : t.toList.isEmpty = true := by rw [ht]; rfl
                go_wp2_with fail
                ((with_reducible refine (writeString_k wr.heap.size wr.heap.size _ _ _ HBL.out HLEN.out hwz).mono ?_))
                rintro e W1 ⟨rfl, h1, b2, -⟩
                rw [HSC.out] at h1
                have HF := Lib.hid (HSTEP.out W1 (-1) b2 (.inr h1) (by simp [ht]))
                clear h1 b2 HSTEP HBL
                go_wp2_with fail
                go_roundw
                case rel => exact ⟨j + 1, -1, by omega, by omega, by go_num, rfl, HF⟩
                case measure => simp [intOf]; omega
              · have ht2 : t.toList.isEmpty = false := by cases h : t.toList with | nil => exact absurd h ht | cons => rfl
                have ht3 : (t.toList == []) = false := by cases h : t.toList with | nil => exact absurd h ht | cons => rfl
                go_wp2_with fail
                ((with_reducible refine (writeString_k wr.heap.size wr.heap.size _ _ _ HBL.out HLEN.out hwz).mono ?_))
                rintro e W1 ⟨rfl, h1, b2, -⟩
                rw [HSC.out] at h1
                have HF := Lib.hid (HSTEP.out W1 ((j : Int)) b2 (.inr h1) (by simp [ht]))
                clear h1 b2 HSTEP HBL
                go_wp2_with fail
                go_roundw
                case rel => exact ⟨j + 1, (j : Int), by omega, by omega, by go_num, rfl, HF⟩
                case measure => simp [intOf]; omega
            · have hq0 : decide ((q : Int) < 0) = false := decide_eq_false (by omega)
              go_wp2_with fail
              ((with_reducible refine (writeString_k wr.heap.size wr.heap.size _ _ _ HBL.out HLEN.out hwz).mono ?_))
              rintro e W1 ⟨rfl, h1, b2, -⟩
              rw [HSC.out] at h1
              have HF := Lib.hid (HSTEP.out W1 ((q : Int)) b2 (.inr h1) (by rw [if_neg (by omega)]))
              clear h1 b2 HSTEP HBL
              go_wp2_with fail
              go_roundw
              case rel => exact ⟨j + 1, (q : Int), by omega, by omega, by go_num, rfl, HF⟩
              case measure => simp [intOf]; omega
          · have HEND := Lib.hid (seg_end hij hj HT.out.kinds (fun h e => hgo ⟨h, e⟩))
            have hij' : i < j := by
              rcases Nat.lt_or_ge i j with h | h
              · exact h
              · obtain rfl : i = j := by omega
                exact absurd ⟨hlt, hk⟩ hgo
            have hdj : (∃ h : j < l.length, l[j].kind ≠ 1) ∨ j = l.length := by
              rcases Nat.lt_or_ge j l.length with h | h
              · exact .inl ⟨h, fun e => hgo ⟨h, e⟩⟩
              · exact .inr (by omega)
            have hbwx : Below w.heap.size w wx := hbel.trans (hbx.mono hzb)
            have HDJ : Hid ((∃ (kj : Int), (j : Int) < (l.length : Int) ∧ wx.cell? ⟨b, off + j * 10, none⟩ = some (.int .i64 kj) ∧ (kj == 1) = false) ∨ j = l.length) := Lib.hid (by
              rcases hdj with ⟨h, e⟩ | h
              · obtain ⟨b', off', hA', -, y2, y3, y4, y5, y6, y7, y8, y9, -, hrgj⟩ := HEL.out j h
                injection hA' with hA'
                injection hA' with e1 e2
                subst e1 e2
                exact .inl ⟨l[j].kind, by omega, (hbwx.cell (p := ⟨b, off + j * 10, none⟩) hbw).trans (hrgj 0 _ rfl), beq_eq_false_iff_ne.2 e⟩
              · exact .inr h)
            have hj0 : (0 : Int) ≤ (j : Int) := by omega
            clear hdj hgo
            rcases HT.out.fst with ⟨rfl, h0⟩ | ⟨q, hq, rfl, hq1, hq2, h0⟩
            · have HF : Hid (MrW w l done j (.slice A3 done.length c3) wx) := Lib.hid ((HI.out.call hbx).skip (by rw [HEND.out, h0]; rfl))
              clear HT HEND h0 hbel hbx hbwx HI
              rcases HDJ.out with ⟨kj, hjj, kc, dk⟩ | rfl
              · go_wp2_with fail
                go_roundw
                case rel => exact ⟨j, done, hj, by omega, rfl, HF⟩
                case measure => simp [intOf]; omega
              · go_wp2_with fail
                go_roundw
                case rel => exact ⟨l.length, done, hj, by omega, rfl, HF⟩
                case measure => simp [intOf]; omega
            · obtain ⟨b', off', hA', -, x2, x3, x4, x5, x6, x7, x8, x9, hrq, hrgq⟩ := HEL.out q hq
              injection hA' with hA'
              injection hA' with e1 e2
              subst e1 e2
              obtain ⟨S1, vs1, hS1, hr1, hown⟩ := HI.out.row
              have HG : Hid (wx.rangeAt b (off + q * 10) [.int .i64 l[q].kind, .string l[q].text, x2, x3, x4, x5, x6, x7, x8, x9]) := Lib.hid fun k u hk => (hbwx.cell (p := ⟨b, off + q * 10 + k, none⟩) hbw).trans (hrgq k u hk)
              have HCALL := Lib.hid (t_merged wx (HMG.out q hq) (hrq.keep (fun g hg => hbwx.block g (HS.out g hg)) fun _ h => h) (fun g hg => Nat.lt_of_lt_of_le (HS.out g hg) hbwx.size) (HSZ.out q hq) (Nat.le_refl _))
              have HEQ : Hid (mergeL (l.drop i) = setTxt (mergeI l[q]) (catT (segL l i j)) :: mergeL (l.drop j)) := Lib.hid (by rw [HEND.out, h0]; rfl)
              have HBS := Lib.hid fun (W : World) hW => b_string wr.heap.size wr.heap.size (catT (segL l i j)) wx W HT.out.bld hW (by
                obtain ⟨m1, m2⟩ := firstT_mem _ _ h0
                intro e
                exact m2 (List.flatMap_eq_nil_iff.1 e _ m1))
              have hq0 : decide ((q : Int) < 0) = false := decide_eq_false (by omega)
              have hq0' : decide ((0 : Int) ≤ (q : Int)) = true := decide_eq_true (by omega)
              have hqq : (q : Int) < (l.length : Int) := by omega
              have hq00 : (0 : Int) ≤ (q : Int) := by omega
              have HOWN := Lib.hid hown
              have HS1 := Lib.hid hS1
              have HR1 := Lib.hid hr1
              have HBX := Lib.hid hbx
              clear HT HEND h0 hbel hbx hbwx hrq hrgq hS1 hr1 hown
              generalize hxx : l[q] = x at *
              clear hxx
              have HDJ2 := HDJ
              rcases HDJ.out with ⟨kj, hjj, kc, dk⟩ | hjl
              all_goals
                try have hjn : decide ((j : Int) < (l.length : Int)) = false := decide_eq_false (by omega)
                go_wp2_with (refine wpList_load_mid rfl 37 (.tmp 63) rfl b (off + q * 10) rfl _ _ HG.out Try.underlying37 rfl inl_size ?_)
                ((with_reducible refine HCALL.out.mono ?_))
                rintro e W2 ⟨v, rfl, hv, hb2⟩
                obtain ⟨u0, u1, u2, u3, u4, u5, u6, u7, u8, u9, rfl⟩ := hv.opn
                have hz2w := hb2.size
                have HV1 := Lib.hid hv.one
                have HV := Lib.hid hv
                have HB2 := Lib.hid hb2
                clear hv hb2 HCALL
                have HVA : Hid ((#[u0, u1, u2, u3, u4, u5, u6, u7, u8, u9] : Array Value).all (·.oneCell') = true) := Lib.hid (by rw [← Array.all_toList, List.all_eq_true]; exact HV1.out)
                have HBW4 : Hid (Below wx.heap.size wx (W2.alloc (.cells #[u0, u1, u2, u3, u4, u5, u6, u7, u8, u9] 37))) := Lib.hid (HB2.out.alloc hz2w _)
                go_wp2_with (refine wpList_store_row rfl 37 (.tmp 7) (.tmp 65) rfl W2.heap.size #[u0, u1, u2, u3, u4, u5, u6, u7, u8, u9] rfl rfl 37 _ (Blk.new W2 _ _) inl_size (by rfl) HVA.out ?_; rw [World.setRow_alloc_new])
                have HB4 : Hid (Blk (W2.alloc (.cells #[u0, u1, u2, u3, u4, u5, u6, u7, u8, u9] 37)) W2.heap.size 37 #[u0, u1, u2, u3, u4, u5, u6, u7, u8, u9]) := Lib.hid (Blk.new W2 _ _)
                have HZ4 : Hid ((W2.alloc (.cells #[u0, u1, u2, u3, u4, u5, u6, u7, u8, u9] 37)).heap.size = W2.heap.size + 1) := Lib.hid (by simp)
                have HK4 : Hid (∀ g, g < W2.heap.size → (W2.alloc (.cells #[u0, u1, u2, u3, u4, u5, u6, u7, u8, u9] 37)).heap[g]? = W2.heap[g]?) := Lib.hid fun g hg => Below.heap_alloc W2 _ g hg
                generalize W2.alloc (.cells #[u0, u1, u2, u3, u4, u5, u6, u7, u8, u9] 37) = W4 at *
                ((with_reducible refine (HBS.out W4 HBW4.out).mono ?_))
                rintro e W5 ⟨rfl, b5, k5, z5⟩
                generalize hTX : (⟨(catT (segL l i j)).toArray⟩ : ByteArray) = txt at *
                have HTX := Lib.hid hTX
                have b5k : Blk W5 W2.heap.size 37 #[u0, u1, u2, u3, u4, u5, u6, u7, u8, u9] := (k5 _ hz2w).trans HB4.out
                have f5 : W5.frozen? ⟨W2.heap.size, 1, none⟩ = false := b5k.frozen 1
                have c5 : W5.cell? ⟨W2.heap.size, 1, none⟩ = some u1 := b5k.cell 1
                have HB6 : Hid (Blk (W5.setCell ⟨W2.heap.size, 1, none⟩ (.string txt)) W2.heap.size 37 #[u0, .string txt, u2, u3, u4, u5, u6, u7, u8, u9]) := Lib.hid (b5k.set_ 1 (.string txt))
                have HV6 : Hid (RepI (W5.setCell ⟨W2.heap.size, 1, none⟩ (.string txt)) (NewG wx W2) #[u0, .string txt, u2, u3, u4, u5, u6, u7, u8, u9] (setTxt (mergeI x) (catT (segL l i j)))) := Lib.hid ((show RepI W2 (NewG wx W2) #[u0, .string txt, u2, u3, u4, u5, u6, u7, u8, u9] (setTxt (mergeI x) (catT (segL l i j))) from HTX.out ▸ RepI.setTxt HV.out (catT (segL l i j))).keep (fun g (hg : NewG wx W2 g) => (Below.heap_setCell W5 ⟨W2.heap.size, 1, none⟩ _ g (by have := hg.2; show g ≠ W2.heap.size; omega)).trans ((k5 g hg.1).trans (HK4.out g hg.2))) fun _ h => h)
                have HBW6 : Hid (Below wr.heap.size wr (W5.setCell ⟨W2.heap.size, 1, none⟩ (.string txt))) := Lib.hid ((HBX.out.trans ((HBW4.out.mono hzx).trans b5)).setCell (p := ⟨W2.heap.size, 1, none⟩) (by show wr.heap.size ≤ W2.heap.size; omega) _)
                have HZ6 : Hid ((W5.setCell ⟨W2.heap.size, 1, none⟩ (.string txt)).heap.size = W2.heap.size + 1) := Lib.hid (by
                  have := HZ4.out
                  simp only [World.setCell, Array.size_modify]
                  omega)
                have HV7 := Lib.hid HV6.out.one
                have HOW6 := Lib.hid (own_below HOWN.out HBW6.out)
                have HPU := Lib.hid fun (W7 : World) (g7 cap7 : Nat) (o7 : Obj) hown hgrow hlies => HI.out.push (W := (W5.setCell ⟨W2.heap.size, 1, none⟩ (.string txt))) (W7 := W7) (j := j) (g := g7) (cap := cap7) (H := (W5.setCell ⟨W2.heap.size, 1, none⟩ (.string txt)).heap.size + 1) (x := setTxt (mergeI x) (catT (segL l i j))) (u := #[u0, .string txt, u2, u3, u4, u5, u6, u7, u8, u9]) (o := o7) HS1.out HR1.out HOWN.out HBW6.out HV6.out (fun g (hg : NewG wx W2 g) => ⟨Nat.le_trans hzx hg.1, by have := hg.2; have := HZ6.out; omega⟩) hown hgrow hlies (by omega) HEQ.out
                clear b5 k5 b5k z5 hTX HB4 HV HBS HBW4 HV6 HBW6 HOWN
                go_wp2_with (first | (refine wpList_load_row rfl 37 (.tmp 7) rfl W2.heap.size rfl 37 #[u0, .string txt, u2, u3, u4, u5, u6, u7, u8, u9] _ _ HB6.out Try.underlying37 rfl inl_size ?_; generalize (W5.setCell ⟨W2.heap.size, 1, none⟩ (.string txt)) = W6 at *) | (refine wpList_inSlice rfl (.tmp 69) rfl u0 (.string txt) u2 u3 u4 u5 u6 u7 u8 u9 rfl ?_) | (at_builtin; refine wpList_append_lies _ rfl _ _ 26 rfl w.heap.size 37 i0 _ 10 192 Try.underlying26 hi0 hz0 hz1 hz2 rfl (by decide) _ _ _ rfl (HOW6.out.alloc _) ⟨W6.heap.size, 0, none⟩ 1 1 [u0, .string txt, u2, u3, u4, u5, u6, u7, u8, u9] rfl rfl ?d1 ?d2 (by decide) ?d3 ?d4 ?d5 (W6.heap.size + 1) ?d6 ?_))
                case d1 => exact World.news_of_block (t := 37) (fr := (0, 0)) (heap_alloc_new W6 _)
                case d2 => exact HV7.out
                case d3 => unfold maxLen; omega
                case d4 => have := HZ6.out; omega
                case d5 => simp; have := HZ6.out; omega
                case d6 => simp
                intro g7 cap7 W7 hown hgrow hlies hlt7
                have HF := Lib.hid (HPU.out W7 g7 cap7 _ hown hgrow hlies)
                clear hown hgrow hlies hlt7 HPU HI
                go_wp2_with fail
                go_roundw
                case rel => exact ⟨j, done ++ [setTxt (mergeI x) (catT (segL l i j))], hj, by simp; omega, by first | rfl | rw [hjl], HF⟩
                case measure => simp [intOf]; omega
      · have d1 : (l[i].kind != 1) = true := bne_iff_ne.2 hk
        have hdrop : l.drop i = l[i] :: l.drop (i + 1) := List.drop_eq_getElem_cons hlt
        have HEQ : Hid (mergeL (l.drop i) = mergeI l[i] :: mergeL (l.drop (i + 1))) := Lib.hid (by rw [hdrop, mergeL_no hk])
        have HCALL := Lib.hid (t_merged wr (HMG.out i hlt) (hr.keep (fun g hg => hbel.block g (HS.out g hg)) fun _ h => h) (fun g hg => Nat.lt_of_lt_of_le (HS.out g hg) hbel.size) (HSZ.out i hlt) (Nat.le_refl _))
        have HG := Lib.hid hrgw
        have HOWN := Lib.hid hown
        have hzw := hbel.size
        have HS1 := Lib.hid hS1
        have HR1 := Lib.hid hr1
        clear hrgw hrg hr hbel hS1 hr1 hown hdrop
        generalize hxx : l[i] = x at *
        clear hxx
        go_wp2_with (refine wpList_load_mid rfl 37 (.tmp 21) rfl b (off + i * 10) rfl _ _ HG.out Try.underlying37 rfl inl_size ?_)
        ((with_reducible refine HCALL.out.mono ?_))
        rintro e W2 ⟨v, rfl, hv, hb2⟩
        obtain ⟨u0, u1, u2, u3, u4, u5, u6, u7, u8, u9, rfl⟩ := hv.opn
        have HOW2 := Lib.hid (own_below HOWN.out hb2)
        have HV1 := Lib.hid hv.one
        have hz2w := hb2.size
        have HPU := Lib.hid fun (W7 : World) (g7 cap7 : Nat) (o7 : Obj) hown hgrow hlies => HI.out.push (W := W2) (W7 := W7) (j := i + 1) (g := g7) (cap := cap7) (H := W2.heap.size + 1) (x := mergeI x) (u := #[u0, u1, u2, u3, u4, u5, u6, u7, u8, u9]) (o := o7) HS1.out HR1.out HOWN.out hb2 hv (fun g hg => hg) hown hgrow hlies (by omega) HEQ.out
        clear hb2 hv HCALL HOWN
        go_wp2_with (first | (refine wpList_inSlice rfl (.tmp 23) rfl u0 u1 u2 u3 u4 u5 u6 u7 u8 u9 rfl ?_) | (at_builtin; refine wpList_append_lies _ rfl _ _ 26 rfl w.heap.size 37 i0 _ 10 192 Try.underlying26 hi0 hz0 hz1 hz2 rfl (by decide) _ _ _ rfl (HOW2.out.alloc _) ⟨W2.heap.size, 0, none⟩ 1 1 [u0, u1, u2, u3, u4, u5, u6, u7, u8, u9] rfl rfl ?c1 ?c2 (by decide) ?c3 ?c4 ?c5 (W2.heap.size + 1) ?c6 ?_))
        case c1 => exact World.news_of_block (t := 37) (fr := (0, 0)) (heap_alloc_new W2 _)
        case c2 => exact HV1.out
        case c3 => unfold maxLen; omega
        case c4 => omega
        case c5 => simp; omega
        case c6 => simp
        intro g7 cap7 W7 hown hgrow hlies hlt7
        have HF := Lib.hid (HPU.out W7 g7 cap7 _ hown hgrow hlies)
        clear hown hgrow hlies hlt7 HPU HI
        go_wp2_with fail
        go_roundw
        case rel => exact ⟨i + 1, done ++ [mergeI x], by omega, by simp; omega, by go_num, HF⟩
        case measure => simp [intOf]; omega
    · obtain rfl : i = l.length := by omega
      obtain ⟨S1, vs1, hS1, hr1, hown⟩ := HI.out.row
      obtain ⟨A3, c3, hv3, -, -⟩ := own_form hown
      subst hv3
      have hd : mergeL l = done := by rw [HI.out.eq, List.drop_length]; simp [mergeL, mapI, joinT]
      have HF : Hid (MrgP l w (.returned (.slice A3 done.length c3)) wr) := Lib.hid (by
        unfold MrgP
        rw [hd]
        exact ⟨A3, c3, vs1, rfl, hr1.keep (fun _ _ => rfl) fun g hg => (hS1 g hg).1, hown, HI.out.bel⟩)
      clear hS1 hr1 hown hd HI
      go_wp2_with fail
      go_ret
      exact HF.out

end Go.Proofs.Ytfnloonmeilhlaa
namespace Go.Pub
theorem sumN_len (ps : List PcT) : ∀ k, sumN ps k ≤ sumZ ps k
  | 0 => Nat.le_refl _
  | k + 1 => by
    have := sumN_len ps k
    show sumN ps k + (if runP (pcX ps k) = true then _ else 0) ≤ sumZ ps k + pcZ _
    unfold pcZ
    split <;> omega
theorem sumZ_len (ps : List PcT) : ∀ k, k ≤ sumZ ps k
  | 0 => Nat.le_refl _
  | k + 1 => by
    have := sumZ_len ps k
    show k + 1 ≤ sumZ ps k + pcZ _
    unfold pcZ
    omega
end Go.Pub
namespace Go.Proofs.Ytfnloonmeilhlaa
open Go.RowKit Go.Pub
theorem merge_all : ∀ N, N ≤ 1000000 → MrgH N := fun N => by
  induction N using Nat.strongRecOn with
  | ind N ih =>
    intro hN
    refine t_merge N hN fun x hx => ih (sizeL x.kids) ?_ ?_
    · obtain ⟨k, t, d, ti, a, ar, c, ks⟩ := x
      rw [sizeI] at hx
      show sizeL ks < N
      omega
    · obtain ⟨k, t, d, ti, a, ar, c, ks⟩ := x
      rw [sizeI] at hx
      show sizeL ks ≤ _
      omega
/-- Inlines in new memory. -/
def NstP (l : List InT) (w : World) (e : Ending) (w' : World) : Prop :=
  ∃ A c vs, e = .returned (.slice A l.length c) ∧ RepIs w' (NewG w w') vs l ∧ ReadsS w' (NewG w w') 10 A l.length (vs.flatMap Array.toList) ∧ Below w.heap.size w w'
set_option maxHeartbeats 4000000 in
set_option maxRecDepth 100000 in
theorem e_NestB {L : Value} {ps : List PcT} (w : World) (hL : PcsR w (fun g => g < w.heap.size) L ps) (hlen : ps.length ≤ 30000) (hN : sumN ps ps.length ≤ 30000) (hZ : sumZ ps ps.length ≤ 1000000) :
    Calls Try.prog 12 #[L] w (NstP (nestA ps) w) := by
  obtain ⟨A0, c0, vs0, hL0, -⟩ := id hL
  subst hL0
  have HM := Lib.hid (e_match w hL hlen hN)
  obtain ⟨ids, hMI, hsz⟩ : ∃ ids, MatI ps ps.length (matchA ps) ids ∧ sizeL (inlsA ps (matchA ps) ids) ≤ sumZ ps ps.length := size_match ps ps.length (Nat.le_refl _)
  have HB : Hid (∀ w' vE vO vP S vs, EmR w' w.heap.size (w.heap.size + 1) (.slice A0 ps.length c0) vE vO vP S vs (matchA ps) → Below w.heap.size w w' →
      Calls Try.prog 26 #[.pointer (some ⟨w.heap.size + 1, 0, none⟩), .int .i64 0, .int .i64 0] w' (BetPost S w'.heap.size (inlsA ps (matchA ps) ids) w')) := Lib.hid fun w' vE vO vP S vs h hb => by
    have hR := hMI.em.ring
    obtain ⟨g, cap, rfl, -⟩ := h.row hR.pos
    have hids := hR.len
    have := hMI.len
    have := hMI.prs
    refine e_between w' h (hL.keep (fun g hg => hb.block g hg) fun g hg => h.low g hg) 0 0 ids hR.pos hR.link (fun i hi => ⟨fun e => (List.nodup_cons.1 hR.nd).1 (e ▸ hi), hR.bd i hi⟩) (fun i hi hr => ?_) (by
      omega)
    obtain ⟨r1, r2, r3⟩ := hMI.rb i hr
    obtain ⟨-, -, s3, -⟩ := runP_spec r2
    rw [runP_size r2]
    exact ⟨r1, by omega, by omega⟩
  have HN : Hid (nestA ps = mergeL (inlsA ps (matchA ps) ids)) := Lib.hid (by
    have hR := hMI.em.ring
    have hl := hR.len
    show mergeL (betF ps _ 0 _ _) = _
    rw [betF_eq ids 0 _ hR.link (fun i hi e => (List.nodup_cons.1 hR.nd).1 (e ▸ hi)) (by omega)]
    rfl)
  have HZ : Hid (sizeL (inlsA ps (matchA ps) ids) ≤ 1000000) := Lib.hid (Nat.le_trans hsz hZ)
  clear hL hMI hsz
  generalize inlsA ps (matchA ps) ids = bl at *
  go_enter Try.func12, Try.ntmps12
  go_wp2_with fail
  ((with_reducible refine HM.out.mono ?_))
  rintro e w1 ⟨rfl, b1, vE, vO, vP, S, vs, hE⟩
  have HC := Lib.hid (HB.out w1 vE vO vP S vs hE b1)
  have HS : Hid (∀ g, S g → g < w1.heap.size) := Lib.hid fun g hg => (hE.fro g hg).1
  have hz1 := b1.size
  have HB1 := Lib.hid b1
  clear hE b1 HM HB
  go_wp2_with fail
  ((with_reducible refine HC.out.mono ?_))
  rintro e w2 ⟨v, vs2, rfl, r2, o2, b2⟩
  obtain ⟨A3, c3, hv3, -, -⟩ := own_form o2
  subst hv3
  have hz2 := b2.size
  have HG := Lib.hid (merge_all 1000000 (Nat.le_refl _) bl HZ.out (fun g => S g ∨ (w1.heap.size ≤ g ∧ g < w2.heap.size)) w2 A3 c3 vs2 (r2.keep (fun _ _ => rfl) fun _ h => .inl h) ((ReadsS.of_own o2).keep (fun _ _ => rfl) fun _ h => .inr h) (fun g hg => by
    rcases hg with hg | hg
    · exact Nat.lt_of_lt_of_le (HS.out g hg) hz2
    · exact hg.2))
  have HB2 := Lib.hid (HB1.out.trans (b2.mono hz1))
  clear r2 o2 b2 HC
  go_wp2_with fail
  ((with_reducible refine HG.out.mono ?_))
  rintro e w3 ⟨A4, c4, vs4, rfl, r4, o4, b4⟩
  have hz3 : w.heap.size ≤ w2.heap.size := HB2.out.size
  have HF : Hid (NstP (nestA ps) w (.returned (.slice A4 (mergeL bl).length c4)) w3) := Lib.hid (by
    rw [HN.out]
    exact ⟨A4, c4, vs4, rfl, r4.keep (fun _ _ => rfl) fun g hg => ⟨Nat.le_trans hz3 hg.1, hg.2⟩, (ReadsS.of_own o4).keep (fun _ _ => rfl) fun g hg => ⟨Nat.le_trans hz3 hg.1, hg.2⟩, HB2.out.trans (b4.mono hz3)⟩)
  clear r4 o4 b4
  go_wp2_with fail
  go_ret
  exact HF.out

theorem e_Nest {L : Value} {ps : List PcT} (w : World) (hL : PcsR w (fun g => g < w.heap.size) L ps) (hZ : sumZ ps ps.length ≤ 30000) :
    Calls Try.prog 12 #[L] w (NstP (nestA ps) w) :=
  e_NestB w hL (Nat.le_trans (sumZ_len ps _) hZ) (Nat.le_trans (sumN_len ps _) hZ) (Nat.le_trans hZ (by decide))
/-- Matches in new memory. -/
def PrsP (l : List (Nat × Nat × Nat)) (w : World) (e : Ending) (w' : World) : Prop :=
  ∃ A c, e = .returned (.slice A l.length c) ∧ ReadsS w' (NewG w w') 3 A l.length (trips l) ∧ Below w.heap.size w w'
set_option maxHeartbeats 4000000 in
set_option maxRecDepth 100000 in
theorem e_PairsB {L : Value} {ps : List PcT} (w : World) (hL : PcsR w (fun g => g < w.heap.size) L ps) (hlen : ps.length ≤ 30000) (hN : sumN ps ps.length ≤ 30000) :
    Calls Try.prog 14 #[L] w (PrsP (matchA ps).prs w) := by
  have HM := Lib.hid (e_match w hL hlen hN)
  clear hL
  go_enter Try.func14, Try.ntmps14
  go_wp2_with fail
  ((with_reducible refine HM.out.mono ?_))
  rintro e w1 ⟨rfl, b1, vE, vO, vP, S, vs, hE⟩
  obtain ⟨A3, c3, hv3, -, -⟩ := own_form hE.prs
  subst hv3
  have cP : w1.cell? ⟨w.heap.size + 1, 20, none⟩ = some (.slice A3 (matchA ps).prs.length c3) := hE.cel.cP
  have HF : Hid (PrsP (matchA ps).prs w (.returned (.slice A3 (matchA ps).prs.length c3)) w1) := Lib.hid ⟨A3, c3, rfl, ReadsS.of_own hE.prs, b1⟩
  clear hE b1 HM
  go_wp2_with fail
  go_ret
  exact HF.out

theorem e_Pairs {L : Value} {ps : List PcT} (w : World) (hL : PcsR w (fun g => g < w.heap.size) L ps) (hZ : sumZ ps ps.length ≤ 30000) :
    Calls Try.prog 14 #[L] w (PrsP (matchA ps).prs w) :=
  e_PairsB w hL (Nat.le_trans (sumZ_len ps _) hZ) (Nat.le_trans (sumN_len ps _) hZ)
end Go.Proofs.Ytfnloonmeilhlaa
namespace Go.Pub
open Go.RowKit
/-- A run, and a piece with a text. -/
def plR (c : ByteArray) (n : Int) (o k : Bool) : PcT := ⟨1, zeroT, c, n, o, k, false, 0, 0⟩
def plW (s : ByteArray) : PcT := ⟨0, txtT 1 s, ⟨#[]⟩, 0, false, false, false, 0, 0⟩
def plC (p : PcT) : Array Value := #[.int .i64 p.kind, .int .i64 p.inl.kind, .string p.inl.text, .string ⟨#[]⟩, .string ⟨#[]⟩, .string ⟨#[]⟩, .slice none 0 0, .slice none 0 0, .slice none 0 0, .slice none 0 0, .slice none 0 0, .string p.ch, .int .i64 p.n, .bool p.opn, .bool p.clo, .bool p.img, .int .i64 p.bg, .int .i64 p.nd]
theorem RepI.txt (w : World) (S : Nat → Prop) (k : Int) (s : ByteArray) : RepI w S #[.int .i64 k, .string s, .string ⟨#[]⟩, .string ⟨#[]⟩, .string ⟨#[]⟩, .slice none 0 0, .slice none 0 0, .slice none 0 0, .slice none 0 0, .slice none 0 0] (txtT k s) :=
  .mk k s ⟨#[]⟩ ⟨#[]⟩ noAt [] [] [] none none none none none 0 0 0 0 0 [] ReadsS.none_ ReadsS.none_ ReadsS.none_ ReadsS.none_ .nil ReadsS.none_
theorem plC_rep (w : World) (S : Nat → Prop) (p : PcT) (h : p.inl = txtT p.inl.kind p.inl.text) : RepPc w S (plC p) p :=
  ⟨#[.int .i64 p.inl.kind, .string p.inl.text, .string ⟨#[]⟩, .string ⟨#[]⟩, .string ⟨#[]⟩, .slice none 0 0, .slice none 0 0, .slice none 0 0, .slice none 0 0, .slice none 0 0], by rw [h]; exact RepI.txt w S _ _, by kernel_rfl⟩
/-- What is read of an inline. -/
theorem RepIs.look {w : World} {S : Nat → Prop} {vs : List (Array Value)} {l : List InT} {A : Option Addr} (h : RepIs w S vs l) (hr : ReadsS w S 10 A l.length (vs.flatMap Array.toList)) (i : Nat) (hi : i < l.length) :
    ∃ b off, A = some ⟨b, off, none⟩ ∧ S b ∧ w.cell? ⟨b, off + i * 10, none⟩ = some (.int .i64 l[i].kind) ∧ w.cell? ⟨b, off + i * 10 + 1, none⟩ = some (.string l[i].text) ∧
      ∃ A5 c5 vs5, w.cell? ⟨b, off + i * 10 + 9, none⟩ = some (.slice A5 l[i].kids.length c5) ∧ RepIs w S vs5 l[i].kids ∧ ReadsS w S 10 A5 l[i].kids.length (vs5.flatMap Array.toList) := by
  obtain ⟨b, off, e, hb, hc⟩ := hr.row (by omega) (by decide)
  obtain ⟨v, hv, hvc⟩ := h.at_ i hi
  generalize l[i] = x at *
  cases hv with
  | mk kind text dest title att args cites kids A1 A2 A3 A4 A5 c1 c2 c3 c4 c5 vs5 h1 h2 h3 h4 h5 h6 =>
  have hcell : ∀ j, j < 10 → ∀ u, (#[Value.int .i64 kind, .string text, .string dest, .string title, .string att.id, .slice A1 att.cl.length c1, .slice A2 att.pr.length c2, .slice A3 args.length c3, .slice A4 cites.length c4, .slice A5 kids.length c5] : Array Value)[j]? = some u → w.cell? ⟨b, off + i * 10 + j, none⟩ = some u := fun j hj u hu => by
    rw [Nat.add_assoc]
    exact hc (i * 10 + j) u ((hvc j hj).trans hu)
  exact ⟨b, off, e, hb, hcell 0 (by omega) _ rfl, hcell 1 (by omega) _ rfl, A5, c5, vs5, hcell 9 (by omega) _ rfl, h5, h6⟩
end Go.Pub
namespace Go.Proofs.Ytfnloonmeilhlaa
open Go.RowKit Go.Pub
theorem pc18 : (Try.prog.info? 39).map (·.size) = some 18 := by kernel_rfl
theorem pc_info : (Try.prog.info? 39).map (fun i => (i.zero, i.size, i.bytes)) = some (some (.agg (plC zP)), 18, 248) := by kernel_rfl
set_option maxHeartbeats 1000000 in
theorem l_run (c : ByteArray) (n : Int) (o k : Bool) (w : World) : Calls Try.prog 19 #[.string c, .int .i64 n, .bool o, .bool k] w fun e w' => e = .returned (.agg (plC (plR c n o k))) ∧ Below w.heap.size w w' := by
  have HL := Lib.hid (run_loadVar_row (P := Try.prog) (w.alloc (.cells (plC (plR c n o k)) 39)) w.heap.size 39 39 (plC (plR c n o k)) (0, 0) _ (heap_alloc_new w _) Try.underlying39 rfl pc18)
  go_enter Try.func19, Try.ntmps19
  go_wp2_with (refine wpList_store_row rfl 39 (.tmp 8) (.tmp 13) rfl w.heap.size (plC (plR c n o k)) rfl rfl 39 _ (Blk.new w _ _) pc18 (by rfl) (by simp [plC, Value.oneCell']) ?_; rw [World.setRow_alloc_new])
  refine row_ret Try.results19 HL.out ?_ ?_ ⟨rfl, (Below.refl _ w).alloc (Nat.le_refl _) _⟩
  · rfl
  · rfl

set_option maxHeartbeats 1000000 in
theorem l_word (s : ByteArray) (w : World) : Calls Try.prog 20 #[.string s] w fun e w' => e = .returned (.agg (plC (plW s))) ∧ Below w.heap.size w w' := by
  have HL := Lib.hid (run_loadVar_row (P := Try.prog) (w.alloc (.cells (plC (plW s)) 39)) w.heap.size 39 39 (plC (plW s)) (0, 0) _ (heap_alloc_new w _) Try.underlying39 rfl pc18)
  go_enter Try.func20, Try.ntmps20
  go_wp2_with (refine wpList_store_row rfl 39 (.tmp 2) (.tmp 5) rfl w.heap.size (plC (plW s)) rfl rfl 39 _ (Blk.new w _ _) pc18 (by rfl) (by simp [plC, Value.oneCell']) ?_; rw [World.setRow_alloc_new])
  refine row_ret Try.results20 HL.out ?_ ?_ ⟨rfl, (Below.refl _ w).alloc (Nat.le_refl _) _⟩
  · rfl
  · rfl

def plF (ps : List PcT) : Array Value := (ps.flatMap fun p => (plC p).toList).toArray
theorem pcs_fill5 (a b c d e : PcT) : Instr.fill (fun i => some (i * 18, 18)) ((Array.range (5 * 18)).map ((Value.agg (plC zP)).cells[· % (Value.agg (plC zP)).cells.size]!)) [(0, .agg (plC a)), (1, .agg (plC b)), (2, .agg (plC c)), (3, .agg (plC d)), (4, .agg (plC e))] = some (plF [a, b, c, d, e]) := by kernel_rfl
section
variable {ops : Array Oper} {rest : List Oper} {o : Oper} {ac : Act} {w : World} {Q : Exit → Act → World → Prop}
theorem wpList_pcs5 (hg : o.guard = none) (x y z u v : Operand) (ho : o.op = .buildSlice 22 5 #[(0, x), (1, y), (2, z), (3, u), (4, v)]) (a b c d e : PcT) (hx : ac.eval x = .agg (plC a)) (hy : ac.eval y = .agg (plC b)) (hz : ac.eval z = .agg (plC c)) (hu : ac.eval u = .agg (plC d)) (hv : ac.eval v = .agg (plC e))
    (h : wpList Try.prog ops Q rest (ac.put o.dst (.slice (some ⟨w.heap.size, 0, none⟩) 5 5)) (w.alloc (.cells (plF [a, b, c, d, e]) 39))) : wpList Try.prog ops Q (o :: rest) ac w := by
  obtain ⟨i0, hi0, hz0, hz1, hz2⟩ := info_parts pc_info
  refine wpList_buildSlice hg 22 39 5 _ ho _ i0 _ Try.underlying22 hi0 hz0 (by rw [hz1]; decide) (by rw [hz1]; decide) ?_ h
  rw [hz1]
  have e : (#[((0 : Nat), x), (1, y), (2, z), (3, u), (4, v)].map fun (q : Nat × Operand) => (q.1, ac.eval q.2)).toList = [(0, ac.eval x), (1, ac.eval y), (2, ac.eval z), (3, ac.eval u), (4, ac.eval v)] := by simp
  rw [hx, hy, hz, hu, hv] at e
  show Instr.fill _ _ (#[((0 : Nat), x), (1, y), (2, z), (3, u), (4, v)].map fun (q : Nat × Operand) => (q.1, ac.eval q.2)).toList = _
  rw [e]
  exact pcs_fill5 _ _ _ _ _
end
/-- Plain pieces that were laid. -/
theorem pcs_new (w : World) (ps : List PcT) (h : ∀ p ∈ ps, p.inl = txtT p.inl.kind p.inl.text) (hn : ps.length ≤ 1000) :
    PcsR (w.alloc (.cells (plF ps) 39)) (fun g => g < (w.alloc (.cells (plF ps) 39)).heap.size) (.slice (some ⟨w.heap.size, 0, none⟩) ps.length ps.length) ps := by
  have hfl : (ps.map plC).flatMap Array.toList = ps.flatMap fun p => (plC p).toList := by rw [List.flatMap_map]
  refine ⟨_, _, ps.map plC, rfl, List.length_map _, fun i hi => ?_, ⟨?_, by unfold maxLen; omega⟩, fun h0 => ⟨_, rfl, by simp, fun j u hj => ?_⟩⟩
  · rw [List.getD_eq_getElem?_getD, List.getElem?_map, List.getElem?_eq_getElem hi]
    have e : pcX ps i = ps[i] := by unfold pcX; rw [List.getD_eq_getElem?_getD, List.getElem?_eq_getElem hi]; rfl
    rw [e]
    exact plC_rep _ _ _ (h _ (List.getElem_mem hi))
  · rw [flatz_len 18 _ (fun v hv => by obtain ⟨p, -, rfl⟩ := List.mem_map.1 hv; rfl), List.length_map]
  · have hadd : (⟨w.heap.size, 0, none⟩ : Addr).add j = ⟨w.heap.size, j, none⟩ := by unfold Addr.add; split <;> simp_all
    rw [hadd, Lib.cell_of_heap (heap_alloc_new w _)]
    unfold plF
    rw [hfl] at hj
    simpa using hj
end Go.Proofs.Ytfnloonmeilhlaa
namespace Go.Pub
def exP : List PcT := [plR ⟨#[42]⟩ 1 true false, plW ⟨#[97, 32]⟩, plR ⟨#[42]⟩ 2 true false, plW ⟨#[98]⟩, plR ⟨#[42]⟩ 3 false true]
theorem exP_nest : nestA exP = [kidT 6 [txtT 1 ⟨#[97, 32]⟩, kidT 7 [txtT 1 ⟨#[98]⟩]]] := by kernel_rfl
theorem exP_prs : (matchA exP).prs = [(2, 4, 2), (0, 4, 1)] := by decide +kernel
theorem exP_z : sumZ exP exP.length ≤ 30000 := by decide +kernel
theorem exP_inl : ∀ p ∈ exP, p.inl = txtT p.inl.kind p.inl.text := by
  intro p hp
  simp only [exP, List.mem_cons, List.not_mem_nil, or_false] at hp
  rcases hp with rfl | rfl | rfl | rfl | rfl <;> rfl
end Go.Pub
namespace Go.Proofs.Ytfnloonmeilhlaa
open Go.RowKit Go.Pub
set_option maxHeartbeats 4000000 in
set_option maxRecDepth 100000 in
theorem l_awake (w : World) : Calls Try.prog 10 #[] w fun e w' => e = .returned (.bool true) ∧ Below w.heap.size w w' := by
  have HP := Lib.hid fun (W : World) => e_Nest (W.alloc (.cells (plF exP) 39)) (pcs_new W exP exP_inl (by decide)) exP_z
  have HQ := Lib.hid fun (W W2 : World) (hb : Below (W.alloc (.cells (plF exP) 39)).heap.size (W.alloc (.cells (plF exP) 39)) W2) => e_Pairs W2 ((pcs_new W exP exP_inl (by decide)).keep (fun g hg => hb.block g hg) fun g hg => Nat.lt_of_lt_of_le hg hb.size) exP_z
  simp only [exP_nest, show exP.length = 5 from rfl] at HP
  simp only [exP_prs, show exP.length = 5 from rfl] at HQ
  go_enter Try.func10, Try.ntmps10
  go_wp2_with fail
  ((with_reducible refine (l_run _ _ _ _ _).mono ?_))
  rintro e w1 ⟨rfl, b1⟩
  have B1 := Lib.hid b1
  have z1 := b1.size
  clear b1
  go_wp2_with fail
  ((with_reducible refine (l_word _ _).mono ?_))
  rintro e w2 ⟨rfl, b2⟩
  have B2 := Lib.hid (B1.out.trans (b2.mono z1))
  have z2 := B2.out.size
  clear b2 B1 z1
  go_wp2_with fail
  ((with_reducible refine (l_run _ _ _ _ _).mono ?_))
  rintro e w3 ⟨rfl, b3⟩
  have B3 := Lib.hid (B2.out.trans (b3.mono z2))
  have z3 := B3.out.size
  clear b3 B2 z2
  go_wp2_with fail
  ((with_reducible refine (l_word _ _).mono ?_))
  rintro e w4 ⟨rfl, b4⟩
  have B4 := Lib.hid (B3.out.trans (b4.mono z3))
  have z4 := B4.out.size
  clear b4 B3 z3
  go_wp2_with fail
  ((with_reducible refine (l_run _ _ _ _ _).mono ?_))
  rintro e w5 ⟨rfl, b5⟩
  have B5 := Lib.hid (B4.out.trans (b5.mono z4))
  have z5 := B5.out.size
  clear b5 B4 z4
  have HB6 : Hid (Below w.heap.size w (w5.alloc (.cells (plF exP) 39))) := Lib.hid (B5.out.alloc z5 _)
  have hfl : plF [plR ⟨#[42]⟩ 1 true false, plW ⟨#[97, 32]⟩, plR ⟨#[42]⟩ 2 true false, plW ⟨#[98]⟩, plR ⟨#[42]⟩ 3 false true] = plF exP := rfl
  have hz6 : (w5.alloc (.cells (plF exP) 39)).heap.size = w5.heap.size + 1 := by simp
  have HPW := Lib.hid (HP.out w5)
  have HQW := Lib.hid (HQ.out w5)
  clear HP HQ
  go_wp2_with (refine wpList_pcs5 rfl _ _ _ _ _ rfl (plR ⟨#[42]⟩ 1 true false) (plW ⟨#[97, 32]⟩) (plR ⟨#[42]⟩ 2 true false) (plW ⟨#[98]⟩) (plR ⟨#[42]⟩ 3 false true) rfl rfl rfl rfl rfl ?_; rw [hfl]; generalize w5.alloc (.cells (plF exP) 39) = w6 at *)
  ((with_reducible refine HPW.out.mono ?_))
  rintro e w7 ⟨A, c, vs, rfl, hr, hm, b7⟩
  obtain ⟨b, off, rfl, hb, q1, q2, A5, c5, vs5, q3, hr5, hm5⟩ := hr.look hm 0 (by decide)
  obtain ⟨bb, oo, rfl, hb2, p1, p2, -⟩ := hr5.look hm5 0 (by decide)
  obtain ⟨bb', oo', e', -, p3, -⟩ := hr5.look hm5 1 (by decide)
  injection e' with e'
  injection e' with e1 e2
  subst e1 e2
  clear hr hm hr5 hm5
  have HPP := Lib.hid (HQW.out w7 b7)
  have B7 := Lib.hid (HB6.out.trans (b7.mono HB6.out.size))
  have z7 := B7.out.size
  have HK : Hid (∀ w8 : World, Below w7.heap.size w7 w8 → w8.cell? ⟨b, off, none⟩ = some (.int .i64 6) ∧ w8.cell? ⟨b, off + 9, none⟩ = some (.slice (some ⟨bb, oo, none⟩) 2 c5) ∧ w8.cell? ⟨bb, oo + 1, none⟩ = some (.string ⟨#[97, 32]⟩) ∧ w8.cell? ⟨bb, oo + 10, none⟩ = some (.int .i64 7)) := Lib.hid fun w8 h8 =>
    ⟨(h8.cell (p := ⟨b, off, none⟩) hb.2).trans q1, (h8.cell (p := ⟨b, off + 9, none⟩) hb.2).trans q3, (h8.cell (p := ⟨bb, oo + 1, none⟩) hb2.2).trans p2, (h8.cell (p := ⟨bb, oo + 10, none⟩) hb2.2).trans p3⟩
  clear q1 q2 q3 p1 p2 p3 b7 HPW HQW
  go_wp2_with fail
  ((with_reducible refine HPP.out.mono ?_))
  rintro e w8 ⟨A8, c8, rfl, hm8, b8⟩
  obtain ⟨k1, k2, k3, k4⟩ := HK.out w8 b8
  obtain ⟨b9, o9, rfl, hb9, hc9⟩ := hm8.row (by decide) (by decide)
  have HB8 := Lib.hid (B7.out.trans (b8.mono z7))
  have r0 : w8.cell? ⟨b9, o9, none⟩ = some (.int .i64 2) := hc9 0 _ rfl
  have r1 : w8.cell? ⟨b9, o9 + 1, none⟩ = some (.int .i64 4) := hc9 1 _ rfl
  have r2 : w8.cell? ⟨b9, o9 + 2, none⟩ = some (.int .i64 2) := hc9 2 _ rfl
  have r3 : w8.cell? ⟨b9, o9 + 3, none⟩ = some (.int .i64 0) := hc9 3 _ rfl
  have r4 : w8.cell? ⟨b9, o9 + 3 + 1, none⟩ = some (.int .i64 4) := hc9 4 _ rfl
  have r5 : w8.cell? ⟨b9, o9 + 3 + 2, none⟩ = some (.int .i64 1) := hc9 5 _ rfl
  have he1 : ∀ W, Sem.run Try.prog (Op.equalIn 10000 30 (Value.agg #[.int .i64 2, .int .i64 4, .int .i64 2]) (Value.agg #[.int .i64 2, .int .i64 4, .int .i64 2])) W = .ok true W := fun _ => by kernel_rfl
  have he2 : ∀ W, Sem.run Try.prog (Op.equalIn 10000 30 (Value.agg #[.int .i64 0, .int .i64 4, .int .i64 1]) (Value.agg #[.int .i64 0, .int .i64 4, .int .i64 1])) W = .ok true W := fun _ => by kernel_rfl
  clear hm8 hc9 b8 HK HPP
  go_wp2_with fail
  go_ret
  exact ⟨rfl, HB8.out⟩

end Go.Proofs.Ytfnloonmeilhlaa
namespace Go.Pub
open Go.RowKit
theorem trips_at : ∀ (l : List (Nat × Nat × Nat)) (k : Nat) (h : k < l.length), (trips l)[k * 3]? = some (.int .i64 l[k].1) ∧ (trips l)[k * 3 + 1]? = some (.int .i64 l[k].2.1) ∧ (trips l)[k * 3 + 2]? = some (.int .i64 l[k].2.2)
  | x :: l, 0, _ => ⟨rfl, rfl, rfl⟩
  | x :: l, k + 1, h => by
    have := trips_at l k (by simpa using h)
    rw [show (k + 1) * 3 = k * 3 + 1 + 1 + 1 by omega]
    exact this
/-- The cells of a match. -/
theorem trips_cell {w : World} {S : Nat → Prop} {A : Option Addr} {l : List (Nat × Nat × Nat)} (h : ReadsS w S 3 A l.length (trips l)) (i : Nat) (hi : i < l.length) : ∃ b off, A = some ⟨b, off, none⟩ ∧ S b ∧ w.cell? ⟨b, off + i * 3, none⟩ = some (.int .i64 l[i].1) ∧ w.cell? ⟨b, off + i * 3 + 1, none⟩ = some (.int .i64 l[i].2.1) ∧ w.cell? ⟨b, off + i * 3 + 2, none⟩ = some (.int .i64 l[i].2.2) := by
  obtain ⟨b, off, e, hb, hc⟩ := h.row (by omega) (by decide)
  obtain ⟨e0, e1, e2⟩ := trips_at l i hi
  exact ⟨b, off, e, hb, hc _ _ e0, by rw [Nat.add_assoc]; exact hc _ _ e1, by rw [Nat.add_assoc]; exact hc _ _ e2⟩
end Go.Pub
namespace Go.Proofs.Ytfnloonmeilhlaa
open Go.RowKit Go.Pub
set_option maxHeartbeats 8000000 in
set_option maxRecDepth 100000 in
theorem law10_crosses {L : Value} {ps : List PcT} (w : World) (hL : PcsR w (fun g => g < w.heap.size) L ps) (ho : OkPs ps) : Calls Try.prog 5 #[L] w (BoolP true w) := by
  have HF := Lib.hid (t_few w hL (fun _ h => h) ho)
  obtain ⟨A0, c0, vs0, hL0, -⟩ := id hL
  subst hL0
  cases hf : fewP ps with
  | false =>
    rw [hf] at HF
    clear hL ho hf
    go_enter Try.func5, Try.ntmps5
    go_wp2_with fail
    ((with_reducible refine HF.out.mono ?_))
    rintro e w1 ⟨rfl, b1⟩
    have HB1 := Lib.hid b1
    clear b1 HF
    go_wp2_with fail
    ((with_reducible refine (l_awake w1).mono ?_))
    rintro e w2 ⟨rfl, b2⟩
    have HB2 := Lib.hid (HB1.out.trans (b2.mono HB1.out.size))
    clear b2
    go_wp2_with fail
    go_ret
    exact ⟨rfl, HB2.out⟩
  | true =>
    rw [hf] at HF
    obtain ⟨f1, f2, f3⟩ := few_sums hf
    obtain ⟨ids, -, hcr⟩ : ∃ ids, MatI ps ps.length (matchA ps) ids ∧ CrI ps.length (matchA ps) ids := cross_all ps ps.length (Nat.le_refl _)
    have HFIT := Lib.hid hcr.fit
    have HNOX := Lib.hid hcr.nox
    have HL := Lib.hid hL
    have HPR := Lib.hid fun (W : World) (hb : Below w.heap.size w W) => e_PairsB W (hL.keep (fun g hg => hb.block g hg) fun g hg => Nat.lt_of_lt_of_le hg hb.size) (by omega) (by omega)
    clear hL ho hf hcr
    generalize (matchA ps).prs = prs at *
    go_enter Try.func5, Try.ntmps5
    go_wp2_with fail
    ((with_reducible refine HF.out.mono ?_))
    rintro e w1 ⟨rfl, b1⟩
    have HP1 := Lib.hid (HPR.out w1 b1)
    have HB1 := Lib.hid b1
    clear b1 HF HPR
    go_wp2_with fail
    ((with_reducible refine HP1.out.mono ?_))
    rintro e w2 ⟨A2, c2, rfl, hr, b2⟩
    have HR := Lib.hid hr
    have HB2 := Lib.hid (HB1.out.trans (b2.mono HB1.out.size))
    have hpl : prs.length ≤ 9223372036854775807 := by have := hr.1.2; unfold maxLen at this; omega
    clear hr b2 HP1
    go_wp2_with fail
    go_loopw [4] (fun v4 wr => ∃ i : Nat, i ≤ prs.length ∧ v4 = .int .i64 i ∧ Hid (Below w2.heap.size w2 wr)) (fun v4 _ => prs.length - (intOf v4).toNat)
    case atStart => exact ⟨0, Nat.zero_le _, rfl, Lib.hid (Below.refl _ _)⟩
    case round =>
      obtain ⟨i, hi, rfl, HBw⟩ := hrel
      by_cases hlt : i < prs.length
      · obtain ⟨b, off, rfl, hb, k0, k1, k2⟩ := trips_cell HR.out i hlt
        have hbw := HBw.out
        have c0 : wr.cell? ⟨b, off + i * 3, none⟩ = some (.int .i64 prs[i].1) := (hbw.cell (p := ⟨b, off + i * 3, none⟩) hb.2).trans k0
        have c1 : wr.cell? ⟨b, off + i * 3 + 1, none⟩ = some (.int .i64 prs[i].2.1) := (hbw.cell (p := ⟨b, off + i * 3 + 1, none⟩) hb.2).trans k1
        have c2 : wr.cell? ⟨b, off + i * 3 + 2, none⟩ = some (.int .i64 prs[i].2.2) := (hbw.cell (p := ⟨b, off + i * 3 + 2, none⟩) hb.2).trans k2
        obtain ⟨g1, g2, g3, g4⟩ := HFIT.out _ (List.getElem_mem hlt)
        have HNI := Lib.hid fun k (hk : k < prs.length) => HNOX.out _ (List.getElem_mem hlt) _ (List.getElem_mem hk)
        have hii : (i : Int) < (prs.length : Int) := by omega
        have hi00 : (0 : Int) ≤ (i : Int) := by omega
        have K0 := Lib.hid k0
        have K1 := Lib.hid k1
        clear k0 k1 k2 hbw
        obtain ⟨o, e1⟩ : ∃ o, o = prs[i].1 := ⟨_, rfl⟩
        obtain ⟨cl, e2⟩ : ∃ cl, cl = prs[i].2.1 := ⟨_, rfl⟩
        obtain ⟨nn, e3⟩ : ∃ nn, nn = prs[i].2.2 := ⟨_, rfl⟩
        rw [← e1] at c0 g1 K0
        rw [← e2] at c1 g1 g2 K1
        rw [← e3] at c2 g3 g4
        have d1 : decide ((o : Int) < 0) = false := decide_eq_false (by omega)
        have d2 : decide ((cl : Int) ≤ (o : Int)) = false := decide_eq_false (by omega)
        have d3 : decide ((ps.length : Int) ≤ (cl : Int)) = false := decide_eq_false (by omega)
        have d4 : decide ((nn : Int) < 1) = false := decide_eq_false (by omega)
        have d5 : decide ((2 : Int) < (nn : Int)) = false := decide_eq_false (by omega)
        have HE1 := Lib.hid e1
        have HE2 := Lib.hid e2
        clear e1 e2 e3
        go_wp2_with fail
        go_quiet (fail)
        go_wp2_with fail
        have n2 : decide (cl ≤ o) = false := decide_eq_false (by omega)
        have n3 : decide (ps.length ≤ cl) = false := decide_eq_false (by omega)
        have n4 : decide (nn < 1) = false := decide_eq_false (by omega)
        have n5 : decide (2 < nn) = false := decide_eq_false (by omega)
        simp only [d4, d5, n2, n3, n4, n5, Bool.or_self]
        clear n2 n3 n4 n5
        clear d1 d2 d3 d4 d5 c2
        go_loopw [5] (fun v5 wq => ∃ k : Nat, k ≤ prs.length ∧ v5 = .int .i64 k ∧ Hid (Below w2.heap.size w2 wq)) (fun v5 _ => prs.length - (intOf v5).toNat)
        case atStart => exact ⟨0, Nat.zero_le _, rfl, Lib.hid (below_drewN HBw.out _)⟩
        case round =>
          rename World => wq
          clear c0 c1
          obtain ⟨k, hk, rfl, HBq⟩ := hrel
          have hbq := HBq.out
          have c0 : wq.cell? ⟨b, off + i * 3, none⟩ = some (.int .i64 o) := (hbq.cell (p := ⟨b, off + i * 3, none⟩) hb.2).trans K0.out
          have c1 : wq.cell? ⟨b, off + i * 3 + 1, none⟩ = some (.int .i64 cl) := (hbq.cell (p := ⟨b, off + i * 3 + 1, none⟩) hb.2).trans K1.out
          by_cases hkl : k < prs.length
          · obtain ⟨b', off', e', -, p0, p1, -⟩ := trips_cell HR.out k hkl
            injection e' with e'
            injection e' with e1 e2
            subst e1 e2
            have q0 : wq.cell? ⟨b, off + k * 3, none⟩ = some (.int .i64 prs[k].1) := (hbq.cell (p := ⟨b, off + k * 3, none⟩) hb.2).trans p0
            have q1 : wq.cell? ⟨b, off + k * 3 + 1, none⟩ = some (.int .i64 prs[k].2.1) := (hbq.cell (p := ⟨b, off + k * 3 + 1, none⟩) hb.2).trans p1
            have hno := HNI.out k hkl
            unfold NoX at hno
            rw [← HE1.out, ← HE2.out] at hno
            have hkk : (k : Int) < (prs.length : Int) := by omega
            have hk00 : (0 : Int) ≤ (k : Int) := by omega
            clear p0 p1 hbq
            generalize prs[k].1 = p at *
            generalize prs[k].2.1 = q at *
            by_cases h1 : o < p
            · have h1' : (o : Int) < (p : Int) := by omega
              by_cases h2 : p < cl
              · have h2' : (p : Int) < (cl : Int) := by omega
                have h3' : (q : Int) ≤ (cl : Int) := by rcases hno h1 with h | h <;> omega
                clear hno
                go_wp2_with fail
                go_quiet (fail)
                go_wp2_with fail
                go_roundw
                case rel => exact ⟨k + 1, by omega, by go_num, Lib.hid (below_drewN HBq.out _)⟩
                case measure => simp [intOf]; omega
              · have h2' : decide ((p : Int) < (cl : Int)) = false := decide_eq_false (by omega)
                have h3' : (cl : Int) ≤ (p : Int) := by omega
                clear hno
                go_wp2_with fail
                go_quiet (fail)
                go_wp2_with fail
                go_roundw
                case rel => exact ⟨k + 1, by omega, by go_num, Lib.hid (below_drewN HBq.out _)⟩
                case measure => simp [intOf]; omega
            · have h1' : decide ((o : Int) < (p : Int)) = false := decide_eq_false (by omega)
              clear hno
              go_wp2_with fail
              go_quiet (fail)
              go_wp2_with fail
              go_roundw
              case rel => exact ⟨k + 1, by omega, by go_num, Lib.hid (below_drewN HBq.out _)⟩
              case measure => simp [intOf]; omega
          · obtain rfl : k = prs.length := by omega
            go_wp2_with fail
            go_roundw
            case rel => exact ⟨i + 1, by omega, by go_num, HBq⟩
            case measure => simp [intOf]; omega
      · obtain rfl : i = prs.length := by omega
        go_wp2_with fail
        ((with_reducible refine (l_awake wr).mono ?_))
        rintro e w3 ⟨rfl, b3⟩
        have HB3 := Lib.hid ((HB2.out.trans (HBw.out.mono HB2.out.size)).trans (b3.mono (HB2.out.trans (HBw.out.mono HB2.out.size)).size))
        clear b3
        go_wp2_with fail
        go_ret
        exact ⟨rfl, HB3.out⟩

end Go.Proofs.Ytfnloonmeilhlaa
namespace Go.Proofs.Ytfnloonmeilhlaa
open Go.RowKit Go.Pub Go.ChangeShapes Go.WideShapes
set_option maxRecDepth 100000 in
theorem open_pcsA {H : Type} {enc : TypeId × Value → H} {W : World} {r : Reach} {b0 : Nat} {v : Value} {d : DataW H} {p : List MemPlace} (hv : Value.okWide Try.prog W r b0 22 v) (h : DataW.Trod enc Try.prog W 0 (fun _ => true) true 22 v d p) (hw : Wt Try.prog 22 d) :
    ∃ ps, PcsR W (fun g => g < W.heap.size) v ps ∧ OkPs ps := by
  obtain ⟨a0, len0, cap0, rfl⟩ := okWide_slice Try.underlying22 hv
  obtain ⟨fuel, hf⟩ := h
  obtain ⟨ps, A, c, e, hp, ho⟩ := open_pcs hf hw
  have e1 : [Value.slice a0 len0 cap0] = [.slice A ps.length c] := e
  injection e1 with e1 _
  rw [e1]
  exact ⟨ps, hp, ho⟩

end Go.Proofs.Ytfnloonmeilhlaa
