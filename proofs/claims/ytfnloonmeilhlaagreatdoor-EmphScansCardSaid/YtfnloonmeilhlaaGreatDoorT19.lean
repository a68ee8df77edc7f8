/-
  Texts of the proof, put together (what this law reaches): EmMC, EmMF, EmNA, EmLB.
-/
import Derived.Test.YtfnloonmeilhlaaGreatDoorT18
import Derived.Test.YtfnloonmeilhlaaGreatDoorT17
import Derived.Test.YtfnloonmeilhlaaGreatDoorT06
import Derived.KernelRfl
set_option linter.unusedVariables false
set_option linter.unusedSimpArgs false
namespace Go.Pub
theorem sizeL_mem : ∀ (l : List InT) (i : Nat) (hi : i < l.length), sizeI l[i] ≤ sizeL l
  | x :: l, 0, _ => by show sizeI x ≤ sizeL (x :: l); rw [sizeL]; omega
  | x :: l, i + 1, hi => by
    have hi' : i < l.length := by simpa using hi
    show sizeI (l[i]'hi') ≤ sizeL (x :: l)
    rw [sizeL]
    have := sizeL_mem l i hi'
    omega
theorem sizeL_len : ∀ (l : List InT), l.length ≤ sizeL l
  | [] => Nat.zero_le _
  | x :: l => by
    rw [sizeL, List.length_cons]
    have := sizeL_len l
    have : 1 ≤ sizeI x := by obtain ⟨k, t, d, ti, a, ar, c, ks⟩ := x; rw [sizeI]; omega
    omega
end Go.Pub
namespace Go.Proofs.YtfnloonmeilhlaaGreatDoor
open Go.RowKit Go.Pub
theorem RepI.setTxt {w : World} {S : Nat → Prop} {u0 u1 u2 u3 u4 u5 u6 u7 u8 u9 : Value} {x : InT} (h : RepI w S #[u0, u1, u2, u3, u4, u5, u6, u7, u8, u9] x) (s : List UInt8) : RepI w S #[u0, .string ⟨s.toArray⟩, u2, u3, u4, u5, u6, u7, u8, u9] (setTxt x s) := by
  cases h
  next h1 h2 h3 h4 h5 h6 => exact .mk _ _ _ _ _ _ _ _ _ _ _ _ _ _ _ _ _ _ _ h1 h2 h3 h4 h5 h6
set_option maxHeartbeats 8000000 in
set_option maxRecDepth 100000 in
theorem t_merge (N : Nat) (hN : N ≤ 1000000) (hM : ∀ x : InT, sizeI x ≤ N → MrgH (sizeL x.kids)) : MrgH N := by
  intro l hl S w A c vs h1 h2 hS
  have hlen := sizeL_len l
  have HEL : Hid (∀ i (hi : i < l.length), ∃ b off, A = some ⟨b, off, none⟩ ∧ b < w.heap.size ∧ ∃ x2 x3 x4 x5 x6 x7 x8 x9, RepI w S #[.int .i64 l[i].kind, .string l[i].text, x2, x3, x4, x5, x6, x7, x8, x9] l[i] ∧ w.rangeAt b (off + i * 10) [.int .i64 l[i].kind, .string l[i].text, x2, x3, x4, x5, x6, x7, x8, x9]) := Lib.hid fun i hi => by
    obtain ⟨b, off, e, hb, hc⟩ := h2.row (by omega) (by decide)
    obtain ⟨v, hv, hvc⟩ := h1.at_ i hi
    obtain ⟨x0, x1, x2, x3, x4, x5, x6, x7, x8, x9, rfl⟩ := hv.opn
    obtain ⟨rfl, rfl⟩ := RepI.two hv
    refine ⟨b, off, e, hS b hb, x2, x3, x4, x5, x6, x7, x8, x9, hv, fun j u hj => ?_⟩
    have hj10 := (List.getElem?_eq_some_iff.1 hj).1
    simp only [List.length_cons, List.length_nil] at hj10
    rw [Nat.add_assoc]
    refine hc (i * 10 + j) u ?_
    rw [hvc j hj10, ← hj, ← Array.getElem?_toList]
  have HMG := Lib.hid fun i (hi : i < l.length) => hM l[i] (Nat.le_trans (sizeL_mem l i hi) hl)
  have HSZ := Lib.hid fun i (hi : i < l.length) => Nat.le_trans (sizeL_mem l i hi) (Nat.le_trans hl hN)
  have HS := Lib.hid hS
  have HSL : Hid (sizeL l ≤ 1000000) := Lib.hid (Nat.le_trans hl hN)
  have H0 := Lib.hid (MrW.start w l)
  obtain ⟨i0, hi0, hz0, hz1, hz2⟩ := info_parts inl_info
  have hll : l.length ≤ 1000000 := by omega
  clear h1 h2 hS hM hl
  go_enter Tryz.func13, Tryz.ntmps13
  go_wp2_with fail
  go_loopw [3, 4] (fun v3 v4 wr => ∃ (i : Nat) (done : List InT), i ≤ l.length ∧ done.length ≤ i ∧ v4 = .int .i64 i ∧ Hid (MrW w l done i v3 wr)) (fun _ v4 _ => l.length - (intOf v4).toNat)
  case atStart => exact ⟨0, [], Nat.zero_le _, Nat.zero_le _, rfl, H0⟩
  case round =>
    clear H0
    obtain ⟨i, done, hi, hdi, rfl, HI⟩ := hrel
    by_cases hlt : i < l.length
    · obtain ⟨b, off, hA, hbw, x2, x3, x4, x5, x6, x7, x8, x9, hr, hrg⟩ := HEL.out i hlt
      subst hA
      have hbel := HI.out.bel
      obtain ⟨S1, vs1, hS1, hr1, hown⟩ := HI.out.row
      obtain ⟨A3, c3, hv3, -, -⟩ := own_form hown
      subst hv3
      have hrgw : wr.rangeAt b (off + i * 10) [.int .i64 l[i].kind, .string l[i].text, x2, x3, x4, x5, x6, x7, x8, x9] := fun j u hj => (hbel.cell (p := ⟨b, off + i * 10 + j, none⟩) hbw).trans (hrg j u hj)
      have k0 : wr.cell? ⟨b, off + i * 10, none⟩ = some (.int .i64 l[i].kind) := hrgw 0 _ rfl
      have hii : (i : Int) < (l.length : Int) := by omega
      have hi00 : (0 : Int) ≤ (i : Int) := by omega
      by_cases hk : l[i].kind = 1
      · have d1 : (l[i].kind != 1) = false := by rw [hk]; rfl
        have HT0 := Lib.hid (TxW.start l i wr)
        clear hrgw hrg hr hS1 hr1 hown
        go_wp2_with fail
        clear d1 k0
        go_loopw [4, 5] (fun v4 v5 wx => ∃ (j : Nat) (f : Int), i ≤ j ∧ j ≤ l.length ∧ v4 = .int .i64 j ∧ v5 = .int .i64 f ∧ Hid (TxW l i j f wr wx)) (fun v4 _ _ => l.length - (intOf v4).toNat)
        case atStart => exact ⟨i, -1, Nat.le_refl _, by omega, rfl, rfl, HT0⟩
        case round =>
          clear HT0
          rename World => wx
          obtain ⟨j, f, hij, hj, rfl, rfl, HT⟩ := hrel
          have hbx := HT.out.bel
          have hzx := hbx.size
          have hzb := hbel.size
          by_cases hgo : ∃ h : j < l.length, l[j].kind = 1
          · obtain ⟨hjl, hkj⟩ := hgo
            obtain ⟨b', off', hA', -, y2, y3, y4, y5, y6, y7, y8, y9, -, hrgj⟩ := HEL.out j hjl
            injection hA' with hA'
            injection hA' with e1 e2
            subst e1 e2
            have kc : wx.cell? ⟨b, off + j * 10, none⟩ = some (.int .i64 l[j].kind) := (hbx.cell (p := ⟨b, off + j * 10, none⟩) (by show b < _; omega)).trans ((hbel.cell (p := ⟨b, off + j * 10, none⟩) hbw).trans (hrgj 0 _ rfl))
            have tc : wx.cell? ⟨b, off + j * 10 + 1, none⟩ = some (.string l[j].text) := (hbx.cell (p := ⟨b, off + j * 10 + 1, none⟩) (by show b < _; omega)).trans ((hbel.cell (p := ⟨b, off + j * 10 + 1, none⟩) hbw).trans (hrgj 1 _ rfl))
            have hjj : (j : Int) < (l.length : Int) := by omega
            have hj0 : (0 : Int) ≤ (j : Int) := by omega
            have dk : (l[j].kind == 1) = true := by rw [hkj]; rfl
            have HLEN : Hid ((Lib.byteCells (catT (segL l i j))).length + l[j].text.size ≤ 140737488355328) := Lib.hid (by
              rw [Lib.byteCells_length]
              have h1 := catT_len (segL l i j)
              have h2 := segL_size l i j
              have h3 := HSZ.out j hjl
              have h4 : l[j].text.size ≤ sizeI l[j] := by
                generalize l[j] = x
                obtain ⟨k, t, d, ti, a, ar, c, ks⟩ := x
                rw [sizeI]; show t.size ≤ _; omega
              have h5 := HSL.out
              omega)
            have HSTEP := Lib.hid fun (w2 : World) (f' : Int) hb hbd hf => HT.out.step (w2 := w2) (f' := f') hij hjl hkj hb hbd hf
            have HBL := Lib.hid HT.out.bld
            have HSC : Hid (Lib.strCells l[j].text = Lib.byteCells l[j].text.toList) := Lib.hid (by rw [Lib.strCells_eq, Lib.toList_data])
            have hwz : wr.heap.size ≤ wx.heap.size := hzx
            have HFS := Lib.hid HT.out.fst
            clear hrgj hbx HT hbel
            generalize l[j].text = t at *
            generalize l[j].kind = kj at *
            rcases HFS.out with ⟨rfl, -⟩ | ⟨q, hq, rfl, hq1, hq2, -⟩
            · by_cases ht : t.toList = []
              · have ht2 : t.toList.isEmpty = true := by rw [ht]; rfl
                go_wp2_with fail
                ((with_reducible refine (writeString_k wr.heap.size wr.heap.size _ _ _ HBL.out HLEN.out hwz).mono ?_))
                rintro e W1 ⟨rfl, h1, b2, -⟩
                rw [HSC.out] at h1
                have HF := Lib.hid (HSTEP.out W1 (-1) b2 (.inr h1) (by simp [ht]))
                clear h1 b2 HSTEP HBL
                go_wp2_with fail
                go_roundw
                case rel => exact ⟨j + 1, -1, by omega, by omega, by go_num, rfl, HF⟩
                case measure => simp [intOf]; omega
              · have ht2 : t.toList.isEmpty = false := by cases h : t.toList with | nil => exact absurd h ht | cons => rfl
                have ht3 : (t.toList == []) = false := by cases h : t.toList with | nil => exact absurd h ht | cons => rfl
                go_wp2_with fail
                ((with_reducible refine (writeString_k wr.heap.size wr.heap.size _ _ _ HBL.out HLEN.out hwz).mono ?_))
                rintro e W1 ⟨rfl, h1, b2, -⟩
                rw [HSC.out] at h1
                have HF := Lib.hid (HSTEP.out W1 ((j : Int)) b2 (.inr h1) (by simp [ht]))
                clear h1 b2 HSTEP HBL
                go_wp2_with fail
                go_roundw
                case rel => exact ⟨j + 1, (j : Int), by omega, by omega, by go_num, rfl, HF⟩
                case measure => simp [intOf]; omega
            · have hq0 : decide ((q : Int) < 0) = false := decide_eq_false (by omega)
              go_wp2_with fail
              ((with_reducible refine (writeString_k wr.heap.size wr.heap.size _ _ _ HBL.out HLEN.out hwz).mono ?_))
              rintro e W1 ⟨rfl, h1, b2, -⟩
              rw [HSC.out] at h1
              have HF := Lib.hid (HSTEP.out W1 ((q : Int)) b2 (.inr h1) (by rw [if_neg (by omega)]))
              clear h1 b2 HSTEP HBL
              go_wp2_with fail
              go_roundw
              case rel => exact ⟨j + 1, (q : Int), by omega, by omega, by go_num, rfl, HF⟩
              case measure => simp [intOf]; omega
          · have HEND := Lib.hid (seg_end hij hj HT.out.kinds (fun h e => hgo ⟨h, e⟩))
            have hij' : i < j := by
              rcases Nat.lt_or_ge i j with h | h
              · exact h
              · obtain rfl : i = j := by omega
                exact absurd ⟨hlt, hk⟩ hgo
            have hdj : (∃ h : j < l.length, l[j].kind ≠ 1) ∨ j = l.length := by
              rcases Nat.lt_or_ge j l.length with h | h
              · exact .inl ⟨h, fun e => hgo ⟨h, e⟩⟩
              · exact .inr (by omega)
            have hbwx : Below w.heap.size w wx := hbel.trans (hbx.mono hzb)
            have HDJ : Hid ((∃ (kj : Int), (j : Int) < (l.length : Int) ∧ wx.cell? ⟨b, off + j * 10, none⟩ = some (.int .i64 kj) ∧ (kj == 1) = false) ∨ j = l.length) := Lib.hid (by
              rcases hdj with ⟨h, e⟩ | h
              · obtain ⟨b', off', hA', -, y2, y3, y4, y5, y6, y7, y8, y9, -, hrgj⟩ := HEL.out j h
                injection hA' with hA'
                injection hA' with e1 e2
                subst e1 e2
                exact .inl ⟨l[j].kind, by omega, (hbwx.cell (p := ⟨b, off + j * 10, none⟩) hbw).trans (hrgj 0 _ rfl), beq_eq_false_iff_ne.2 e⟩
              · exact .inr h)
            have hj0 : (0 : Int) ≤ (j : Int) := by omega
            clear hdj hgo
            rcases HT.out.fst with ⟨rfl, h0⟩ | ⟨q, hq, rfl, hq1, hq2, h0⟩
            · have HF : Hid (MrW w l done j (.slice A3 done.length c3) wx) := Lib.hid ((HI.out.call hbx).skip (by rw [HEND.out, h0]; rfl))
              clear HT HEND h0 hbel hbx hbwx HI
              rcases HDJ.out with ⟨kj, hjj, kc, dk⟩ | rfl
              · go_wp2_with fail
                go_roundw
                case rel => exact ⟨j, done, hj, by omega, rfl, HF⟩
                case measure => simp [intOf]; omega
              · go_wp2_with fail
                go_roundw
                case rel => exact ⟨l.length, done, hj, by omega, rfl, HF⟩
                case measure => simp [intOf]; omega
            · obtain ⟨b', off', hA', -, x2, x3, x4, x5, x6, x7, x8, x9, hrq, hrgq⟩ := HEL.out q hq
              injection hA' with hA'
              injection hA' with e1 e2
              subst e1 e2
              obtain ⟨S1, vs1, hS1, hr1, hown⟩ := HI.out.row
              have HG : Hid (wx.rangeAt b (off + q * 10) [.int .i64 l[q].kind, .string l[q].text, x2, x3, x4, x5, x6, x7, x8, x9]) := Lib.hid fun k u hk => (hbwx.cell (p := ⟨b, off + q * 10 + k, none⟩) hbw).trans (hrgq k u hk)
              have HCALL := Lib.hid (t_merged wx (HMG.out q hq) (hrq.keep (fun g hg => hbwx.block g (HS.out g hg)) fun _ h => h) (fun g hg => Nat.lt_of_lt_of_le (HS.out g hg) hbwx.size) (HSZ.out q hq) (Nat.le_refl _))
              have HEQ : Hid (mergeL (l.drop i) = setTxt (mergeI l[q]) (catT (segL l i j)) :: mergeL (l.drop j)) := Lib.hid (by rw [HEND.out, h0]; rfl)
              have HBS := Lib.hid fun (W : World) hW => b_string wr.heap.size wr.heap.size (catT (segL l i j)) wx W HT.out.bld hW (by
                obtain ⟨m1, m2⟩ := firstT_mem _ _ h0
                intro e
                exact m2 (List.flatMap_eq_nil_iff.1 e _ m1))
              have hq0 : decide ((q : Int) < 0) = false := decide_eq_false (by omega)
              have hq0' : decide ((0 : Int) ≤ (q : Int)) = true := decide_eq_true (by omega)
              have hqq : (q : Int) < (l.length : Int) := by omega
              have hq00 : (0 : Int) ≤ (q : Int) := by omega
              have HOWN := Lib.hid hown
              have HS1 := Lib.hid hS1
              have HR1 := Lib.hid hr1
              have HBX := Lib.hid hbx
              clear HT HEND h0 hbel hbx hbwx hrq hrgq hS1 hr1 hown
              generalize hxx : l[q] = x at *
              clear hxx
              have HDJ2 := HDJ
              rcases HDJ.out with ⟨kj, hjj, kc, dk⟩ | hjl
              all_goals
                try have hjn : decide ((j : Int) < (l.length : Int)) = false := decide_eq_false (by omega)
                go_wp2_with (refine wpList_load_mid rfl 32 (.tmp 63) rfl b (off + q * 10) rfl _ _ HG.out Tryz.underlying32 rfl inl_size ?_)
                ((with_reducible refine HCALL.out.mono ?_))
                rintro e W2 ⟨v, rfl, hv, hb2⟩
                obtain ⟨u0, u1, u2, u3, u4, u5, u6, u7, u8, u9, rfl⟩ := hv.opn
                have hz2w := hb2.size
                have HV1 := Lib.hid hv.one
                have HV := Lib.hid hv
                have HB2 := Lib.hid hb2
                clear hv hb2 HCALL
                have HVA : Hid ((#[u0, u1, u2, u3, u4, u5, u6, u7, u8, u9] : Array Value).all (·.oneCell') = true) := Lib.hid (by rw [← Array.all_toList, List.all_eq_true]; exact HV1.out)
                have HBW4 : Hid (Below wx.heap.size wx (W2.alloc (.cells #[u0, u1, u2, u3, u4, u5, u6, u7, u8, u9] 32))) := Lib.hid (HB2.out.alloc hz2w _)
                go_wp2_with (refine wpList_store_row rfl 32 (.tmp 7) (.tmp 65) rfl W2.heap.size #[u0, u1, u2, u3, u4, u5, u6, u7, u8, u9] rfl rfl 32 _ (Blk.new W2 _ _) inl_size (by rfl) HVA.out ?_; rw [World.setRow_alloc_new])
                have HB4 : Hid (Blk (W2.alloc (.cells #[u0, u1, u2, u3, u4, u5, u6, u7, u8, u9] 32)) W2.heap.size 32 #[u0, u1, u2, u3, u4, u5, u6, u7, u8, u9]) := Lib.hid (Blk.new W2 _ _)
                have HZ4 : Hid ((W2.alloc (.cells #[u0, u1, u2, u3, u4, u5, u6, u7, u8, u9] 32)).heap.size = W2.heap.size + 1) := Lib.hid (by simp)
                have HK4 : Hid (∀ g, g < W2.heap.size → (W2.alloc (.cells #[u0, u1, u2, u3, u4, u5, u6, u7, u8, u9] 32)).heap[g]? = W2.heap[g]?) := Lib.hid fun g hg => Below.heap_alloc W2 _ g hg
                generalize W2.alloc (.cells #[u0, u1, u2, u3, u4, u5, u6, u7, u8, u9] 32) = W4 at *
                ((with_reducible refine (HBS.out W4 HBW4.out).mono ?_))
                rintro e W5 ⟨rfl, b5, k5, z5⟩
                generalize hTX : (⟨(catT (segL l i j)).toArray⟩ : ByteArray) = txt at *
                have HTX := Lib.hid hTX
                have b5k : Blk W5 W2.heap.size 32 #[u0, u1, u2, u3, u4, u5, u6, u7, u8, u9] := (k5 _ hz2w).trans HB4.out
                have f5 : W5.frozen? ⟨W2.heap.size, 1, none⟩ = false := b5k.frozen 1
                have c5 : W5.cell? ⟨W2.heap.size, 1, none⟩ = some u1 := b5k.cell 1
                have HB6 : Hid (Blk (W5.setCell ⟨W2.heap.size, 1, none⟩ (.string txt)) W2.heap.size 32 #[u0, .string txt, u2, u3, u4, u5, u6, u7, u8, u9]) := Lib.hid (b5k.set_ 1 (.string txt))
                have HV6 : Hid (RepI (W5.setCell ⟨W2.heap.size, 1, none⟩ (.string txt)) (NewG wx W2) #[u0, .string txt, u2, u3, u4, u5, u6, u7, u8, u9] (setTxt (mergeI x) (catT (segL l i j)))) := Lib.hid ((show RepI W2 (NewG wx W2) #[u0, .string txt, u2, u3, u4, u5, u6, u7, u8, u9] (setTxt (mergeI x) (catT (segL l i j))) from HTX.out ▸ RepI.setTxt HV.out (catT (segL l i j))).keep (fun g (hg : NewG wx W2 g) => (Below.heap_setCell W5 ⟨W2.heap.size, 1, none⟩ _ g (by have := hg.2; show g ≠ W2.heap.size; omega)).trans ((k5 g hg.1).trans (HK4.out g hg.2))) fun _ h => h)
                have HBW6 : Hid (Below wr.heap.size wr (W5.setCell ⟨W2.heap.size, 1, none⟩ (.string txt))) := Lib.hid ((HBX.out.trans ((HBW4.out.mono hzx).trans b5)).setCell (p := ⟨W2.heap.size, 1, none⟩) (by show wr.heap.size ≤ W2.heap.size; omega) _)
                have HZ6 : Hid ((W5.setCell ⟨W2.heap.size, 1, none⟩ (.string txt)).heap.size = W2.heap.size + 1) := Lib.hid (by
                  have := HZ4.out
                  simp only [World.setCell, Array.size_modify]
                  omega)
                have HV7 := Lib.hid HV6.out.one
                have HOW6 := Lib.hid (own_below HOWN.out HBW6.out)
                have HPU := Lib.hid fun (W7 : World) (g7 cap7 : Nat) (o7 : Obj) hown hgrow hlies => HI.out.push (W := (W5.setCell ⟨W2.heap.size, 1, none⟩ (.string txt))) (W7 := W7) (j := j) (g := g7) (cap := cap7) (H := (W5.setCell ⟨W2.heap.size, 1, none⟩ (.string txt)).heap.size + 1) (x := setTxt (mergeI x) (catT (segL l i j))) (u := #[u0, .string txt, u2, u3, u4, u5, u6, u7, u8, u9]) (o := o7) HS1.out HR1.out HOWN.out HBW6.out HV6.out (fun g (hg : NewG wx W2 g) => ⟨Nat.le_trans hzx hg.1, by have := hg.2; have := HZ6.out; omega⟩) hown hgrow hlies (by omega) HEQ.out
                clear b5 k5 b5k z5 hTX HB4 HV HBS HBW4 HV6 HBW6 HOWN
                go_wp2_with (first | (refine wpList_load_row rfl 32 (.tmp 7) rfl W2.heap.size rfl 32 #[u0, .string txt, u2, u3, u4, u5, u6, u7, u8, u9] _ _ HB6.out Tryz.underlying32 rfl inl_size ?_; generalize (W5.setCell ⟨W2.heap.size, 1, none⟩ (.string txt)) = W6 at *) | (refine wpList_inSlice rfl (.tmp 69) rfl u0 (.string txt) u2 u3 u4 u5 u6 u7 u8 u9 rfl ?_) | (at_builtin; refine wpList_append_lies _ rfl _ _ 30 rfl w.heap.size 32 i0 _ 10 192 Tryz.underlying30 hi0 hz0 hz1 hz2 rfl (by decide) _ _ _ rfl (HOW6.out.alloc _) ⟨W6.heap.size, 0, none⟩ 1 1 [u0, .string txt, u2, u3, u4, u5, u6, u7, u8, u9] rfl rfl ?d1 ?d2 (by decide) ?d3 ?d4 ?d5 (W6.heap.size + 1) ?d6 ?_))
                case d1 => exact World.news_of_block (t := 32) (fr := (0, 0)) (heap_alloc_new W6 _)
                case d2 => exact HV7.out
                case d3 => unfold maxLen; omega
                case d4 => have := HZ6.out; omega
                case d5 => simp; have := HZ6.out; omega
                case d6 => simp
                intro g7 cap7 W7 hown hgrow hlies hlt7
                have HF := Lib.hid (HPU.out W7 g7 cap7 _ hown hgrow hlies)
                clear hown hgrow hlies hlt7 HPU HI
                go_wp2_with fail
                go_roundw
                case rel => exact ⟨j, done ++ [setTxt (mergeI x) (catT (segL l i j))], hj, by simp; omega, by first | rfl | rw [hjl], HF⟩
                case measure => simp [intOf]; omega
      · have d1 : (l[i].kind != 1) = true := bne_iff_ne.2 hk
        have hdrop : l.drop i = l[i] :: l.drop (i + 1) := List.drop_eq_getElem_cons hlt
        have HEQ : Hid (mergeL (l.drop i) = mergeI l[i] :: mergeL (l.drop (i + 1))) := Lib.hid (by rw [hdrop, mergeL_no hk])
        have HCALL := Lib.hid (t_merged wr (HMG.out i hlt) (hr.keep (fun g hg => hbel.block g (HS.out g hg)) fun _ h => h) (fun g hg => Nat.lt_of_lt_of_le (HS.out g hg) hbel.size) (HSZ.out i hlt) (Nat.le_refl _))
        have HG := Lib.hid hrgw
        have HOWN := Lib.hid hown
        have hzw := hbel.size
        have HS1 := Lib.hid hS1
        have HR1 := Lib.hid hr1
        clear hrgw hrg hr hbel hS1 hr1 hown hdrop
        generalize hxx : l[i] = x at *
        clear hxx
        go_wp2_with (refine wpList_load_mid rfl 32 (.tmp 21) rfl b (off + i * 10) rfl _ _ HG.out Tryz.underlying32 rfl inl_size ?_)
        ((with_reducible refine HCALL.out.mono ?_))
        rintro e W2 ⟨v, rfl, hv, hb2⟩
        obtain ⟨u0, u1, u2, u3, u4, u5, u6, u7, u8, u9, rfl⟩ := hv.opn
        have HOW2 := Lib.hid (own_below HOWN.out hb2)
        have HV1 := Lib.hid hv.one
        have hz2w := hb2.size
        have HPU := Lib.hid fun (W7 : World) (g7 cap7 : Nat) (o7 : Obj) hown hgrow hlies => HI.out.push (W := W2) (W7 := W7) (j := i + 1) (g := g7) (cap := cap7) (H := W2.heap.size + 1) (x := mergeI x) (u := #[u0, u1, u2, u3, u4, u5, u6, u7, u8, u9]) (o := o7) HS1.out HR1.out HOWN.out hb2 hv (fun g hg => hg) hown hgrow hlies (by omega) HEQ.out
        clear hb2 hv HCALL HOWN
        go_wp2_with (first | (refine wpList_inSlice rfl (.tmp 23) rfl u0 u1 u2 u3 u4 u5 u6 u7 u8 u9 rfl ?_) | (at_builtin; refine wpList_append_lies _ rfl _ _ 30 rfl w.heap.size 32 i0 _ 10 192 Tryz.underlying30 hi0 hz0 hz1 hz2 rfl (by decide) _ _ _ rfl (HOW2.out.alloc _) ⟨W2.heap.size, 0, none⟩ 1 1 [u0, u1, u2, u3, u4, u5, u6, u7, u8, u9] rfl rfl ?c1 ?c2 (by decide) ?c3 ?c4 ?c5 (W2.heap.size + 1) ?c6 ?_))
        case c1 => exact World.news_of_block (t := 32) (fr := (0, 0)) (heap_alloc_new W2 _)
        case c2 => exact HV1.out
        case c3 => unfold maxLen; omega
        case c4 => omega
        case c5 => simp; omega
        case c6 => simp
        intro g7 cap7 W7 hown hgrow hlies hlt7
        have HF := Lib.hid (HPU.out W7 g7 cap7 _ hown hgrow hlies)
        clear hown hgrow hlies hlt7 HPU HI
        go_wp2_with fail
        go_roundw
        case rel => exact ⟨i + 1, done ++ [mergeI x], by omega, by simp; omega, by go_num, HF⟩
        case measure => simp [intOf]; omega
    · obtain rfl : i = l.length := by omega
      obtain ⟨S1, vs1, hS1, hr1, hown⟩ := HI.out.row
      obtain ⟨A3, c3, hv3, -, -⟩ := own_form hown
      subst hv3
      have hd : mergeL l = done := by rw [HI.out.eq, List.drop_length]; simp [mergeL, mapI, joinT]
      have HF : Hid (MrgP l w (.returned (.slice A3 done.length c3)) wr) := Lib.hid (by
        unfold MrgP
        rw [hd]
        exact ⟨A3, c3, vs1, rfl, hr1.keep (fun _ _ => rfl) fun g hg => (hS1 g hg).1, hown, HI.out.bel⟩)
      clear hS1 hr1 hown hd HI
      go_wp2_with fail
      go_ret
      exact HF.out

end Go.Proofs.YtfnloonmeilhlaaGreatDoor
namespace Go.Pub
theorem sumN_len (ps : List PcT) : ∀ k, sumN ps k ≤ sumZ ps k
  | 0 => Nat.le_refl _
  | k + 1 => by
    have := sumN_len ps k
    show sumN ps k + (if runP (pcX ps k) = true then _ else 0) ≤ sumZ ps k + pcZ _
    unfold pcZ
    split <;> omega
theorem sumZ_len (ps : List PcT) : ∀ k, k ≤ sumZ ps k
  | 0 => Nat.le_refl _
  | k + 1 => by
    have := sumZ_len ps k
    show k + 1 ≤ sumZ ps k + pcZ _
    unfold pcZ
    omega
end Go.Pub
namespace Go.Proofs.YtfnloonmeilhlaaGreatDoor
open Go.RowKit Go.Pub
theorem merge_all : ∀ N, N ≤ 1000000 → MrgH N := fun N => by
  induction N using Nat.strongRecOn with
  | ind N ih =>
    intro hN
    refine t_merge N hN fun x hx => ih (sizeL x.kids) ?_ ?_
    · obtain ⟨k, t, d, ti, a, ar, c, ks⟩ := x
      rw [sizeI] at hx
      show sizeL ks < N
      omega
    · obtain ⟨k, t, d, ti, a, ar, c, ks⟩ := x
      rw [sizeI] at hx
      show sizeL ks ≤ _
      omega
/-- Inlines in new memory. -/
def NstP (l : List InT) (w : World) (e : Ending) (w' : World) : Prop :=
  ∃ A c vs, e = .returned (.slice A l.length c) ∧ RepIs w' (NewG w w') vs l ∧ ReadsS w' (NewG w w') 10 A l.length (vs.flatMap Array.toList) ∧ Below w.heap.size w w'
set_option maxHeartbeats 4000000 in
set_option maxRecDepth 100000 in
theorem e_NestB {L : Value} {ps : List PcT} (w : World) (hL : PcsR w (fun g => g < w.heap.size) L ps) (hlen : ps.length ≤ 30000) (hN : sumN ps ps.length ≤ 30000) (hZ : sumZ ps ps.length ≤ 1000000) :
    Calls Tryz.prog 7 #[L] w (NstP (nestA ps) w) := by
  obtain ⟨A0, c0, vs0, hL0, -⟩ := id hL
  subst hL0
  have HM := Lib.hid (e_match w hL hlen hN)
  obtain ⟨ids, hMI, hsz⟩ : ∃ ids, MatI ps ps.length (matchA ps) ids ∧ sizeL (inlsA ps (matchA ps) ids) ≤ sumZ ps ps.length := size_match ps ps.length (Nat.le_refl _)
  have HB : Hid (∀ w' vE vO vP S vs, EmR w' w.heap.size (w.heap.size + 1) (.slice A0 ps.length c0) vE vO vP S vs (matchA ps) → Below w.heap.size w w' →
      Calls Tryz.prog 14 #[.pointer (some ⟨w.heap.size + 1, 0, none⟩), .int .i64 0, .int .i64 0] w' (BetPost S w'.heap.size (inlsA ps (matchA ps) ids) w')) := Lib.hid fun w' vE vO vP S vs h hb => by
    have hR := hMI.em.ring
    obtain ⟨g, cap, rfl, -⟩ := h.row hR.pos
    have hids := hR.len
    have := hMI.len
    have := hMI.prs
    refine e_between w' h (hL.keep (fun g hg => hb.block g hg) fun g hg => h.low g hg) 0 0 ids hR.pos hR.link (fun i hi => ⟨fun e => (List.nodup_cons.1 hR.nd).1 (e ▸ hi), hR.bd i hi⟩) (fun i hi hr => ?_) (by
      omega)
    obtain ⟨r1, r2, r3⟩ := hMI.rb i hr
    obtain ⟨-, -, s3, -⟩ := runP_spec r2
    rw [runP_size r2]
    exact ⟨r1, by omega, by omega⟩
  have HN : Hid (nestA ps = mergeL (inlsA ps (matchA ps) ids)) := Lib.hid (by
    have hR := hMI.em.ring
    have hl := hR.len
    show mergeL (betF ps _ 0 _ _) = _
    rw [betF_eq ids 0 _ hR.link (fun i hi e => (List.nodup_cons.1 hR.nd).1 (e ▸ hi)) (by omega)]
    rfl)
  have HZ : Hid (sizeL (inlsA ps (matchA ps) ids) ≤ 1000000) := Lib.hid (Nat.le_trans hsz hZ)
  clear hL hMI hsz
  generalize inlsA ps (matchA ps) ids = bl at *
  go_enter Tryz.func7, Tryz.ntmps7
  go_wp2_with fail
  ((with_reducible refine HM.out.mono ?_))
  rintro e w1 ⟨rfl, b1, vE, vO, vP, S, vs, hE⟩
  have HC := Lib.hid (HB.out w1 vE vO vP S vs hE b1)
  have HS : Hid (∀ g, S g → g < w1.heap.size) := Lib.hid fun g hg => (hE.fro g hg).1
  have hz1 := b1.size
  have HB1 := Lib.hid b1
  clear hE b1 HM HB
  go_wp2_with fail
  ((with_reducible refine HC.out.mono ?_))
  rintro e w2 ⟨v, vs2, rfl, r2, o2, b2⟩
  obtain ⟨A3, c3, hv3, -, -⟩ := own_form o2
  subst hv3
  have hz2 := b2.size
  have HG := Lib.hid (merge_all 1000000 (Nat.le_refl _) bl HZ.out (fun g => S g ∨ (w1.heap.size ≤ g ∧ g < w2.heap.size)) w2 A3 c3 vs2 (r2.keep (fun _ _ => rfl) fun _ h => .inl h) ((ReadsS.of_own o2).keep (fun _ _ => rfl) fun _ h => .inr h) (fun g hg => by
    rcases hg with hg | hg
    · exact Nat.lt_of_lt_of_le (HS.out g hg) hz2
    · exact hg.2))
  have HB2 := Lib.hid (HB1.out.trans (b2.mono hz1))
  clear r2 o2 b2 HC
  go_wp2_with fail
  ((with_reducible refine HG.out.mono ?_))
  rintro e w3 ⟨A4, c4, vs4, rfl, r4, o4, b4⟩
  have hz3 : w.heap.size ≤ w2.heap.size := HB2.out.size
  have HF : Hid (NstP (nestA ps) w (.returned (.slice A4 (mergeL bl).length c4)) w3) := Lib.hid (by
    rw [HN.out]
    exact ⟨A4, c4, vs4, rfl, r4.keep (fun _ _ => rfl) fun g hg => ⟨Nat.le_trans hz3 hg.1, hg.2⟩, (ReadsS.of_own o4).keep (fun _ _ => rfl) fun g hg => ⟨Nat.le_trans hz3 hg.1, hg.2⟩, HB2.out.trans (b4.mono hz3)⟩)
  clear r4 o4 b4
  go_wp2_with fail
  go_ret
  exact HF.out

theorem e_Nest {L : Value} {ps : List PcT} (w : World) (hL : PcsR w (fun g => g < w.heap.size) L ps) (hZ : sumZ ps ps.length ≤ 30000) :
    Calls Tryz.prog 7 #[L] w (NstP (nestA ps) w) :=
  e_NestB w hL (Nat.le_trans (sumZ_len ps _) hZ) (Nat.le_trans (sumN_len ps _) hZ) (Nat.le_trans hZ (by decide))
/-- Matches in new memory. -/
def PrsP (l : List (Nat × Nat × Nat)) (w : World) (e : Ending) (w' : World) : Prop :=
  ∃ A c, e = .returned (.slice A l.length c) ∧ ReadsS w' (NewG w w') 3 A l.length (trips l) ∧ Below w.heap.size w w'
set_option maxHeartbeats 4000000 in
set_option maxRecDepth 100000 in
theorem e_PairsB {L : Value} {ps : List PcT} (w : World) (hL : PcsR w (fun g => g < w.heap.size) L ps) (hlen : ps.length ≤ 30000) (hN : sumN ps ps.length ≤ 30000) :
    Calls Tryz.prog 10 #[L] w (PrsP (matchA ps).prs w) := by
  have HM := Lib.hid (e_match w hL hlen hN)
  clear hL
  go_enter Tryz.func10, Tryz.ntmps10
  go_wp2_with fail
  ((with_reducible refine HM.out.mono ?_))
  rintro e w1 ⟨rfl, b1, vE, vO, vP, S, vs, hE⟩
  obtain ⟨A3, c3, hv3, -, -⟩ := own_form hE.prs
  subst hv3
  have cP : w1.cell? ⟨w.heap.size + 1, 20, none⟩ = some (.slice A3 (matchA ps).prs.length c3) := hE.cel.cP
  have HF : Hid (PrsP (matchA ps).prs w (.returned (.slice A3 (matchA ps).prs.length c3)) w1) := Lib.hid ⟨A3, c3, rfl, ReadsS.of_own hE.prs, b1⟩
  clear hE b1 HM
  go_wp2_with fail
  go_ret
  exact HF.out

theorem e_Pairs {L : Value} {ps : List PcT} (w : World) (hL : PcsR w (fun g => g < w.heap.size) L ps) (hZ : sumZ ps ps.length ≤ 30000) :
    Calls Tryz.prog 10 #[L] w (PrsP (matchA ps).prs w) :=
  e_PairsB w hL (Nat.le_trans (sumZ_len ps _) hZ) (Nat.le_trans (sumN_len ps _) hZ)
end Go.Proofs.YtfnloonmeilhlaaGreatDoor
namespace Go.Pub
/-- No two neighbours are texts. -/
def NoN : List InT → Prop
  | [] => True
  | x :: l => (x.kind = 1 → NoTxt l) ∧ NoN l
mutual
def mdI : InT → Prop
  | .mk k _ _ _ _ _ _ ks => ((k = 6 ∨ k = 7 ∨ k = 8) → ks ≠ []) ∧ (NoN ks ∧ mdA ks)
def mdA : List InT → Prop
  | [] => True
  | x :: l => mdI x ∧ mdA l
end
mutual
def GdI : InT → Prop
  | .mk k _ _ _ _ _ _ ks => ((k = 6 ∨ k = 7 ∨ k = 8) → mergeL ks ≠ []) ∧ GdA ks
def GdA : List InT → Prop
  | [] => True
  | x :: l => GdI x ∧ GdA l
end
theorem NoN.jo : ∀ {l : List InT}, JoT l → NoN l
  | [], _ => trivial
  | x :: l, h => ⟨fun hk => (h.1 hk).2, NoN.jo h.2⟩
theorem mdI_set (x : InT) (s : List UInt8) (h : mdI x) : mdI (setTxt x s) := by
  obtain ⟨k, t, d, ti, a, ar, c, ks⟩ := x
  rw [mdI] at h
  show mdI (.mk k ⟨s.toArray⟩ d ti a ar c ks)
  rw [mdI]; exact h
theorem mdA_join : ∀ {l : List InT}, mdA l → mdA (joinT l)
  | [], _ => by rw [show joinT [] = [] from rfl]; rw [mdA]; trivial
  | x :: l, h => by
    rw [mdA] at h
    have ih := mdA_join h.2
    rw [joinT_cons]
    split
    · rw [mdA]; exact ⟨h.1, ih⟩
    · split
      · exact ih
      · cases hj : joinT l with
        | nil => dsimp only; rw [mdA, mdA]; exact ⟨h.1, trivial⟩
        | cons y r =>
          rw [hj, mdA] at ih
          dsimp only
          split
          · rw [mdA]; exact ⟨mdI_set _ _ h.1, ih.2⟩
          · rw [mdA, mdA]; exact ⟨h.1, ih⟩
mutual
theorem mdI_merge : ∀ {x : InT}, GdI x → mdI (mergeI x)
  | .mk k t d ti a ar c ks, h => by
    rw [GdI] at h
    rw [mergeI, mdI]
    exact ⟨fun hk => h.1 hk, NoN.jo (joinT_jo _), mdA_join (mdA_map h.2)⟩
theorem mdA_map : ∀ {l : List InT}, GdA l → mdA (mapI l)
  | [], _ => by rw [mapI, mdA]; trivial
  | x :: l, h => by
    rw [GdA] at h
    rw [mapI, mdA]
    exact ⟨mdI_merge h.1, mdA_map h.2⟩
end
theorem made_merge {l : List InT} (h : GdA l) : NoN (mergeL l) ∧ mdA (mergeL l) := by
  unfold mergeL
  exact ⟨NoN.jo (joinT_jo _), mdA_join (mdA_map h)⟩
theorem GdA_all : ∀ {l : List InT}, (∀ y ∈ l, GdI y) → GdA l
  | [], _ => by rw [GdA]; trivial
  | x :: l, h => by rw [GdA]; exact ⟨h x (by simp), GdA_all fun y hy => h y (List.mem_cons_of_mem _ hy)⟩
theorem GdI_txt (s : ByteArray) : GdI (txtT 1 s) := by
  show GdI (.mk 1 s _ _ _ _ _ [])
  rw [GdI, GdA]
  exact ⟨fun h => absurd h (by decide), trivial⟩
theorem GdI_kid {k : Int} {l : List InT} (h : ∀ y ∈ l, GdI y ∧ neT y = true) (hl : l ≠ []) : GdI (kidT k l) := by
  show GdI (.mk k _ _ _ _ _ _ l)
  rw [GdI]
  refine ⟨fun _ => mergeL_ne ?_, GdA_all fun y hy => (h y hy).1⟩
  rw [List.filter_eq_self.2 fun y hy => (h y hy).2]
  exact hl
theorem neT_run {l : List UInt8} (h : 0 < l.length) : neT (txtT 1 ⟨l.toArray⟩) = true := by
  have e : (txtT 1 ⟨l.toArray⟩).text.toList = l := toList_ofList l
  unfold neT
  rw [e]
  cases l with
  | nil => cases h
  | cons a l => simp
theorem neT_kid6 {k : Int} (h : k ≠ 1) (l : List InT) : neT (kidT k l) = true := by
  unfold neT
  have : (kidT k l).kind = k := rfl
  simp [this, h]
theorem made_ring (ps : List PcT) (hp0 : ∀ i, i < ps.length → (pcX ps i).kind = 0 → GdI (pcX ps i).inl) : ∀ k, k ≤ ps.length → ∃ ids, MatI ps k (matchF ps k) ids ∧ ∀ y ∈ inlsA ps (matchF ps k) ids, GdI y ∧ neT y = true := by
  refine match_ind ps (fun k st ids => ∀ y ∈ inlsA ps st ids, GdI y ∧ neT y = true) (fun y hy => absurd hy List.not_mem_nil) ?_ ?_ ?_ ?_ ?_
  · intro k st ids h hk hp hc hP
    exact hP
  · intro k st ids h hk hp hk0 hi hP
    have e1 : inlsA ps (inlS ps st k) ids = inlsA ps st ids := inlsA_eq fun i hi => toI_ins (by have := h.em.ring.bd i hi; omega)
    have e2 : inlsA ps (inlS ps st k) [st.xs.length] = [(pcX ps k).inl] := by
      show [toI ps (elX (insX st.xs { t := (pcX ps k).inl } 0) st.xs.length)] = _
      rw [toI_ins0]; rfl
    rw [inlsA_app, e1, e2]
    intro y hy
    rcases List.mem_append.1 hy with hy | hy
    · exact hP y hy
    · obtain rfl := List.mem_singleton.1 hy
      refine ⟨hp0 k hk hk0, ?_⟩
      unfold neT
      rcases hi with hi | hi <;> simp [hi]
  · intro k st ids h hk hp hP
    have e1 : inlsA ps (runS ps st k) ids = inlsA ps st ids := inlsA_eq fun i hi => toI_ins (by have := h.em.ring.bd i hi; omega)
    have e2 : inlsA ps (runS ps st k) [st.xs.length] = [txtT 1 ⟨(repB (pcX ps k).ch (pcX ps k).n.toNat).toArray⟩] := by
      show [toI ps (elX (insX st.xs (runEl k (pcX ps k).n.toNat) 0) st.xs.length)] = _
      rw [toI_ins0]; rfl
    rw [inlsA_app, e1, e2]
    intro y hy
    rcases List.mem_append.1 hy with hy | hy
    · exact hP y hy
    · obtain rfl := List.mem_singleton.1 hy
      refine ⟨GdI_txt _, neT_run ?_⟩
      rw [repB_len (runP_size hp)]
      have := (runP_spec hp).2.1
      omega
  · intro k c st A B R hk hclo h hl hR hR0 hB hg hr hlr hP
    obtain ⟨r1, r2, r3⟩ := h.rb R hr
    obtain ⟨s1, s2, s3⟩ := h.rb c h.run
    rw [inls_mtch (x := 0) hg hr h.run]
    have hpn := pairN_one (st := st) (o := R) (c := c)
    have hPB : ∀ y ∈ inlsA ps st B, GdI y ∧ neT y = true := fun y hy => hP y (by
      rw [inlsA_app]
      refine List.mem_append_right _ ?_
      show y ∈ toI ps (elX st.xs R) :: List.map _ (B ++ [c])
      rw [List.map_append]
      exact List.mem_cons_of_mem _ (List.mem_append_left _ hy))
    have hPA : ∀ y ∈ inlsA ps st A, GdI y ∧ neT y = true := fun y hy => hP y (by rw [inlsA_app]; exact List.mem_append_left _ hy)
    have hBn : inlsA ps st B ≠ [] := fun e => hB (List.map_eq_nil_iff.1 e)
    have hK : pairK ps st.xs R c ≠ 1 := by unfold pairK; split <;> (try split) <;> decide
    intro y hy
    rcases List.mem_append.1 hy with hy | hy
    · rcases List.mem_append.1 hy with hy | hy
      · exact hPA y hy
      · split at hy
        · cases hy
        · obtain rfl := List.mem_singleton.1 hy
          exact ⟨GdI_txt _, neT_run (by rw [repB_len (runP_size r2)]; omega)⟩
    · rcases List.mem_cons.1 hy with rfl | hy
      · exact ⟨GdI_kid hPB hBn, neT_kid6 hK _⟩
      · split at hy
        · cases hy
        · obtain rfl := List.mem_singleton.1 hy
          exact ⟨GdI_txt _, neT_run (by rw [repB_len (runP_size s2)]; omega)⟩
  · intro k c st ids hP
    exact hP
theorem made_nest (ps : List PcT) (hp0 : ∀ i, i < ps.length → (pcX ps i).kind = 0 → GdI (pcX ps i).inl) : NoN (nestA ps) ∧ mdA (nestA ps) := by
  obtain ⟨ids, hM, hP⟩ := made_ring ps hp0 ps.length (Nat.le_refl _)
  have hM : MatI ps ps.length (matchA ps) ids := hM
  have hR := hM.em.ring
  have he : betA ps (matchA ps).xs 0 0 = inlsA ps (matchA ps) ids := betF_eq ids 0 _ hR.link (fun i hi e => (List.nodup_cons.1 hR.nd).1 (e ▸ hi)) (by have := hR.len; omega)
  unfold nestA
  rw [he]
  exact made_merge (GdA_all fun y hy => (hP y hy).1)
end Go.Pub
namespace Go.Pub
open Go.RowKit
/-- A run, and a piece with a text. -/
def plR (c : ByteArray) (n : Int) (o k : Bool) : PcT := ⟨1, zeroT, c, n, o, k, false, 0, 0⟩
def plW (s : ByteArray) : PcT := ⟨0, txtT 1 s, ⟨#[]⟩, 0, false, false, false, 0, 0⟩
def plC (p : PcT) : Array Value := #[.int .i64 p.kind, .int .i64 p.inl.kind, .string p.inl.text, .string ⟨#[]⟩, .string ⟨#[]⟩, .string ⟨#[]⟩, .slice none 0 0, .slice none 0 0, .slice none 0 0, .slice none 0 0, .slice none 0 0, .string p.ch, .int .i64 p.n, .bool p.opn, .bool p.clo, .bool p.img, .int .i64 p.bg, .int .i64 p.nd]
theorem RepI.txt (w : World) (S : Nat → Prop) (k : Int) (s : ByteArray) : RepI w S #[.int .i64 k, .string s, .string ⟨#[]⟩, .string ⟨#[]⟩, .string ⟨#[]⟩, .slice none 0 0, .slice none 0 0, .slice none 0 0, .slice none 0 0, .slice none 0 0] (txtT k s) :=
  .mk k s ⟨#[]⟩ ⟨#[]⟩ noAt [] [] [] none none none none none 0 0 0 0 0 [] ReadsS.none_ ReadsS.none_ ReadsS.none_ ReadsS.none_ .nil ReadsS.none_
theorem plC_rep (w : World) (S : Nat → Prop) (p : PcT) (h : p.inl = txtT p.inl.kind p.inl.text) : RepPc w S (plC p) p :=
  ⟨#[.int .i64 p.inl.kind, .string p.inl.text, .string ⟨#[]⟩, .string ⟨#[]⟩, .string ⟨#[]⟩, .slice none 0 0, .slice none 0 0, .slice none 0 0, .slice none 0 0, .slice none 0 0], by rw [h]; exact RepI.txt w S _ _, by kernel_rfl⟩
/-- What is read of an inline. -/
theorem RepIs.look {w : World} {S : Nat → Prop} {vs : List (Array Value)} {l : List InT} {A : Option Addr} (h : RepIs w S vs l) (hr : ReadsS w S 10 A l.length (vs.flatMap Array.toList)) (i : Nat) (hi : i < l.length) :
    ∃ b off, A = some ⟨b, off, none⟩ ∧ S b ∧ w.cell? ⟨b, off + i * 10, none⟩ = some (.int .i64 l[i].kind) ∧ w.cell? ⟨b, off + i * 10 + 1, none⟩ = some (.string l[i].text) ∧
      ∃ A5 c5 vs5, w.cell? ⟨b, off + i * 10 + 9, none⟩ = some (.slice A5 l[i].kids.length c5) ∧ RepIs w S vs5 l[i].kids ∧ ReadsS w S 10 A5 l[i].kids.length (vs5.flatMap Array.toList) := by
  obtain ⟨b, off, e, hb, hc⟩ := hr.row (by omega) (by decide)
  obtain ⟨v, hv, hvc⟩ := h.at_ i hi
  generalize l[i] = x at *
  cases hv with
  | mk kind text dest title att args cites kids A1 A2 A3 A4 A5 c1 c2 c3 c4 c5 vs5 h1 h2 h3 h4 h5 h6 =>
  have hcell : ∀ j, j < 10 → ∀ u, (#[Value.int .i64 kind, .string text, .string dest, .string title, .string att.id, .slice A1 att.cl.length c1, .slice A2 att.pr.length c2, .slice A3 args.length c3, .slice A4 cites.length c4, .slice A5 kids.length c5] : Array Value)[j]? = some u → w.cell? ⟨b, off + i * 10 + j, none⟩ = some u := fun j hj u hu => by
    rw [Nat.add_assoc]
    exact hc (i * 10 + j) u ((hvc j hj).trans hu)
  exact ⟨b, off, e, hb, hcell 0 (by omega) _ rfl, hcell 1 (by omega) _ rfl, A5, c5, vs5, hcell 9 (by omega) _ rfl, h5, h6⟩
end Go.Pub
namespace Go.Proofs.YtfnloonmeilhlaaGreatDoor
open Go.RowKit Go.Pub
theorem pc18 : (Tryz.prog.info? 34).map (·.size) = some 18 := by kernel_rfl
theorem pc_info : (Tryz.prog.info? 34).map (fun i => (i.zero, i.size, i.bytes)) = some (some (.agg (plC zP)), 18, 248) := by kernel_rfl
set_option maxHeartbeats 1000000 in
theorem l_run (c : ByteArray) (n : Int) (o k : Bool) (w : World) : Calls Tryz.prog 8 #[.string c, .int .i64 n, .bool o, .bool k] w fun e w' => e = .returned (.agg (plC (plR c n o k))) ∧ Below w.heap.size w w' := by
  have HL := Lib.hid (run_loadVar_row (P := Tryz.prog) (w.alloc (.cells (plC (plR c n o k)) 34)) w.heap.size 34 34 (plC (plR c n o k)) (0, 0) _ (heap_alloc_new w _) Tryz.underlying34 rfl pc18)
  go_enter Tryz.func8, Tryz.ntmps8
  go_wp2_with (refine wpList_store_row rfl 34 (.tmp 8) (.tmp 13) rfl w.heap.size (plC (plR c n o k)) rfl rfl 34 _ (Blk.new w _ _) pc18 (by rfl) (by simp [plC, Value.oneCell']) ?_; rw [World.setRow_alloc_new])
  refine row_ret Tryz.results8 HL.out ?_ ?_ ⟨rfl, (Below.refl _ w).alloc (Nat.le_refl _) _⟩
  · rfl
  · rfl

set_option maxHeartbeats 1000000 in
theorem l_word (s : ByteArray) (w : World) : Calls Tryz.prog 9 #[.string s] w fun e w' => e = .returned (.agg (plC (plW s))) ∧ Below w.heap.size w w' := by
  have HL := Lib.hid (run_loadVar_row (P := Tryz.prog) (w.alloc (.cells (plC (plW s)) 34)) w.heap.size 34 34 (plC (plW s)) (0, 0) _ (heap_alloc_new w _) Tryz.underlying34 rfl pc18)
  go_enter Tryz.func9, Tryz.ntmps9
  go_wp2_with (refine wpList_store_row rfl 34 (.tmp 2) (.tmp 5) rfl w.heap.size (plC (plW s)) rfl rfl 34 _ (Blk.new w _ _) pc18 (by rfl) (by simp [plC, Value.oneCell']) ?_; rw [World.setRow_alloc_new])
  refine row_ret Tryz.results9 HL.out ?_ ?_ ⟨rfl, (Below.refl _ w).alloc (Nat.le_refl _) _⟩
  · rfl
  · rfl

def plF (ps : List PcT) : Array Value := (ps.flatMap fun p => (plC p).toList).toArray
theorem pcs_fill5 (a b c d e : PcT) : Instr.fill (fun i => some (i * 18, 18)) ((Array.range (5 * 18)).map ((Value.agg (plC zP)).cells[· % (Value.agg (plC zP)).cells.size]!)) [(0, .agg (plC a)), (1, .agg (plC b)), (2, .agg (plC c)), (3, .agg (plC d)), (4, .agg (plC e))] = some (plF [a, b, c, d, e]) := by kernel_rfl
section
variable {ops : Array Oper} {rest : List Oper} {o : Oper} {ac : Act} {w : World} {Q : Exit → Act → World → Prop}
theorem wpList_pcs5 (hg : o.guard = none) (x y z u v : Operand) (ho : o.op = .buildSlice 23 5 #[(0, x), (1, y), (2, z), (3, u), (4, v)]) (a b c d e : PcT) (hx : ac.eval x = .agg (plC a)) (hy : ac.eval y = .agg (plC b)) (hz : ac.eval z = .agg (plC c)) (hu : ac.eval u = .agg (plC d)) (hv : ac.eval v = .agg (plC e))
    (h : wpList Tryz.prog ops Q rest (ac.put o.dst (.slice (some ⟨w.heap.size, 0, none⟩) 5 5)) (w.alloc (.cells (plF [a, b, c, d, e]) 34))) : wpList Tryz.prog ops Q (o :: rest) ac w := by
  obtain ⟨i0, hi0, hz0, hz1, hz2⟩ := info_parts pc_info
  refine wpList_buildSlice hg 23 34 5 _ ho _ i0 _ Tryz.underlying23 hi0 hz0 (by rw [hz1]; decide) (by rw [hz1]; decide) ?_ h
  rw [hz1]
  have e : (#[((0 : Nat), x), (1, y), (2, z), (3, u), (4, v)].map fun (q : Nat × Operand) => (q.1, ac.eval q.2)).toList = [(0, ac.eval x), (1, ac.eval y), (2, ac.eval z), (3, ac.eval u), (4, ac.eval v)] := by simp
  rw [hx, hy, hz, hu, hv] at e
  show Instr.fill _ _ (#[((0 : Nat), x), (1, y), (2, z), (3, u), (4, v)].map fun (q : Nat × Operand) => (q.1, ac.eval q.2)).toList = _
  rw [e]
  exact pcs_fill5 _ _ _ _ _
end
/-- Plain pieces that were laid. -/
theorem pcs_new (w : World) (ps : List PcT) (h : ∀ p ∈ ps, p.inl = txtT p.inl.kind p.inl.text) (hn : ps.length ≤ 1000) :
    PcsR (w.alloc (.cells (plF ps) 34)) (fun g => g < (w.alloc (.cells (plF ps) 34)).heap.size) (.slice (some ⟨w.heap.size, 0, none⟩) ps.length ps.length) ps := by
  have hfl : (ps.map plC).flatMap Array.toList = ps.flatMap fun p => (plC p).toList := by rw [List.flatMap_map]
  refine ⟨_, _, ps.map plC, rfl, List.length_map _, fun i hi => ?_, ⟨?_, by unfold maxLen; omega⟩, fun h0 => ⟨_, rfl, by simp, fun j u hj => ?_⟩⟩
  · rw [List.getD_eq_getElem?_getD, List.getElem?_map, List.getElem?_eq_getElem hi]
    have e : pcX ps i = ps[i] := by unfold pcX; rw [List.getD_eq_getElem?_getD, List.getElem?_eq_getElem hi]; rfl
    rw [e]
    exact plC_rep _ _ _ (h _ (List.getElem_mem hi))
  · rw [flatz_len 18 _ (fun v hv => by obtain ⟨p, -, rfl⟩ := List.mem_map.1 hv; rfl), List.length_map]
  · have hadd : (⟨w.heap.size, 0, none⟩ : Addr).add j = ⟨w.heap.size, j, none⟩ := by unfold Addr.add; split <;> simp_all
    rw [hadd, Lib.cell_of_heap (heap_alloc_new w _)]
    unfold plF
    rw [hfl] at hj
    simpa using hj
end Go.Proofs.YtfnloonmeilhlaaGreatDoor
