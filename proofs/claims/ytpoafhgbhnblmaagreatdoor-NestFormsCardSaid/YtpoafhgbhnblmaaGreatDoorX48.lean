/-
  Texts of the proof, put together (what this law reaches): RowS, NfZ.
-/
import Derived.Handed
import Derived.HandedShaped
import Derived.Test.YtpoafhgbhnblmaaGreatDoorX42
import Derived.Test.YtpoafhgbhnblmaaGreatDoorX46
import Derived.Test.YtpoafhgbhnblmaaGreatDoorX47
set_option linter.unusedVariables false
set_option linter.unusedSimpArgs false
namespace Go.Pub
open Go
theorem change_and_shaped {H : Type} {enc : TypeId × Value → H} {a : Assume} {C : Checked} {os : Os} {f : FuncId} {fn : Func} {s : ChangeSpec} {conds : List PathCond} {apart fresh handsOn again : Bool} {X : World → Array Value → Prop}
    (hX : ∀ (w w' : World) (args : Array Value), w.heap = w'.heap → X w args → X w' args)
    (own : ownKnob C.prog.godebug = none) (started : os.Started) (noInit : C.prog.inits.idxOf? f = none) (hfn : C.prog.funcs[f]? = some fn)
    (witness : ∃ (w : World) (tape : Tape) (i : Input), w.os = os ∧ (w.forCall tape i).Shaped C.prog ∧ i.vars = [] ∧ Input.okWide C.prog (w.forCall tape i) .any w.heap.size f i ∧
      ((s.pre enc C.prog fn conds apart (w.forCall tape i).memory i.args ∧ X (w.forCall tape i).memory i.args) ∧ sizedMet enc C.prog fn (OpenSpec.ofChange s) apart (w.forCall tape i).memory i.args) ∧ a.holds C.prog (lone (Frame.enter C.prog f i.args .normal) [] (w.forCall tape i)))
    (contract : ∀ (W : World) (base : Nat) (args : Array Value) (ds gs : List (DataW H)) (before : List MemPlace),
      (∀ (j : Nat) t v, fn.params[j]? = some t → args[j]? = some v → Value.okWide C.prog W .any base t v) →
      DataW.Whole enc C.prog fn.params.toList s.vars apart W args.toList ds gs before →
      conds.all (PathCond.test C.prog ⟨fn.params.toList, ds, s.plain.varTypes C.prog, gs⟩) = true →
      (DataW.weightsEach C.prog (fn.params.toList ++ s.plain.varTypes C.prog) (ds ++ gs)).all (· ≤ reachBytes) = true → X W args → W.ShapedOpen C.prog →
      a.holds C.prog (lone (Frame.enter C.prog f args .normal) [] W) →
      Calls C.prog f args W fun e W' => ∃ v, e = .returned v ∧ s.post enc C.prog fn apart fresh handsOn again W args v W') :
    ReturnsInHanded a C os f .any (fun w args => (s.pre enc C.prog fn conds apart w args ∧ X w args) ∧ sizedMet enc C.prog fn (OpenSpec.ofChange s) apart w args) (s.post enc C.prog fn apart fresh handsOn again) := by
  refine returnsInHanded_of_calls own started noInit witness ?_
  intro w tape i _ hsh _ hok hpre hholds
  obtain ⟨_, _, _, fn', hfn', _, _, _, _, hval⟩ := hok
  obtain rfl : fn' = fn := Option.some.inj (hfn'.symm.trans hfn)
  obtain ⟨⟨⟨ds, gs, before, hw, hc⟩, hx⟩, hz⟩ := hpre
  refine (contract (w.forCall tape i) w.heap.size i.args ds gs before hval (DataW.Whole.of_heap (w' := w.forCall tape i) (by rfl) hw) hc (hz.weights hw) (hX _ _ _ (by rfl) hx) hsh hholds).mono fun e W' ⟨v, he, hp⟩ => ?_
  subst he
  exact ChangeSpec.post_blind hp
end Go.Pub
namespace Go.Proofs.YtpoafhgbhnblmaaGreatDoor
open Go.RowKit Go.Pub
def ClnPostS (zs : List ByteArray) (w : World) (e : Ending) (w' : World) : Prop := (∃ b : Bool, e = .returned (.bool b) ∧ (b = true → ClnL zs)) ∧ Below w.heap.size w w'
set_option maxRecDepth 100000 in
set_option maxHeartbeats 2000000 in
theorem l7_cleanS (zs : List ByteArray) (A : Option Addr) (c : Nat) (w : World) (hr : Reads w w.heap.size 1 A zs.length (strs zs)) (hl : zs.length ≤ maxLen) (hx : ∀ x ∈ zs, x.size ≤ maxLen) :
    Calls Tryz.prog 10 #[.slice A zs.length c] w (ClnPostS zs w) := by
  unfold maxLen at hl hx
  by_cases h60 : 60 < zs.length
  · have d1 : decide (60 < (zs.length : Int)) = true := decide_eq_true (by omega)
    have d2 : decide (60 < zs.length) = true := decide_eq_true h60
    clear hr
    go_enter Tryz.func10, Tryz.ntmps10
    go_wp2_with fail
    go_ret
    exact ⟨⟨false, rfl, fun h => by cases h⟩, Below.refl _ _⟩
  have d1 : decide (60 < (zs.length : Int)) = false := decide_eq_false (by omega)
  have d2 : decide (60 < zs.length) = false := decide_eq_false h60
  have HRd := Lib.hid hr
  have HX := Lib.hid hx
  have HFa : Hid (∀ w' b, Below w.heap.size w w' → (b = true → ClnL zs) → ClnPostS zs w (.returned (.bool b)) w') := Lib.hid fun w' b h1 h2 => ⟨⟨b, rfl, h2⟩, h1⟩
  have HVa : Hid (∀ z : ByteArray, z.size ≤ 150 → ∀ W, Calls Tryz.prog 21 #[.string z] W fun e w' => e = .returned (.bool (validB z)) ∧ Below W.heap.size W w') := Lib.hid fun z hz W => rValid_any z W (by omega)
  clear hr hx
  go_enter Tryz.func10, Tryz.ntmps10
  go_wp2_with fail
  go_loopw [3] (fun v3 wr => ∃ k : Nat, v3 = .int .i64 k ∧ k ≤ zs.length ∧ Below w.heap.size w wr ∧ Hid (∀ j (h : j < zs.length), j < k → zs[j].size ≤ 150 ∧ lnP (bytesL zs[j]))) (fun v _ => zs.length - (intOf v).toNat)
  case atStart => exact ⟨0, rfl, Nat.zero_le _, Below.refl _ _, Lib.hid fun j h hj => absurd hj (by omega)⟩
  case round =>
    obtain ⟨k, rfl, hk, hbw, Hs⟩ := hrel
    have HBW := Lib.hid hbw
    by_cases hlt : k < zs.length
    · obtain ⟨b, off, rfl, hbB, hcell⟩ := reads_get HRd.out (by omega)
      have hc : wr.cell? ⟨b, off + k, none⟩ = some (.string zs[k]) := (hbw.cell (p := ⟨b, off + k, none⟩) hbB).trans (hcell k hlt)
      have hzx := HX.out zs[k] (List.getElem_mem hlt)
      by_cases h150 : 150 < zs[k].size
      · have z1 : decide (150 < (zs[k].size : Int)) = true := decide_eq_true (by omega)
        have z2 : decide (150 < zs[k].size) = true := decide_eq_true h150
        clear hcell hbw h150
        generalize zs[k] = z at *
        go_wp2_with fail
        go_ret
        exact HFa.out _ false HBW.out (fun h => by cases h)
      · have z1 : decide (150 < (zs[k].size : Int)) = false := decide_eq_false (by omega)
        have z2 : decide (150 < zs[k].size) = false := decide_eq_false h150
        have HV := Lib.hid (HVa.out zs[k] (by omega))
        have HNx : Hid (lnP (bytesL zs[k]) → ∀ j (h : j < zs.length), j < k + 1 → zs[j].size ≤ 150 ∧ lnP (bytesL zs[j])) := Lib.hid fun hln j h hj => by
          by_cases e : j = k
          · subst e; exact ⟨by omega, hln⟩
          · exact Hs.out j h (by omega)
        have HLN : Hid (validB zs[k] = true → (∀ i, i < zs[k].size → bt zs[k] i ≠ 10) → lnP (bytesL zs[k])) := Lib.hid fun h1 h2 => (ln_lineB _).1 (by unfold lineB; rw [h1, (noLF_iff _).2 h2]; rfl)
        have HCl : Hid (∀ W, Below wr.heap.size wr W → W.cell? ⟨b, off + k, none⟩ = some (.string zs[k])) := Lib.hid fun W h => ((hbw.trans (h.mono hbw.size)).cell (p := ⟨b, off + k, none⟩) hbB).trans (hcell k hlt)
        have hzs : zs[k].size ≤ 150 := by omega
        clear hcell h150 Hs HVa
        generalize hvb : validB zs[k] = vb at *

        clear hvb
        generalize zs[k] = z at *
        cases vb with
        | false =>
          go_wp2_with fail
          ((with_reducible refine (HV.out _).mono ?_))
          rintro e w1 ⟨rfl, b1⟩
          go_wp2_with fail
          go_ret
          exact HFa.out _ false (HBW.out.trans (b1.mono HBW.out.size)) (fun h => by cases h)
        | true =>
          go_wp2_with fail
          ((with_reducible refine (HV.out _).mono ?_))
          rintro e w1 ⟨rfl, b1⟩
          have hc1 := HCl.out w1 b1
          have HB1 := Lib.hid (HBW.out.trans (b1.mono HBW.out.size))
          clear b1 hc hbw HCl HV
          go_wp2_with fail
          go_loop [4] (fun v4 => ∃ j : Nat, v4 = .int .i64 j ∧ j ≤ z.size ∧ Hid (∀ i, i < j → bt z i ≠ 10)) (fun v => z.size - (intOf v).toNat)
          case atStart => exact ⟨0, rfl, Nat.zero_le _, Lib.hid fun i hi => absurd hi (Nat.not_lt_zero _)⟩
          case round =>
            obtain ⟨j, rfl, hj, HJ⟩ := hrel
            by_cases hjl : j < z.size
            · have hb256 : ((z[j].toNat : Nat) : Int) < 256 := by rw [get_bt z j hjl]; have := bt_lt z j; omega
              by_cases h10 : z[j].toNat = 10
              · have y1 : (((z[j].toNat : Nat) : Int) == 10) = true := by rw [beq_iff_eq]; omega
                clear h10
                go_wp2_with fail
                go_ret
                exact HFa.out _ false HB1.out (fun h => by cases h)
              · have y1 : (((z[j].toNat : Nat) : Int) == 10) = false := by rw [beq_eq_false_iff_ne]; omega
                have HJ2 : Hid (∀ i, i < j + 1 → bt z i ≠ 10) := Lib.hid fun i hi => by
                  by_cases e : i = j
                  · subst e; rw [get_bt z i hjl] at h10; exact h10
                  · exact HJ.out i (by omega)
                clear h10
                go_wp2_with fail
                go_round
                case rel => exact ⟨j + 1, by go_num, by omega, HJ2⟩
                case measure => simp [intOf]; omega
            · have HN2 := Lib.hid (HNx.out (HLN.out (by trivial) fun i hi => HJ.out i (by omega)))
              go_wp2_with fail
              go_roundw
              case rel => exact ⟨k + 1, by go_num, by omega, HB1.out, HN2⟩
              case measure => simp [intOf]; omega
    · go_wp2_with fail
      go_ret
      have key : ∀ z ∈ zs, z.size ≤ 150 ∧ lnP (bytesL z) := fun z hz => by
        obtain ⟨j, hj, rfl⟩ := List.mem_iff_getElem.1 hz
        exact Hs.out j hj (by omega)
      exact HFa.out _ true hbw fun _ => ⟨by omega, fun z hz => (key z hz).1, fun z hz => (key z hz).2⟩

set_option maxRecDepth 100000 in
set_option maxHeartbeats 2000000 in
theorem law7_forms (MM : Int) (zs : List ByteArray) (A : Option Addr) (c : Nat) (w : World) (hm : w.cell? ⟨0, 0, none⟩ = some (.int .i64 MM)) (hr : Reads w w.heap.size 1 A zs.length (strs zs)) (hl : zs.length ≤ maxLen) (hx : ∀ x ∈ zs, x.size ≤ maxLen) (hc : zs.length ≤ c) (hcm : c ≤ maxLen) :
    Calls Tryz.prog 9 #[.slice A zs.length c] w fun e w' => e = .returned (.bool true) ∧ Below w.heap.size w w' := by
  have hp0 := World.block_lt_of_cell? _ _ hm
  have HM : Hid (∀ W, Below w.heap.size w W → W.cell? ⟨0, 0, none⟩ = some (.int .i64 MM)) := Lib.hid fun W h => (h.cell (p := ⟨0, 0, none⟩) hp0).trans hm
  have HA : Hid (∀ W, Below w.heap.size w W → Calls Tryz.prog 11 #[] W fun e w' => e = .returned (.bool true) ∧ Below W.heap.size W w') := Lib.hid fun W h => l7_awake MM W (HM.out W h)
  have HCl := Lib.hid (l7_cleanS zs A c w hr hl hx)
  have HLn : Hid (ClnL zs → LinesAt w A zs MM) := Lib.hid fun h => ⟨hr, by have := h.len; omega, fun z hz => Nat.le_trans (h.sz z hz) (by decide), hm⟩
  have HC := Lib.hid hc
  have HCM := Lib.hid hcm
  clear hr hl hx hm hc hcm
  go_enter Tryz.func9, Tryz.ntmps9
  go_wp2_with fail
  ((with_reducible refine (HCl.out).mono ?_))
  rintro e w1 ⟨⟨b, rfl, hok⟩, b1⟩
  have HB1 := Lib.hid b1
  cases b with
  | false =>
    go_wp2_with fail
    ((with_reducible refine (HA.out _ HB1.out).mono ?_))
    rintro e w2 ⟨rfl, b2⟩
    go_wp2_with fail
    go_ret
    exact ⟨rfl, HB1.out.trans (b2.mono HB1.out.size)⟩
  | true =>
    have hcl := hok rfl
    have hL := HLn.out hcl
    have h60 := hcl.len
    have HP : Hid (Calls Tryz.prog 12 #[.slice A zs.length c] w1 (NsPPost (blocksN 16 zs) w1)) := Lib.hid (n_Parse zs A c MM w1 (hL.below b1) HC.out HCM.out)
    have HW : Hid (∀ r, blocksN 16 zs = some r → WfK 16 0 (srcK r.1) ∧ r.1.length ≤ 100) := Lib.hid fun r hr => ⟨blocks_wf 16 zs 0 r hcl (show (0 : Nat) ≠ 7 ∧ (0 : Nat) ≠ 8 ∧ (0 : Nat) ≠ 10 ∧ (0 : Nat) ≠ 11 by decide) hr, by have := blocks_len 16 zs r hr; omega⟩
    generalize blocksN 16 zs = R at *
    clear hcl hL hok b1
    go_wp2_with fail
    ((with_reducible refine (HP.out).mono ?_))
    rintro e w2 ⟨b2, hp⟩
    have HB2 := Lib.hid (HB1.out.trans (b2.mono HB1.out.size))
    cases R with
    | none =>
      subst hp
      clear b2
      go_wp2_with fail
      ((with_reducible refine (HA.out _ HB2.out).mono ?_))
      rintro e w3 ⟨rfl, b3⟩
      go_wp2_with fail
      go_ret
      exact ⟨rfl, HB2.out.trans (b3.mono HB2.out.size)⟩
    | some p =>
      obtain ⟨A2, c2, rfl, hk, hcap⟩ := hp
      obtain ⟨hwf, hl100⟩ := HW.out p rfl
      have HS : Hid (Calls Tryz.prog 20 #[.slice A2 p.1.length c2] w2 (SrcPost (Rg w1.heap.size w2) p.1 w2)) := Lib.hid (l_sourced (szK p.1 + 1) p.1 (Nat.lt_succ_self _) (lenK_of (szK p.1) p.1 16 0 (Nat.le_refl _) hwf) hl100 A2 p.1.length c2 (Rg w1.heap.size w2) w2 hk fun g hg => hg.2)
      have HWF := Lib.hid hwf
      clear hk hcap b2 HW hwf
      go_wp2_with fail
      ((with_reducible refine (HS.out).mono ?_))
      rintro e w3 ⟨b3, A3, c3, rfl, hk3⟩
      have HB3 := Lib.hid (HB2.out.trans (b3.mono HB2.out.size))
      have HBl : Hid (Calls Tryz.prog 19 #[.slice A3 p.1.length c3] w3 fun e w' => e = .returned (.int .i64 0) ∧ Below w3.heap.size w3 w') := Lib.hid (f_Blocks (srcK p.1) HWF.out (by rw [srcK_len]; exact hl100) A3 p.1.length c3 _ w3 hk3 fun g hg => hg.elim (fun h => Nat.lt_of_lt_of_le h.2 b3.size) fun h => h.2)
      clear hk3 b3 HS
      go_wp2_with fail
      ((with_reducible refine (HBl.out).mono ?_))
      rintro e w4 ⟨rfl, b4⟩
      have HB4 := Lib.hid (HB3.out.trans (b4.mono HB3.out.size))
      clear b4
      go_wp2_with fail
      ((with_reducible refine (HA.out _ HB4.out).mono ?_))
      rintro e w5 ⟨rfl, b5⟩
      go_wp2_with fail
      go_ret
      exact ⟨rfl, HB4.out.trans (b5.mono HB4.out.size)⟩

end Go.Proofs.YtpoafhgbhnblmaaGreatDoor
