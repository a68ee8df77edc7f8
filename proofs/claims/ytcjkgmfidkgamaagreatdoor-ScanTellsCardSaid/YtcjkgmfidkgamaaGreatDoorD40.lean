/-
  Texts of the proof, put together (what this law reaches): ScTO, ScTN, Row, RowS.
-/
import Derived.Test.YtcjkgmfidkgamaaGreatDoorD05
import Derived.Test.YtcjkgmfidkgamaaGreatDoorD35
import Derived.Test.YtcjkgmfidkgamaaGreatDoorD39
import Derived.Test.YtcjkgmfidkgamaaGreatDoorD37
import Derived.Below
import Derived.ChangeSame
import Derived.ProofKit
import Derived.Handed
import Derived.HandedShaped
set_option linter.unusedVariables false
set_option linter.unusedSimpArgs false
namespace Go.Pub
theorem map_some {α β : Type} {f : α → β} {o : Option α} {b : β} (h : o.map f = some b) : ∃ a, o = some a ∧ f a = b := by
  cases o with
  | none => cases h
  | some a => exact ⟨a, rfl, Option.some.inj h⟩
theorem escI_args {s : ByteArray} {i : Nat} {r : InL × Nat} (h : escI s i = some r) : r.1.args.length ≤ 8 := by
  unfold escI at h
  repeat' split at h
  all_goals first
    | (cases h; done)
    | (have h := Option.some.inj h; subst h; exact Nat.zero_le 8)
theorem entI_args {s : ByteArray} {i : Nat} {r : InL × Nat} (h : entI s i = some r) : r.1.args.length ≤ 8 := by
  unfold entI at h
  repeat' split at h
  all_goals first
    | (cases h; done)
    | (have h := Option.some.inj h; subst h; exact Nat.zero_le 8)
theorem dolI_args {s : ByteArray} {i : Nat} {r : InL × Nat} (h : dolI s i = some r) : r.1.args.length ≤ 8 := by
  unfold dolI at h
  repeat' split at h
  all_goals first
    | (cases h; done)
    | (have h := Option.some.inj h; subst h; exact Nat.zero_le 8)
theorem codeI_args {s : ByteArray} {i : Nat} {r : InL × Nat} (h : codeI s i = some r) : r.1.args.length ≤ 8 := by
  unfold codeI at h
  obtain ⟨k, _, rfl⟩ := map_some h
  exact Nat.zero_le 8
theorem mathI_args {s : ByteArray} {i : Nat} {r : InL × Nat} (h : mathI s i = some r) : r.1.args.length ≤ 8 := by
  unfold mathI at h
  split at h
  · obtain ⟨k, _, rfl⟩ := map_some h
    exact Nat.zero_le 8
  · cases h
theorem autI_args {s : ByteArray} {i : Nat} {r : InL × Nat} (h : autI s i = some r) : r.1.args.length ≤ 8 := by
  unfold autI at h
  repeat' split at h
  all_goals first
    | (cases h; done)
    | (have h := Option.some.inj h; subst h; exact Nat.zero_le 8)
theorem useI_args {s : ByteArray} {i : Nat} {r : InL × Nat} (h : useI s i = some r) : r.1.args.length ≤ 8 := by
  unfold useI at h
  split at h
  · cases hn : nmEnd s (i + 2) with
    | none => rw [hn] at h; cases h
    | some k =>
      rw [hn] at h
      have h : (if begB s (argsF s 8 k).2 [125, 125] = true then some (({ kind := 15, text := s.extract (i + 2) k, args := (argsF s 8 k).1 }, (argsF s 8 k).2 + 2) : InL × Nat) else none) = some r := h
      split at h
      · have h := Option.some.inj h
        subst h
        exact (argsF_bd s 8 k (nmEnd_bd hn).2.2).2.2
      · cases h
  · cases h
theorem namI_args {s : ByteArray} {i : Nat} {r : InL × Nat} (h : namI s i = some r) : r.1.args.length ≤ 8 := by
  unfold namI at h
  split at h
  · cases hn : nmEnd s (i + 2) with
    | none => rw [hn] at h; cases h
    | some k =>
      rw [hn] at h
      rw [Option.bind_some] at h
      repeat' split at h
      all_goals first
        | (cases h; done)
        | (have h := Option.some.inj h; subst h; exact Nat.zero_le 8)
  · cases h
theorem citI_args {s : ByteArray} {i : Nat} {r : InL × Nat} (h : citI s i = some r) : r.1.args.length ≤ 8 := by
  unfold citI at h
  split at h
  · obtain ⟨k, _, rfl⟩ := map_some h
    exact Nat.zero_le 8
  · cases h
theorem pcI_args {i : Nat} {o : Option (InL × Nat)} {p : PcL} (h : o.map (pcI · i) = some p) (ho : ∀ r, o = some r → r.1.args.length ≤ 8) : p.inl.args.length ≤ 8 := by
  obtain ⟨r, hr, rfl⟩ := map_some h
  exact ho r hr
theorem spec_args {s : ByteArray} {i : Nat} {p : PcL} (h : spec s i = some p) : p.inl.args.length ≤ 8 := by
  unfold spec at h
  by_cases c0 : bt s i = 92
  · rw [if_pos c0] at h
    exact pcI_args h fun r => escI_args
  rw [if_neg c0] at h
  by_cases c1 : bt s i = 32 ∨ bt s i = 10
  · rw [if_pos c1] at h
    by_cases d : spAt s i < s.size ∧ bt s (spAt s i) = 10
    · rw [if_pos d] at h
      have h := Option.some.inj h
      subst h
      exact Nat.zero_le 8
    · rw [if_neg d] at h
      cases h
  rw [if_neg c1] at h
  by_cases c2 : bt s i = 38
  · rw [if_pos c2] at h
    exact pcI_args h fun r => entI_args
  rw [if_neg c2] at h
  by_cases c3 : bt s i = 36
  · rw [if_pos c3] at h
    exact pcI_args h fun r hr => or_bd (P := fun r : InL × Nat => r.1.args.length ≤ 8) hr (fun _ => mathI_args) fun _ => dolI_args
  rw [if_neg c3] at h
  by_cases c4 : bt s i = 96
  · rw [if_pos c4] at h
    exact pcI_args h fun r => codeI_args
  rw [if_neg c4] at h
  by_cases c5 : bt s i = 60
  · rw [if_pos c5] at h
    exact pcI_args h fun r => autI_args
  rw [if_neg c5] at h
  by_cases c6 : bt s i = 123
  · rw [if_pos c6] at h
    exact pcI_args h fun r => useI_args
  rw [if_neg c6] at h
  by_cases c7 : bt s i = 91
  · rw [if_pos c7] at h
    have h := Option.some.inj h
    subst h
    cases hr : (namI s i).or (citI s i) with
    | none => exact Nat.zero_le 8
    | some r => exact or_bd (P := fun r : InL × Nat => r.1.args.length ≤ 8) hr (fun _ => namI_args) fun _ => citI_args
  rw [if_neg c7] at h
  by_cases c8 : bt s i = 33
  · rw [if_pos c8] at h
    by_cases d : i + 1 < s.size ∧ bt s (i + 1) = 91
    · rw [if_pos d] at h
      have h := Option.some.inj h
      subst h
      exact Nat.zero_le 8
    · rw [if_neg d] at h
      cases h
  rw [if_neg c8] at h
  by_cases c9 : bt s i = 93
  · rw [if_pos c9] at h
    have h := Option.some.inj h
    subst h
    exact Nat.zero_le 8
  rw [if_neg c9] at h
  by_cases c10 : bt s i = 42 ∨ bt s i = 95 ∨ bt s i = 126 ∧ runE s i - i = 2
  · rw [if_pos c10] at h
    have h := Option.some.inj h
    subst h
    exact Nat.zero_le 8
  rw [if_neg c10] at h
  cases h
theorem pieceA_args (s : ByteArray) (i : Nat) : (pieceA s i).1.inl.args.length ≤ 8 := by
  unfold pieceA
  cases h : spec s i with
  | none => exact Nat.zero_le 8
  | some p => exact spec_args h
theorem joinP_args (s : ByteArray) (acc : List PcL) (e : Nat) (h : ∀ p ∈ acc, p.inl.args.length ≤ 8) : ∀ p ∈ joinP s acc e, p.inl.args.length ≤ 8 := by
  intro p hp
  unfold joinP at hp
  cases hl : acc.getLast? with
  | none => rw [hl] at hp; exact h p hp
  | some q =>
    rw [hl] at hp
    rcases List.mem_append.1 hp with hp | hp
    · exact h p (List.dropLast_subset _ hp)
    · rw [List.mem_singleton] at hp
      subst hp
      exact h q (List.mem_of_getLast? hl)
theorem scanF_args (s : ByteArray) : ∀ (f i : Nat) (j : Bool) (acc : List PcL), (∀ p ∈ acc, p.inl.args.length ≤ 8) → ∀ p ∈ scanF s f i j acc, p.inl.args.length ≤ 8
  | 0, _, _, acc, h => h
  | f + 1, i, j, acc, h => by
    unfold scanF
    split
    · refine scanF_args s f _ _ _ ?_
      split
      · exact joinP_args s acc _ h
      · intro p hp
        rcases List.mem_append.1 hp with hp | hp
        · exact h p hp
        · rw [List.mem_singleton] at hp
          subst hp
          exact pieceA_args s i
    · exact h
theorem scanP_args (s : ByteArray) : ∀ p ∈ scanP s, p.inl.args.length ≤ 8 := scanF_args s _ _ _ _ fun _ h => (List.not_mem_nil h).elim
theorem covP_len : ∀ (l : List PcL) (a b : Nat), covP l a b → l.length + a ≤ b
  | [], a, b, h => by
    have h : a = b := h
    simp; omega
  | p :: l, a, b, h => by
    have h3 := covP_len l p.nd b h.2.2
    have h1 := h.1
    have h2 := h.2.1
    rw [List.length_cons]; omega
theorem scanP_len (s : ByteArray) : (scanP s).length ≤ s.size := by have := covP_len _ _ _ (scanP_cov s); omega
end Go.Pub
namespace Go.Proofs.YtcjkgmfidkgamaaGreatDoor
open Go.RowKit Go.Pub
set_option maxRecDepth 100000 in
set_option maxHeartbeats 4000000 in
theorem law9_tells (s : ByteArray) (hz : s.size ≤ 9223372036854775807) (m : Int) (w : World) (hm : w.cell? ⟨0, 0, none⟩ = some (.int .i64 m)) : Calls Tryz.prog 3 #[.string s] w fun e w' => e = .returned (.bool true) ∧ Below w.heap.size w w' := by
  have h0 := World.block_lt_of_cell? _ _ hm
  have HA : Hid (∀ W : World, Below w.heap.size w W → Calls Tryz.prog 9 #[] W fun e w' => e = .returned (.bool true) ∧ Below W.heap.size W w') := Lib.hid fun W hb => l9_awake m W ((hb.cell (p := ⟨0, 0, none⟩) h0).trans hm)
  have HT := Lib.hid fun W => r4_small s W
  by_cases h8 : s.size ≤ 800
  · rw [decide_eq_true h8] at HT
    have H1 := Lib.hid (s_Scan s m w (by omega) hm)
    have H2 := Lib.hid fun W => r9_Scan s W (by omega)
    have HPl := scanP_len s
    have HPa := Lib.hid fun p (hp : p ∈ scanP s) => Nat.le_trans (scanP_args s p hp) (show 8 ≤ 32 by decide)
    unfold ScanPost at H1 H2
    have HSm : Hid (∀ (v v' : Value) (b b' : Nat) (W : World), PcOwn W b v (scanP s) → PcOwn W b' v' (scanP s) → Calls Tryz.prog 10 #[v, v'] W fun e w' => e = .returned (.bool true) ∧ Below W.heap.size W w') := Lib.hid fun v v' b b' W h h' => l9_same (scanP s) v v' b b' W h h' HPa.out (by omega)
    clear hm h0 HPa
    generalize scanP s = ps at *
    go_enter Tryz.func3, Tryz.ntmps3
    go_wp2_with fail
    ((with_reducible refine (HT.out _).mono ?_))
    rintro e w1 ⟨rfl, rfl⟩
    go_wp2_with fail
    ((with_reducible refine (H1.out).mono ?_))
    rintro e w1 ⟨b1, v1, rfl, ho1⟩
    have HB1 := Lib.hid b1
    have HO1 := Lib.hid ho1
    clear b1 ho1 H1
    go_wp2_with fail
    ((with_reducible refine (H2.out _).mono ?_))
    rintro e w2 ⟨b2, v2, rfl, ho2⟩
    have HB2 := Lib.hid (HB1.out.trans (b2.mono HB1.out.size))
    have HO1b := Lib.hid (HO1.out.below b2)
    have HC := Lib.hid (HSm.out v1 v2 _ _ w2 HO1b.out ho2)
    clear b2 ho2 H2 HO1 HO1b HSm
    go_wp2_with fail
    ((with_reducible refine (HC.out).mono ?_))
    rintro e w3 ⟨rfl, b3⟩
    have HB3 := Lib.hid (HB2.out.trans (b3.mono HB2.out.size))
    clear b3 HC
    go_wp2_with fail
    ((with_reducible refine (HA.out _ HB3.out).mono ?_))
    rintro e w4 ⟨rfl, b4⟩
    go_wp2_with fail
    go_ret
    exact ⟨rfl, HB3.out.trans (b4.mono HB3.out.size)⟩
  · rw [decide_eq_false h8] at HT
    clear hm h0
    go_enter Tryz.func3, Tryz.ntmps3
    go_wp2_with fail
    ((with_reducible refine (HT.out _).mono ?_))
    rintro e w1 ⟨rfl, rfl⟩
    go_wp2_with fail
    ((with_reducible refine (HA.out _ (Below.refl _ _)).mono ?_))
    rintro e w3 ⟨rfl, b3⟩
    go_wp2_with fail
    go_ret
    exact ⟨rfl, b3⟩

end Go.Proofs.YtcjkgmfidkgamaaGreatDoor
namespace Go.Pub
open Go.RowKit Go.WideShapes Go.ChangeShapes
section
variable {H : Type} {enc : TypeId × Value → H} {P : Program}
theorem post_of_below {f : Func} {s : ChangeSpec} {apart fresh handsOn again : Bool} {W W' : World} {args : Array Value} {v : Value} {ds gs : List (DataW H)} {before pa pv : List MemPlace}
    (hW : DataW.Whole enc P f.params.toList s.vars apart W args.toList ds gs before)
    (hres : ∀ (b : Nat) (sp : Nat → Bool) (hd : Bool), DataW.TrodAll enc P W' b sp hd f.resultTypes.toList (v.resultList f.resultTypes.size) (s.fn H (ds ++ gs)).results [])
    (hargs : ∀ sp : Nat → Bool, (∀ p ∈ before, sp p.block = true) → DataW.TrodAll enc P W' 0 sp true f.params.toList args.toList (s.fn H (ds ++ gs)).args pa)
    (hvars : ∀ sp : Nat → Bool, (∀ p ∈ before, sp p.block = true) → DataW.TrodVars enc P W' sp s.vars (s.fn H (ds ++ gs)).vars pv)
    (hps : before = pa ++ pv) (hb : Below W.heap.size W W')
    (hok : ∀ (j : Nat) (t : TypeId) (r : Value), f.resultTypes[j]? = some t → (v.resultList f.resultTypes.size)[j]? = some r → Value.okWide P W' .any 0 t r) :
    s.post enc P f apart fresh handsOn again W args v W' := by
  have hlt : ∀ p ∈ before, p.block < W.heap.size := fun p hp => hW.lt p hp
  have hold : ∀ p ∈ before, (fun b => decide (b < W.heap.size)) p.block = true := fun p hp => by simpa using hlt p hp
  refine ⟨ds, gs, before, [], pa, pv, hW, hres _ _ _, hargs _ hold, hvars _ hold, World.keptBut_mono (fun p hp => ⟨hp, ?_⟩) (hb.frame (· ∈ before)), fun _ => ?_⟩
  · rw [hps, List.mem_append] at hp
    exact Or.inr hp
  · obtain ⟨_, _, _, _, _, hz, hn⟩ := hW
    refine ⟨hok, _, _, ([] ++ pa) ++ pv, ⟨[] ++ pa, pv, trodAll_append (hargs _ (fun _ _ => rfl)) (hres _ _ _), hvars _ (fun _ _ => rfl), rfl, ?_, ?_⟩, ?_⟩
    · intro b off hp
      have hin : MemPlace.cell b off ∈ before := by rw [hps]; simpa using hp
      rw [hb.frozen (hlt _ hin)]
      exact hz b off hin
    · intro ha
      have := hn ha
      rw [hps] at this
      simpa using this
    · intro p hp _
      rw [hps]
      simpa using hp
end
end Go.Pub
namespace Go.Pub
open Go
theorem change_and_shaped {H : Type} {enc : TypeId × Value → H} {a : Assume} {C : Checked} {os : Os} {f : FuncId} {fn : Func} {s : ChangeSpec} {conds : List PathCond} {apart fresh handsOn again : Bool} {X : World → Array Value → Prop}
    (hX : ∀ (w w' : World) (args : Array Value), w.heap = w'.heap → X w args → X w' args)
    (own : ownKnob C.prog.godebug = none) (started : os.Started) (noInit : C.prog.inits.idxOf? f = none) (hfn : C.prog.funcs[f]? = some fn)
    (witness : ∃ (w : World) (tape : Tape) (i : Input), w.os = os ∧ (w.forCall tape i).Shaped C.prog ∧ i.vars = [] ∧ Input.okWide C.prog (w.forCall tape i) .any w.heap.size f i ∧
      ((s.pre enc C.prog fn conds apart (w.forCall tape i).memory i.args ∧ X (w.forCall tape i).memory i.args) ∧ sizedMet enc C.prog fn (OpenSpec.ofChange s) apart (w.forCall tape i).memory i.args) ∧ a.holds C.prog (lone (Frame.enter C.prog f i.args .normal) [] (w.forCall tape i)))
    (contract : ∀ (W : World) (base : Nat) (args : Array Value) (ds gs : List (DataW H)) (before : List MemPlace),
      (∀ (j : Nat) t v, fn.params[j]? = some t → args[j]? = some v → Value.okWide C.prog W .any base t v) →
      DataW.Whole enc C.prog fn.params.toList s.vars apart W args.toList ds gs before →
      conds.all (PathCond.test C.prog ⟨fn.params.toList, ds, s.plain.varTypes C.prog, gs⟩) = true →
      (DataW.weightsEach C.prog (fn.params.toList ++ s.plain.varTypes C.prog) (ds ++ gs)).all (· ≤ reachBytes) = true → X W args → W.ShapedOpen C.prog →
      a.holds C.prog (lone (Frame.enter C.prog f args .normal) [] W) →
      Calls C.prog f args W fun e W' => ∃ v, e = .returned v ∧ s.post enc C.prog fn apart fresh handsOn again W args v W') :
    ReturnsInHanded a C os f .any (fun w args => (s.pre enc C.prog fn conds apart w args ∧ X w args) ∧ sizedMet enc C.prog fn (OpenSpec.ofChange s) apart w args) (s.post enc C.prog fn apart fresh handsOn again) := by
  refine returnsInHanded_of_calls own started noInit witness ?_
  intro w tape i _ hsh _ hok hpre hholds
  obtain ⟨_, _, _, fn', hfn', _, _, _, _, hval⟩ := hok
  obtain rfl : fn' = fn := Option.some.inj (hfn'.symm.trans hfn)
  obtain ⟨⟨⟨ds, gs, before, hw, hc⟩, hx⟩, hz⟩ := hpre
  refine (contract (w.forCall tape i) w.heap.size i.args ds gs before hval (DataW.Whole.of_heap (w' := w.forCall tape i) (by rfl) hw) hc (hz.weights hw) (hX _ _ _ (by rfl) hx) hsh hholds).mono fun e W' ⟨v, he, hp⟩ => ?_
  subst he
  exact ChangeSpec.post_blind hp
end Go.Pub
