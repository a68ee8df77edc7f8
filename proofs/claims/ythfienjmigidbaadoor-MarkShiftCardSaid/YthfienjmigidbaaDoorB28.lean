/-
  Texts of the proof, put together: LawK, Row.
-/
import Derived.Test.YthfienjmigidbaaDoorB25
import Derived.Test.YthfienjmigidbaaDoorB27
import Derived.Below
import Derived.ChangeSame
import Derived.ProofKit
set_option linter.unusedVariables false
set_option linter.unusedSimpArgs false
namespace Go.Proofs.YthfienjmigidbaaDoor
open Go.RowKit Go.Pub

theorem of_sl (s : ByteArray) (W : World) (hs : s.size ≤ 1000000) : Calls Tryd.prog 6 #[.string s] W fun e w' => ∃ A1 c1 A2 c2, e = .returned (.agg ((markM s).cells (.slice A1 (markM s).att.cl.length c1) (.slice A2 (markM s).att.pr.length c2))) ∧ Below W.heap.size W w' := of_ex rfl W hs

set_option maxRecDepth 100000 in
set_option maxHeartbeats 4000000 in
theorem lawRest_any (s : ByteArray) (w : World) (hs : s.size ≤ 9223372036854775807) : Calls Tryd.prog 3 #[.string s] w fun e w' => e = .returned (.bool true) ∧ Below w.heap.size w w' := by
  have HA := Lib.hid mk_awake
  by_cases h : 800 < s.size
  · have d1 : decide (800 < s.size) = true := decide_eq_true h
    go_enter Tryd.func3, Tryd.ntmps3
    go_wp2_with fail
    ((with_reducible refine (HA.out _).mono ?_))
    rintro e w1 ⟨rfl, b1⟩
    go_wp2_with fail
    go_ret
    exact ⟨rfl, b1⟩
  have d1 : decide (800 < s.size) = false := decide_eq_false h
  have H1 := Lib.hid fun W => of_sl s W (by omega)
  have HM := mark_rest s
  generalize markM s = M at *
  obtain ⟨K, n, ch, off, info, rest, dest, title, att⟩ := M
  simp only [MkL.cells] at H1 HM
  by_cases hk : K = 4 ∨ K = 5 ∨ K = 6 ∨ K = 10
  case neg =>
    have z4 : ((K : Int) != 4) = true := by rw [bne_iff_ne]; omega
    have z5 : ((K : Int) != 5) = true := by rw [bne_iff_ne]; omega
    have z6 : ((K : Int) != 6) = true := by rw [bne_iff_ne]; omega
    have z10 : ((K : Int) != 10) = true := by rw [bne_iff_ne]; omega
    clear HM hk
    go_enter Tryd.func3, Tryd.ntmps3
    go_wp2_with fail
    ((with_reducible refine (H1.out _).mono ?_))
    rintro e w1 ⟨A1, c1, A2, c2, rfl, b1⟩
    have C1 := Lib.hid (b1.alloc b1.size (.cells #[.int .i64 K, .int .i64 n, .string ch, .int .i64 off, .string info, .string rest, .string dest, .string title, .string att.id, .slice A1 att.cl.length c1, .slice A2 att.pr.length c2] 28))
    clear b1
    go_wp2_with fail
    ((with_reducible refine (HA.out _).mono ?_))
    rintro e w2 ⟨rfl, b2⟩
    go_wp2_with fail
    go_ret
    exact ⟨rfl, C1.out.trans (b2.mono C1.out.size)⟩
  obtain ⟨hz, hx, ho10, ho⟩ := HM hk
  clear HM
  obtain ⟨d, hd⟩ : ∃ d, d = s.size - rest.size := ⟨_, rfl⟩
  have hdi : (s.size : Int) - (rest.size : Int) = (d : Int) := by omega
  have hds : d ≤ s.size := by omega
  rw [← hd] at hx ho
  have y1 : decide ((d : Int) < 0) = false := decide_eq_false (by omega)
  have y2 : (rest.toList != rest.toList) = false := by simp
  by_cases h10 : K = 10
  · subst h10
    obtain rfl := ho10 rfl
    clear ho hd hk hz
    go_enter Tryd.func3, Tryd.ntmps3
    go_wp2_with fail
    ((with_reducible refine (H1.out _).mono ?_))
    rintro e w1 ⟨A1, c1, A2, c2, rfl, b1⟩
    have C1 := Lib.hid (b1.alloc b1.size (.cells #[.int .i64 10, .int .i64 n, .string ch, .int .i64 4, .string info, .string rest, .string dest, .string title, .string att.id, .slice A1 att.cl.length c1, .slice A2 att.pr.length c2] 28))
    clear b1
    go_wp2_with fail
    go_quiet (fail)
    go_wp2_with fail
    ((with_reducible refine (HA.out _).mono ?_))
    rintro e w2 ⟨rfl, b2⟩
    go_wp2_with fail
    go_ret
    exact ⟨rfl, (below_drewN C1.out _).trans (b2.mono (below_drewN C1.out 1).size)⟩
  have z10 : ((K : Int) == 10) = false := by rw [beq_eq_false_iff_ne]; omega
  have hoff := ho h10
  have hw : ∀ W : World, True := fun _ => trivial
  clear ho ho10 h10
  rcases hoff with he | ⟨he, hle⟩
  · have y3 : ((d : Int) == (off : Int)) = true := by rw [beq_iff_eq]; omega
    have y4 : (d == off) = true := by rw [beq_iff_eq]; exact he
    clear he hd hz
    have hk3 : K = 4 ∨ K = 5 ∨ K = 6 := by
      have := hk; rcases this with h | h | h | h
      · exact Or.inl h
      · exact Or.inr (Or.inl h)
      · exact Or.inr (Or.inr h)
      · subst h; cases z10
    clear hk
    rcases hk3 with rfl | rfl | rfl
    all_goals
      go_enter Tryd.func3, Tryd.ntmps3
      go_wp2_with fail
      ((with_reducible refine (H1.out _).mono ?_))
      rintro e w1 ⟨A1, c1, A2, c2, rfl, b1⟩
      have C1 := Lib.hid fun o => b1.alloc b1.size o
      clear b1
      go_wp2_with fail
      go_quiet (fail)
      go_wp2_with fail
      ((with_reducible refine (HA.out _).mono ?_))
      rintro e w2 ⟨rfl, b2⟩
      go_wp2_with fail
      go_ret
      exact ⟨rfl, (below_drewN (C1.out _) _).trans (b2.mono (below_drewN (C1.out _) 1).size)⟩
  · have hrest : rest = ⟨#[]⟩ := by rw [← mk_bytesL rest, (size_nil rest).1 he]; rfl
    obtain rfl : d = s.size := by omega
    subst hrest
    have y3 : decide ((s.size : Int) ≤ (off : Int)) = true := decide_eq_true (by omega)
    have y4 : decide (s.size ≤ off) = true := decide_eq_true hle
    have hq : ∃ q : Bool, ((s.size : Int) == (off : Int)) = q ∧ (s.size == off) = q := by
      by_cases hh : s.size = off
      · exact ⟨true, by rw [beq_iff_eq]; omega, by rw [beq_iff_eq]; exact hh⟩
      · exact ⟨false, by rw [beq_eq_false_iff_ne]; omega, by rw [beq_eq_false_iff_ne]; exact hh⟩
    obtain ⟨q, y5, y6⟩ := hq
    have y7 : ((⟨#[]⟩ : ByteArray).toList == (⟨#[]⟩ : ByteArray).toList) = true := beq_self_eq_true _
    clear he hd hz hle
    have hk3 : K = 4 ∨ K = 5 ∨ K = 6 := by
      have := hk; rcases this with h | h | h | h
      · exact Or.inl h
      · exact Or.inr (Or.inl h)
      · exact Or.inr (Or.inr h)
      · subst h; cases z10
    clear hk
    rcases hk3 with rfl | rfl | rfl <;> cases q
    all_goals
      go_enter Tryd.func3, Tryd.ntmps3
      go_wp2_with fail
      ((with_reducible refine (H1.out _).mono ?_))
      rintro e w1 ⟨A1, c1, A2, c2, rfl, b1⟩
      have C1 := Lib.hid fun o => b1.alloc b1.size o
      clear b1
      go_wp2_with fail
      go_quiet (fail)
      go_wp2_with fail
      ((with_reducible refine (HA.out _).mono ?_))
      rintro e w2 ⟨rfl, b2⟩
      go_wp2_with fail
      go_ret
      exact ⟨rfl, (below_drewN (C1.out _) _).trans (b2.mono (below_drewN (C1.out _) 1).size)⟩
end Go.Proofs.YthfienjmigidbaaDoor
namespace Go.Pub
open Go.RowKit Go.WideShapes Go.ChangeShapes
section
variable {H : Type} {enc : TypeId × Value → H} {P : Program}
theorem post_of_below {f : Func} {s : ChangeSpec} {apart fresh handsOn again : Bool} {W W' : World} {args : Array Value} {v : Value} {ds gs : List (DataW H)} {before pa pv : List MemPlace}
    (hW : DataW.Whole enc P f.params.toList s.vars apart W args.toList ds gs before)
    (hres : ∀ (b : Nat) (sp : Nat → Bool) (hd : Bool), DataW.TrodAll enc P W' b sp hd f.resultTypes.toList (v.resultList f.resultTypes.size) (s.fn H (ds ++ gs)).results [])
    (hargs : ∀ sp : Nat → Bool, (∀ p ∈ before, sp p.block = true) → DataW.TrodAll enc P W' 0 sp true f.params.toList args.toList (s.fn H (ds ++ gs)).args pa)
    (hvars : ∀ sp : Nat → Bool, (∀ p ∈ before, sp p.block = true) → DataW.TrodVars enc P W' sp s.vars (s.fn H (ds ++ gs)).vars pv)
    (hps : before = pa ++ pv) (hb : Below W.heap.size W W')
    (hok : ∀ (j : Nat) (t : TypeId) (r : Value), f.resultTypes[j]? = some t → (v.resultList f.resultTypes.size)[j]? = some r → Value.okWide P W' .any 0 t r) :
    s.post enc P f apart fresh handsOn again W args v W' := by
  have hlt : ∀ p ∈ before, p.block < W.heap.size := fun p hp => hW.lt p hp
  have hold : ∀ p ∈ before, (fun b => decide (b < W.heap.size)) p.block = true := fun p hp => by simpa using hlt p hp
  refine ⟨ds, gs, before, [], pa, pv, hW, hres _ _ _, hargs _ hold, hvars _ hold, World.keptBut_mono (fun p hp => ⟨hp, ?_⟩) (hb.frame (· ∈ before)), fun _ => ?_⟩
  · rw [hps, List.mem_append] at hp
    exact Or.inr hp
  · obtain ⟨_, _, _, _, _, hz, hn⟩ := hW
    refine ⟨hok, _, _, ([] ++ pa) ++ pv, ⟨[] ++ pa, pv, trodAll_append (hargs _ (fun _ _ => rfl)) (hres _ _ _), hvars _ (fun _ _ => rfl), rfl, ?_, ?_⟩, ?_⟩
    · intro b off hp
      have hin : MemPlace.cell b off ∈ before := by rw [hps]; simpa using hp
      rw [hb.frozen (hlt _ hin)]
      exact hz b off hin
    · intro ha
      have := hn ha
      rw [hps] at this
      simpa using this
    · intro p hp _
      rw [hps]
      simpa using hp
end
end Go.Pub
