/-
  Texts of the proof, put together (what this law reaches): EmRB, EmYL.
-/
import Derived.Test.YtfnloonmeilhlaaP09
import Derived.OpenShut
import Derived.ChangeSame
import Derived.SizedLaws
import Derived.Carry
import Derived.SliceStrings
import Derived.Test.YtfnloonmeilhlaaP11
import Derived.Test.YtfnloonmeilhlaaP10
set_option linter.unusedVariables false
set_option linter.unusedSimpArgs false
namespace Go.Proofs.Ytfnloonmeilhlaa
open Go.RowKit Go.Pub Go.ChangeShapes Go.WideShapes
set_option maxRecDepth 100000 in
theorem open_pcsA {H : Type} {enc : TypeId × Value → H} {W : World} {r : Reach} {b0 : Nat} {v : Value} {d : DataW H} {p : List MemPlace} (hv : Value.okWide Try.prog W r b0 22 v) (h : DataW.Trod enc Try.prog W 0 (fun _ => true) true 22 v d p) (hw : Wt Try.prog 22 d) :
    ∃ ps, PcsR W (fun g => g < W.heap.size) v ps ∧ OkPs ps := by
  obtain ⟨a0, len0, cap0, rfl⟩ := okWide_slice Try.underlying22 hv
  obtain ⟨fuel, hf⟩ := h
  obtain ⟨ps, A, c, e, hp, ho⟩ := open_pcs hf hw
  have e1 : [Value.slice a0 len0 cap0] = [.slice A ps.length c] := e
  injection e1 with e1 _
  rw [e1]
  exact ⟨ps, hp, ho⟩

end Go.Proofs.Ytfnloonmeilhlaa
namespace Go.Proofs.Ytfnloonmeilhlaa
open Go.RowKit Go.Pub
set_option maxHeartbeats 8000000 in
set_option maxRecDepth 100000 in
theorem law10_nests {L : Value} {ps : List PcT} (w : World) (hL : PcsR w (fun g => g < w.heap.size) L ps) (ho : OkPs ps) : Calls Try.prog 3 #[L] w (BoolP true w) := by
  have HF : Hid (∀ W, Below w.heap.size w W → Calls Try.prog 9 #[L] W (BoolP (fewP ps) W)) := Lib.hid fun W hb => t_few W (hL.keep (S' := fun g => g < W.heap.size) (fun g hg => hb.block g hg) fun g hg => Nat.lt_of_lt_of_le hg hb.size) (fun _ h => h) ho
  obtain ⟨A0, c0, vs0, hL0, -⟩ := id hL
  subst hL0
  cases hf : fewP ps with
  | false =>
    rw [hf] at HF
    have HF0 := Lib.hid (HF.out w (Below.refl _ _))
    clear hL ho hf
    go_enter Try.func3, Try.ntmps3
    go_wp2_with fail
    ((with_reducible refine HF0.out.mono ?_))
    rintro e w1 ⟨rfl, b1⟩
    have HB1 := Lib.hid b1
    clear b1 HF0
    go_wp2_with fail
    ((with_reducible refine (l_awake w1).mono ?_))
    rintro e w2 ⟨rfl, b2⟩
    have HB2 := Lib.hid (HB1.out.trans (b2.mono HB1.out.size))
    clear b2
    go_wp2_with fail
    go_ret
    exact ⟨rfl, HB2.out⟩
  | true =>
    rw [hf] at HF
    obtain ⟨f1, f2, f3⟩ := few_sums hf
    obtain ⟨g1, g2, g3⟩ := few_bd hf
    have HNE := Lib.hid fun (W : World) (hb : Below w.heap.size w W) => e_NestB W (hL.keep (fun g hg => hb.block g hg) fun g hg => Nat.lt_of_lt_of_le hg hb.size) (by omega) (by omega) (by omega)
    have HNR := Lib.hid fun (W : World) (hb : Below w.heap.size w W) => r10_Nest W (hL.keep (fun g hg => hb.block g hg) fun g hg => Nat.lt_of_lt_of_le hg hb.size) g1 (fun i hi => (g2 i hi).2) g3
    have hsz : sizeL (nestR ps) ≤ 1000000 := Nat.le_trans (sizeL_merge _) (SolB.all g1 (fun i hi => (g2 i hi).2) g3 ps.length).sz
    rw [(ref_eq ps).2] at HNR hsz
    have HSM := Lib.hid (same_all 1000000 (Nat.le_refl _) (nestA ps) hsz)
    have HF0 := Lib.hid (HF.out w (Below.refl _ _))
    clear hL ho hf g2 g3 hsz
    generalize nestA ps = NA at *
    go_enter Try.func3, Try.ntmps3
    go_wp2_with fail
    ((with_reducible refine HF0.out.mono ?_))
    rintro e w1 ⟨rfl, b1⟩
    have HB1 := Lib.hid b1
    have HF1 := Lib.hid (HF.out w1 b1)
    clear b1 HF0
    go_wp2_with fail
    ((with_reducible refine HF1.out.mono ?_))
    rintro e w2 ⟨rfl, b2⟩
    have HB2 := Lib.hid (HB1.out.trans (b2.mono HB1.out.size))
    have HN2 := Lib.hid (HNE.out w2 HB2.out)
    clear b2 HF1 HNE HF
    go_wp2_with fail
    ((with_reducible refine HN2.out.mono ?_))
    rintro e w3 ⟨A3, c3, vs3, rfl, r3, o3, b3⟩
    have HB3 := Lib.hid (HB2.out.trans (b3.mono HB2.out.size))
    have HN3 := Lib.hid (HNR.out w3 HB3.out)
    have HR3 := Lib.hid (And.intro r3 o3)
    clear r3 o3 b3 HN2 HNR
    go_wp2_with fail
    ((with_reducible refine HN3.out.mono ?_))
    rintro e w4 ⟨A4, c4, vs4, rfl, r4, o4, b4⟩
    have HB4 := Lib.hid (HB3.out.trans (b4.mono HB3.out.size))
    have HCS := Lib.hid (HSM.out (NewG w2 w3) (fun g => g < w4.heap.size) w4 A3 A4 c3 c4 vs3 vs4 (HR3.out.1.keep (fun g hg => b4.block g hg.2) fun _ h => h) (HR3.out.2.keep (fun g hg => b4.block g hg.2) fun _ h => h) r4 o4 (fun g hg => Nat.lt_of_lt_of_le hg.2 b4.size) (fun _ h => h))
    clear r4 o4 b4 HN3 HR3 HSM
    go_wp2_with fail
    ((with_reducible refine HCS.out.mono ?_))
    rintro e w5 ⟨rfl, b5⟩
    have HB5 := Lib.hid (HB4.out.trans (b5.mono HB4.out.size))
    clear b5 HCS
    go_wp2_with fail
    ((with_reducible refine (l_awake w5).mono ?_))
    rintro e w6 ⟨rfl, b6⟩
    have HB6 := Lib.hid (HB5.out.trans (b6.mono HB5.out.size))
    clear b6
    go_wp2_with fail
    go_ret
    exact ⟨rfl, HB6.out⟩

end Go.Proofs.Ytfnloonmeilhlaa
