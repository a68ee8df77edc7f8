/-
  The walk of the law AttrLooks.
-/
import Derived.Test.YtkcfcdnchlmekaaAttrT
import Derived.Test.YtkcfcdnchlmekaaAttrR
import Derived.Test.YtkcfcdnchlmekaaAttrY
import Derived.Deep.RegionHeld3
set_option linter.unusedVariables false
set_option linter.unusedSimpArgs false
namespace Go.Proofs.Ytkcfcdnchlmekaa
open Go.RowKit Go.Pub

def LooksRes (r : Bool) (W0 : World) (e : Ending) (w' : World) : Prop := e = .returned (.bool r) ∧ Below W0.heap.size W0 w'

set_option maxRecDepth 100000 in
set_option maxHeartbeats 4000000 in
theorem lawLooks_any (w : World) (a : AttrL) (A : Option Addr) (c : Nat) (D : Option Addr) (d : Nat) (h : RawA w w.heap.size a A c D d) (b : AttrL) (A' : Option Addr) (c' : Nat) (D' : Option Addr) (d' : Nat) (h' : RawA w w.heap.size b A' c' D' d') (key : ByteArray) :
    Calls Try.prog 9 #[.agg #[.string a.id, .slice A a.cl.length c, .slice D a.pr.length d], .agg #[.string b.id, .slice A' b.cl.length c', .slice D' b.pr.length d'], .string key] w fun e w' => e = .returned (.bool true) ∧ Below w.heap.size w w' := by
  obtain ⟨W0, hW0⟩ : ∃ W0, W0 = (w.alloc (.cells #[.string a.id, .slice A a.cl.length c, .slice D a.pr.length d] 27)).alloc (.cells #[.string b.id, .slice A' b.cl.length c', .slice D' b.pr.length d'] 27) := ⟨_, rfl⟩
  have HW0 := Lib.hid hW0
  have hb1 : Blk W0 w.heap.size 27 #[.string a.id, .slice A a.cl.length c, .slice D a.pr.length d] := by rw [hW0]; exact (Blk.new _ _ _).alloc _
  have hb2 : Blk W0 (w.heap.size + 1) 27 #[.string b.id, .slice A' b.cl.length c', .slice D' b.pr.length d'] := by
    rw [hW0]
    have := Blk.new (w.alloc (.cells #[.string a.id, .slice A a.cl.length c, .slice D a.pr.length d] 27)) 27 #[.string b.id, .slice A' b.cl.length c', .slice D' b.pr.length d']
    simpa using this
  have hbel : Below w.heap.size w W0 := by rw [hW0]; exact ((Below.refl _ _).alloc (Nat.le_refl _) _).alloc (by simp) _
  have hsz : W0.heap.size = w.heap.size + 1 + 1 := by rw [hW0, heap_alloc_size, heap_alloc_size]
  clear hW0
  have HRa : Hid (∀ W, Below W0.heap.size W0 W → RawA W w.heap.size a A c D d) := Lib.hid fun W hW => (h.below hbel).below hW
  have HRb : Hid (∀ W, Below W0.heap.size W0 W → RawA W w.heap.size b A' c' D' d') := Lib.hid fun W hW => (h'.below hbel).below hW
  have HS : Hid (∀ W, Below W0.heap.size W0 W → W.cell? ⟨w.heap.size, 0, none⟩ = some (.string a.id) ∧ W.cell? ⟨w.heap.size, 1, none⟩ = some (.slice A a.cl.length c) ∧ W.cell? ⟨w.heap.size, 2, none⟩ = some (.slice D a.pr.length d) ∧ W.cell? ⟨w.heap.size + 1, 0, none⟩ = some (.string b.id) ∧ W.cell? ⟨w.heap.size + 1, 1, none⟩ = some (.slice A' b.cl.length c') ∧ W.cell? ⟨w.heap.size + 1, 2, none⟩ = some (.slice D' b.pr.length d') ∧ Below W0.heap.size W0 W) := Lib.hid fun W hW =>
    ⟨(hW.cell (p := ⟨w.heap.size, 0, none⟩) (by rw [hsz]; simp; omega)).trans (hb1.cell 0), (hW.cell (p := ⟨w.heap.size, 1, none⟩) (by rw [hsz]; simp; omega)).trans (hb1.cell 1), (hW.cell (p := ⟨w.heap.size, 2, none⟩) (by rw [hsz]; simp; omega)).trans (hb1.cell 2),
     (hW.cell (p := ⟨w.heap.size + 1, 0, none⟩) (by rw [hsz]; simp)).trans (hb2.cell 0), (hW.cell (p := ⟨w.heap.size + 1, 1, none⟩) (by rw [hsz]; simp)).trans (hb2.cell 1), (hW.cell (p := ⟨w.heap.size + 1, 2, none⟩) (by rw [hsz]; simp)).trans (hb2.cell 2), hW⟩
  have HX : Hid (∀ W, Below W0.heap.size W0 W → ∀ w', Below W.heap.size W w' → Below W0.heap.size W0 w') := Lib.hid fun W hW w' h => hW.trans (h.mono hW.size)
  have HA : Hid (∀ W, Below W0.heap.size W0 W → Calls Try.prog 10 #[] W (LooksRes true W0)) := Lib.hid fun W hW => (awake_any W).mono fun e w' h => ⟨h.1, HX.out W hW w' h.2⟩
  have HEND : Hid (∀ W, Below W0.heap.size W0 W → Below w.heap.size w W) := Lib.hid fun W hW => hbel.trans (hW.mono (by omega))
  have HB0 : Hid (Below W0.heap.size W0 W0) := Lib.hid (Below.refl _ _)
  have HFa : Hid (∀ W, Below W0.heap.size W0 W → Calls Try.prog 13 #[.agg #[.string a.id, .slice A a.cl.length c, .slice D a.pr.length d]] W (FewPost a W)) := Lib.hid fun W hW => few_any W a A c D d _ (HRa.out W hW)
  have HFb : Hid (∀ W, Below W0.heap.size W0 W → Calls Try.prog 13 #[.agg #[.string b.id, .slice A' b.cl.length c', .slice D' b.pr.length d']] W (FewPost b W)) := Lib.hid fun W hW => few_any W b A' c' D' d' _ (HRb.out W hW)
  clear hbel hb1 hb2 h h'
  by_cases fa : fewP a
  · have KFa := Lib.hid fa
    have FA : Hid (∀ W, Below W0.heap.size W0 W → ReadA W w.heap.size a A c D d) := Lib.hid fun W hW => (HRa.out W hW).few fa
    clear fa
    by_cases fb : fewP b
    · have KFb := Lib.hid fb
      have FB : Hid (∀ W, Below W0.heap.size W0 W → ReadA W w.heap.size b A' c' D' d') := Lib.hid fun W hW => (HRb.out W hW).few fb
      clear fb
      have HG : Hid (∀ W, Below W0.heap.size W0 W → Calls Try.prog 23 #[.agg #[.string a.id, .slice A a.cl.length c, .slice D a.pr.length d], .string key] W fun e w' => e = .returned (.tuple #[.string ((getL a.pr key).getD ⟨#[]⟩), .bool (getL a.pr key).isSome]) ∧ Below W0.heap.size W0 w') := Lib.hid fun W hW => (get_any a.id D d _ a.pr _ key W (FA.out W hW).le (FA.out W hW).prs (FA.out W hW).np).mono fun e w' h => ⟨h.1, HX.out W hW w' h.2⟩
      have HH : Hid (∀ W, Below W0.heap.size W0 W → Calls Try.prog 24 #[.agg #[.string a.id, .slice A a.cl.length c, .slice D a.pr.length d], .string key] W fun e w' => e = .returned (.tuple #[.string ((getL a.pr key).getD ⟨#[]⟩), .bool (getL a.pr key).isSome]) ∧ Below W0.heap.size W0 w') := Lib.hid fun W hW => (rget_any a.id D d _ a.pr _ key W (FA.out W hW).le (FA.out W hW).prs (FA.out W hW).np).mono fun e w' h => ⟨h.1, HX.out W hW w' h.2⟩
      have HSM : Hid (∃ r : Bool, (∀ W, Below W0.heap.size W0 W → Calls Try.prog 22 #[.agg #[.string a.id, .slice A a.cl.length c, .slice D a.pr.length d], .agg #[.string b.id, .slice A' b.cl.length c', .slice D' b.pr.length d']] W (LooksRes r W0)) ∧ (∀ W, Below W0.heap.size W0 W → Calls Try.prog 20 #[.agg #[.string a.id, .slice A a.cl.length c, .slice D a.pr.length d], .agg #[.string b.id, .slice A' b.cl.length c', .slice D' b.pr.length d']] W (LooksRes r W0))) := Lib.hid (by
        by_cases hab : a = b
        · refine ⟨true, fun W hW => (same_any W a b A c D d _ A' c' D' d' _ (FA.out W hW) (FB.out W hW)).mono ?_, fun W hW => (rsame_any W a b A c D d _ A' c' D' d' _ (FA.out W hW) (FB.out W hW)).mono ?_⟩
          · rintro e w' ⟨r, rfl, hr, hb⟩; exact ⟨by rw [hr.2 hab], HX.out W hW w' hb⟩
          · rintro e w' ⟨r, rfl, hr, hb⟩; exact ⟨by rw [hr.2 hab], HX.out W hW w' hb⟩
        · refine ⟨false, fun W hW => (same_any W a b A c D d _ A' c' D' d' _ (FA.out W hW) (FB.out W hW)).mono ?_, fun W hW => (rsame_any W a b A c D d _ A' c' D' d' _ (FA.out W hW) (FB.out W hW)).mono ?_⟩
          · rintro e w' ⟨r, rfl, hr, hb⟩; exact ⟨by rw [show r = false by rw [← Bool.not_eq_true, hr]; exact hab], HX.out W hW w' hb⟩
          · rintro e w' ⟨r, rfl, hr, hb⟩; exact ⟨by rw [show r = false by rw [← Bool.not_eq_true, hr]; exact hab], HX.out W hW w' hb⟩)
      have HSA : Hid (∀ W, Below W0.heap.size W0 W → Calls Try.prog 22 #[.agg #[.string a.id, .slice A a.cl.length c, .slice D a.pr.length d], .agg #[.string a.id, .slice A a.cl.length c, .slice D a.pr.length d]] W (LooksRes true W0)) := Lib.hid fun W hW => (same_any W a a A c D d _ A c D d _ (FA.out W hW) (FA.out W hW)).mono (by
        rintro e w' ⟨r, rfl, hr, hb⟩; exact ⟨by rw [hr.2 rfl], HX.out W hW w' hb⟩)
      have HE1 : Hid (∀ W, Below W0.heap.size W0 W → Calls Try.prog 21 #[.agg #[.string a.id, .slice A a.cl.length c, .slice D a.pr.length d]] W (LooksRes (emptyB a) W0)) := Lib.hid fun W hW => (empty_any W a A c D d (FA.out W hW).nc (FA.out W hW).np).mono fun e w' h => ⟨h.1, HX.out W hW w' h.2⟩
      have HE2 : Hid (∀ W, Below W0.heap.size W0 W → Calls Try.prog 25 #[.agg #[.string a.id, .slice A a.cl.length c, .slice D a.pr.length d]] W (LooksRes (emptyB a) W0)) := Lib.hid fun W hW => (rempty_any W a A c D d (FA.out W hW).nc (FA.out W hW).np).mono fun e w' h => ⟨h.1, HX.out W hW w' h.2⟩
      have HH1 : Hid (∀ W, Below W0.heap.size W0 W → Calls Try.prog 26 #[.agg #[.string a.id, .slice A a.cl.length c, .slice D a.pr.length d], .string key] W (LooksRes (Lib.containsS a.cl key) W0)) := Lib.hid fun W hW => (has_any a.id A c _ a.cl _ key W (FA.out W hW).le (FA.out W hW).cls (FA.out W hW).nc).mono fun e w' h => ⟨h.1, HX.out W hW w' h.2⟩
      have HH2 : Hid (∀ W, Below W0.heap.size W0 W → Calls Try.prog 27 #[.agg #[.string a.id, .slice A a.cl.length c, .slice D a.pr.length d], .string key] W (LooksRes (Lib.containsS a.cl key) W0)) := Lib.hid fun W hW => (rhas_any a.id A c _ a.cl _ key W (FA.out W hW).le (FA.out W hW).cls (FA.out W hW).nc).mono fun e w' h => ⟨h.1, HX.out W hW w' h.2⟩
      obtain ⟨rs, hs1, hs2⟩ := HSM.out
      have HS1 := Lib.hid hs1
      have HS2 := Lib.hid hs2
      clear hs1 hs2 HSM FA FB HRa HRb
      generalize (getL a.pr key).getD ⟨#[]⟩ = gv at *
      generalize (getL a.pr key).isSome = gb at *
      generalize emptyB a = eb at *
      generalize Lib.containsS a.cl key = cb at *
      have q1 : (rs == rs) = true := beq_self_eq_true _
      have q2 : (eb == eb) = true := beq_self_eq_true _
      have q3 : (cb == cb) = true := beq_self_eq_true _
      have q4 : (gb == gb) = true := beq_self_eq_true _
      have q5 : (gv.toList == gv.toList) = true := beq_self_eq_true _
      go_enter Try.func9, Try.ntmps9
      go_wp2_with fail
      rw [← HW0.out]
      ((with_reducible refine (HFa.out _ HB0.out).mono ?_))
      rintro e w1 ⟨r, rfl, hr, b1⟩
      obtain rfl : r = true := hr.2 KFa.out
      have B1 := Lib.hid (HX.out _ HB0.out _ b1)
      obtain ⟨x0, x1, x2, x3, x4, x5, _⟩ := HS.out _ B1.out
      clear b1 hr
      go_wp2_with fail
      ((with_reducible refine (HFb.out _ B1.out).mono ?_))
      rintro e w2 ⟨r, rfl, hr, b2⟩
      obtain rfl : r = true := hr.2 KFb.out
      have B2 := Lib.hid (HX.out _ B1.out _ b2)
      obtain ⟨x0, x1, x2, x3, x4, x5, _⟩ := HS.out _ B2.out
      clear b2 hr
      go_wp2_with fail
      ((with_reducible refine (HG.out _ B2.out).mono ?_))
      rintro e w3 ⟨rfl, b3⟩
      have B3 := Lib.hid b3
      obtain ⟨x0, x1, x2, x3, x4, x5, _⟩ := HS.out _ B3.out
      clear b3
      go_wp2_with fail
      ((with_reducible refine (HH.out _ B3.out).mono ?_))
      rintro e w4 ⟨rfl, b4⟩
      have B4 := Lib.hid b4
      have s4 := HS.out _ B4.out
      clear b4
      go_wp2_with fail
      clear hsz
      go_region_held3 (fun W => W.cell? ⟨w.heap.size, 0, none⟩ = some (.string a.id) ∧ W.cell? ⟨w.heap.size, 1, none⟩ = some (.slice A a.cl.length c) ∧ W.cell? ⟨w.heap.size, 2, none⟩ = some (.slice D a.pr.length d) ∧ W.cell? ⟨w.heap.size + 1, 0, none⟩ = some (.string b.id) ∧ W.cell? ⟨w.heap.size + 1, 1, none⟩ = some (.slice A' b.cl.length c') ∧ W.cell? ⟨w.heap.size + 1, 2, none⟩ = some (.slice D' b.pr.length d') ∧ Below W0.heap.size W0 W)
        (first | exact HS.out _ b9 | exact HS.out _ B4.out.drew | go_keep)
        (first
          | (go_at_call 22; (with_reducible refine (HS1.out _ (by assumption : _ ∧ _ ∧ _ ∧ _ ∧ _ ∧ _ ∧ Below W0.heap.size W0 _).2.2.2.2.2.2).mono ?_); rintro e W9 ⟨rfl, b9⟩)
          | (go_at_call 20; (with_reducible refine (HS2.out _ (by assumption : _ ∧ _ ∧ _ ∧ _ ∧ _ ∧ _ ∧ Below W0.heap.size W0 _).2.2.2.2.2.2).mono ?_); rintro e W9 ⟨rfl, b9⟩)
          | (go_at_call 22; (with_reducible refine (HSA.out _ (by assumption : _ ∧ _ ∧ _ ∧ _ ∧ _ ∧ _ ∧ Below W0.heap.size W0 _).2.2.2.2.2.2).mono ?_); rintro e W9 ⟨rfl, b9⟩)
          | (go_at_call 21; (with_reducible refine (HE1.out _ (by assumption : _ ∧ _ ∧ _ ∧ _ ∧ _ ∧ _ ∧ Below W0.heap.size W0 _).2.2.2.2.2.2).mono ?_); rintro e W9 ⟨rfl, b9⟩)
          | (go_at_call 25; (with_reducible refine (HE2.out _ (by assumption : _ ∧ _ ∧ _ ∧ _ ∧ _ ∧ _ ∧ Below W0.heap.size W0 _).2.2.2.2.2.2).mono ?_); rintro e W9 ⟨rfl, b9⟩)
          | (go_at_call 26; (with_reducible refine (HH1.out _ (by assumption : _ ∧ _ ∧ _ ∧ _ ∧ _ ∧ _ ∧ Below W0.heap.size W0 _).2.2.2.2.2.2).mono ?_); rintro e W9 ⟨rfl, b9⟩)
          | (go_at_call 27; (with_reducible refine (HH2.out _ (by assumption : _ ∧ _ ∧ _ ∧ _ ∧ _ ∧ _ ∧ Below W0.heap.size W0 _).2.2.2.2.2.2).mono ?_); rintro e W9 ⟨rfl, b9⟩)
          | (go_at_call 10; (with_reducible refine (HA.out _ (by assumption : _ ∧ _ ∧ _ ∧ _ ∧ _ ∧ _ ∧ Below W0.heap.size W0 _).2.2.2.2.2.2).mono ?_); rintro e W9 ⟨rfl, b9⟩))
      go_wp2_with fail
      go_ret
      exact ⟨rfl, HEND.out _ b9⟩
    · have KFb := Lib.hid fb
      clear fb
      go_enter Try.func9, Try.ntmps9
      go_wp2_with fail
      rw [← HW0.out]
      ((with_reducible refine (HFa.out _ HB0.out).mono ?_))
      rintro e w1 ⟨r, rfl, hr, b1⟩
      obtain rfl : r = true := hr.2 KFa.out
      have B1 := Lib.hid (HX.out _ HB0.out _ b1)
      obtain ⟨x0, x1, x2, x3, x4, x5, _⟩ := HS.out _ B1.out
      clear b1 hr
      go_wp2_with fail
      ((with_reducible refine (HFb.out _ B1.out).mono ?_))
      rintro e w2 ⟨r, rfl, hr, b2⟩
      obtain rfl : r = false := by rw [← Bool.not_eq_true, hr]; exact KFb.out
      have B2 := Lib.hid (HX.out _ B1.out _ b2)
      clear b2 hr
      go_wp2_with fail
      ((with_reducible refine (HA.out _ B2.out).mono ?_))
      rintro e w3 ⟨rfl, b3⟩
      go_wp2_with fail
      go_ret
      exact ⟨rfl, HEND.out _ b3⟩
  · have KFa := Lib.hid fa
    clear fa
    go_enter Try.func9, Try.ntmps9
    go_wp2_with fail
    rw [← HW0.out]
    ((with_reducible refine (HFa.out _ HB0.out).mono ?_))
    rintro e w1 ⟨r, rfl, hr, b1⟩
    obtain rfl : r = false := by rw [← Bool.not_eq_true, hr]; exact KFa.out
    have B1 := Lib.hid (HX.out _ HB0.out _ b1)
    clear b1 hr
    go_wp2_with fail
    ((with_reducible refine (HA.out _ B1.out).mono ?_))
    rintro e w3 ⟨rfl, b3⟩
    go_wp2_with fail
    go_ret
    exact ⟨rfl, HEND.out _ b3⟩
end Go.Proofs.Ytkcfcdnchlmekaa
