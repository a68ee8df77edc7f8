/-
  The walk of the law AttrChecks.
-/
import Derived.Test.YtkcfcdnchlmekaaAttrT
import Derived.Test.YtkcfcdnchlmekaaAttrR
import Derived.Deep.RegionHeld3
import Derived.Deep.RegionWith
set_option linter.unusedVariables false
set_option linter.unusedSimpArgs false
namespace Go.Proofs.Ytkcfcdnchlmekaa
open Go.RowKit Go.Pub

theorem below_drew_left {B : Nat} {w w' : World} (h : Below B w w') : Below B w w'.drew := h.drew

set_option maxRecDepth 100000 in
set_option maxHeartbeats 2000000 in
theorem lawChecks_any (w : World) (a : AttrL) (A : Option Addr) (c : Nat) (D : Option Addr) (d : Nat) (h : RawA w w.heap.size a A c D d) :
    Calls Try.prog 4 #[.agg #[.string a.id, .slice A a.cl.length c, .slice D a.pr.length d]] w fun e w' => e = .returned (.bool true) ∧ Below w.heap.size w w' := by
  obtain ⟨W0, hW0⟩ : ∃ W0, W0 = w.alloc (.cells #[.string a.id, .slice A a.cl.length c, .slice D a.pr.length d] 27) := ⟨_, rfl⟩
  have HW0 := Lib.hid hW0
  have hblk : Blk W0 w.heap.size 27 #[.string a.id, .slice A a.cl.length c, .slice D a.pr.length d] := by rw [hW0]; exact Blk.new _ _ _
  have hbel : Below w.heap.size w W0 := by rw [hW0]; exact (Below.refl _ _).alloc (Nat.le_refl _) _
  have hsz : W0.heap.size = w.heap.size + 1 := by rw [hW0]; exact heap_alloc_size _ _
  have hraw : RawA W0 w.heap.size a A c D d := h.below hbel
  clear hW0
  have HRaw : Hid (∀ W, Below (w.heap.size + 1) W0 W → RawA W w.heap.size a A c D d) := Lib.hid fun W hW => hraw.below (by rw [hsz]; exact hW)
  have HS : Hid (∀ W, Below (w.heap.size + 1) W0 W → W.cell? ⟨w.heap.size, 0, none⟩ = some (.string a.id) ∧ W.cell? ⟨w.heap.size, 1, none⟩ = some (.slice A a.cl.length c) ∧ W.cell? ⟨w.heap.size, 2, none⟩ = some (.slice D a.pr.length d) ∧ Below (w.heap.size + 1) W0 W) := Lib.hid fun W hW =>
    ⟨(hW.cell (p := ⟨w.heap.size, 0, none⟩) (by simp)).trans (hblk.cell 0), (hW.cell (p := ⟨w.heap.size, 1, none⟩) (by simp)).trans (hblk.cell 1), (hW.cell (p := ⟨w.heap.size, 2, none⟩) (by simp)).trans (hblk.cell 2), hW⟩
  have HA : Hid (∀ W, Below (w.heap.size + 1) W0 W → Calls Try.prog 10 #[] W fun e w' => e = .returned (.bool true) ∧ Below (w.heap.size + 1) W0 w') := Lib.hid fun W hW => (awake_any W).mono fun e w' h => ⟨h.1, hW.trans (h.2.mono (by have := hW.size; omega))⟩
  have HF : Hid (∀ W, Below (w.heap.size + 1) W0 W → Calls Try.prog 13 #[.agg #[.string a.id, .slice A a.cl.length c, .slice D a.pr.length d]] W fun e w' => (∃ r : Bool, e = .returned (.bool r) ∧ (r = true ↔ fewP a)) ∧ Below (w.heap.size + 1) W0 w') := Lib.hid fun W hW => (few_any W a A c D d _ (HRaw.out W hW)).mono fun e w' ⟨r, h1, h2, h3⟩ => ⟨⟨r, h1, h2⟩, hW.trans (h3.mono (by have := hW.size; omega))⟩
  have HEND : Hid (∀ W, Below (w.heap.size + 1) W0 W → Below w.heap.size w W) := Lib.hid fun W hW => hbel.trans (hW.mono (by omega))
  have HB0 : Hid (Below (w.heap.size + 1) W0 W0) := Lib.hid (Below.refl _ _)
  clear hraw hbel hblk h
  by_cases hf : fewP a
  · have HF1 : Hid (∀ W, Below (w.heap.size + 1) W0 W → Calls Try.prog 13 #[.agg #[.string a.id, .slice A a.cl.length c, .slice D a.pr.length d]] W fun e w' => e = .returned (.bool true) ∧ Below (w.heap.size + 1) W0 w') := Lib.hid fun W hW => (HF.out W hW).mono fun e w' ⟨⟨r, h1, h2⟩, h3⟩ => ⟨by rw [h1, h2.2 hf], h3⟩
    have HC : Hid (∀ W, Below (w.heap.size + 1) W0 W → Calls Try.prog 14 #[.agg #[.string a.id, .slice A a.cl.length c, .slice D a.pr.length d]] W fun e w' => e = .returned (.int .i64 (checkE a)) ∧ Below (w.heap.size + 1) W0 w') := Lib.hid fun W hW => (check_any W a A c D d _ ((HRaw.out W hW).few hf)).mono fun e w' h => ⟨h.1, hW.trans (h.2.mono (by have := hW.size; omega))⟩
    have HD : Hid (∀ W, Below (w.heap.size + 1) W0 W → Calls Try.prog 15 #[.agg #[.string a.id, .slice A a.cl.length c, .slice D a.pr.length d]] W fun e w' => e = .returned (.int .i64 (checkE a)) ∧ Below (w.heap.size + 1) W0 w') := Lib.hid fun W hW => (rcheck_any W a A c D d _ ((HRaw.out W hW).few hf) (HRaw.out W hW).cc (HRaw.out W hW).dd).mono fun e w' h => ⟨h.1, hW.trans (h.2.mono (by have := hW.size; omega))⟩
    clear HF HRaw hf
    generalize checkE a = E at *
    have hee : ((E : Int) == (E : Int)) = true := beq_self_eq_true _
    go_enter Try.func4, Try.ntmps4
    go_wp2_with fail
    rw [← HW0.out]
    have s0 := HS.out W0 HB0.out
    clear hsz
    go_region_held3 (fun w' => w'.cell? ⟨w.heap.size, 0, none⟩ = some (.string a.id) ∧ w'.cell? ⟨w.heap.size, 1, none⟩ = some (.slice A a.cl.length c) ∧ w'.cell? ⟨w.heap.size, 2, none⟩ = some (.slice D a.pr.length d) ∧ Below (w.heap.size + 1) W0 w')
      (first | exact HS.out _ b1 | exact HS.out _ HB0.out.drew | go_keep)
      (first
        | (go_at_call 13; refine (HF1.out _ (by assumption : _ ∧ _ ∧ _ ∧ Below (w.heap.size + 1) W0 _).2.2.2).mono ?_; rintro e W1 ⟨rfl, b1⟩)
        | (go_at_call 14; refine (HC.out _ (by assumption : _ ∧ _ ∧ _ ∧ Below (w.heap.size + 1) W0 _).2.2.2).mono ?_; rintro e W1 ⟨rfl, b1⟩)
        | (go_at_call 15; refine (HD.out _ (by assumption : _ ∧ _ ∧ _ ∧ Below (w.heap.size + 1) W0 _).2.2.2).mono ?_; rintro e W1 ⟨rfl, b1⟩)
        | (go_at_call 10; refine (HA.out _ (by assumption : _ ∧ _ ∧ _ ∧ Below (w.heap.size + 1) W0 _).2.2.2).mono ?_; rintro e W1 ⟨rfl, b1⟩))
    go_wp2_with fail
    go_ret
    exact ⟨rfl, HEND.out _ b1⟩
  · have HF1 : Hid (∀ W, Below (w.heap.size + 1) W0 W → Calls Try.prog 13 #[.agg #[.string a.id, .slice A a.cl.length c, .slice D a.pr.length d]] W fun e w' => e = .returned (.bool false) ∧ Below (w.heap.size + 1) W0 w') := Lib.hid fun W hW => (HF.out W hW).mono fun e w' ⟨⟨r, h1, h2⟩, h3⟩ => ⟨by rw [h1, show r = false by rw [← Bool.not_eq_true, h2]; exact hf], h3⟩
    clear HF HRaw hf
    go_enter Try.func4, Try.ntmps4
    go_wp2_with fail
    rw [← HW0.out]
    obtain ⟨s0, s1, s2, _⟩ := HS.out W0 HB0.out
    clear hsz
    have hu : undef = Value.tuple #[] := rfl
    first
    | go_region_with (first
        | (go_at_call 13; refine (HF1.out _ HB0.out.drew).mono ?_; rintro e W1 ⟨rfl, b1⟩)
        | (go_at_call 10; refine (HA.out _ b1).mono ?_; rintro e W1 ⟨rfl, b2⟩))
    | fail
    all_goals
      go_wp2_with fail
      go_ret
      exact ⟨rfl, HEND.out _ b2⟩
end Go.Proofs.Ytkcfcdnchlmekaa
