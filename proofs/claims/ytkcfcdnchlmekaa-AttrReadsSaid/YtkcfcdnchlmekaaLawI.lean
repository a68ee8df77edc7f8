/-
  The walk of the law AttrReturns.
-/
import Derived.Test.YtkcfcdnchlmekaaLawG
import Derived.Test.YtkcfcdnchlmekaaAttrZ
set_option linter.unusedVariables false
set_option linter.unusedSimpArgs false
namespace Go.Proofs.Ytkcfcdnchlmekaa
open Go.RowKit Go.Pub

theorem text_small (a : AttrL) (h : SmallA 800 a) (h1 : a.cl.length ≤ 32) (h2 : a.pr.length ≤ 32) : (textB a).size ≤ 500000 := by
  have hits : ∀ x ∈ itemsL a, x.size ≤ 3000 := by
    intro x hx
    unfold itemsL at hx
    rcases List.mem_append.1 hx with hx | hx
    · rcases List.mem_append.1 hx with hx | hx
      · unfold idItems at hx
        split at hx
        · cases hx
        · simp at hx; subst hx; unfold idItem; rw [ByteArray.size_append]; show 1 + a.id.size ≤ _; have := h.1; omega
      · obtain ⟨p, hp, rfl⟩ := List.mem_map.1 hx
        have := h.2.1 p hp
        unfold clItem; rw [ByteArray.size_append]; show 1 + p.size ≤ _; omega
    · obtain ⟨p, hp, rfl⟩ := List.mem_map.1 hx
      have hh := h.2.2 p hp
      have h3 := escL_len (bytesL p.2)
      rw [bytesL_length] at h3
      unfold prItem
      rw [ByteArray.size_append, ByteArray.size_append, ByteArray.size_append, mk_size]
      show p.1.size + 2 + _ + 1 ≤ _
      omega
  have hlen : (itemsL a).length ≤ 65 := by
    unfold itemsL idItems
    rw [List.length_append, List.length_append, List.length_map, List.length_map]
    split <;> simp <;> omega
  have hb := sizes_bd 3000 _ hits
  have hm : (itemsL a).length * 3000 ≤ 65 * 3000 := Nat.mul_le_mul_right _ hlen
  have : (textB a).size = ((spL (itemsL a)).drop 1).length + 2 := by rw [← bytesL_length, textB_bytes]; simp
  rw [this, List.length_drop, spL_len]
  omega
theorem fewP.small {a : AttrL} (h : fewP a) : SmallA 800 a := ⟨by have := h.2.2.1; omega, fun x hx => by have := h.2.2.2.1 x hx; omega, fun x hx => by have := h.2.2.2.2 x hx; omega⟩

set_option maxRecDepth 100000 in
set_option maxHeartbeats 4000000 in
theorem lawReturns_any (w : World) (a : AttrL) (A : Option Addr) (c : Nat) (D : Option Addr) (d : Nat) (h : RawA w w.heap.size a A c D d) (more : ByteArray) (hm : more.size ≤ maxLen) :
    Calls Try.prog 7 #[.agg #[.string a.id, .slice A a.cl.length c, .slice D a.pr.length d], .string more] w fun e w' => e = .returned (.bool true) ∧ Below w.heap.size w w' := by
  unfold maxLen at hm
  have HB := Lib.hid (Boxed.new h)
  have HA := Lib.hid awake_any
  have HF := Lib.hid (few_any _ a A c D d _ (Boxed.new h).raw)
  clear h
  by_cases hf : fewP a
  · have KF := Lib.hid hf
    by_cases hl : 400 < more.size
    · have e1 : decide (400 < more.size) = true := decide_eq_true hl
      clear hf
      go_enter Try.func7, Try.ntmps7
      go_wp2_with fail
      ((with_reducible refine HF.out.mono ?_))
      rintro e w1 ⟨r, rfl, hr, b1⟩
      obtain rfl : r = true := hr.2 KF.out
      have K1 := Lib.hid b1
      clear b1 hr
      go_wp2_with fail
      ((with_reducible refine (HA.out _).mono ?_))
      rintro e w4 ⟨rfl, b4⟩
      go_wp2_with fail
      go_ret
      exact ⟨rfl, HB.out.end_ (below_chain K1.out b4)⟩
    · have e1 : decide (400 < more.size) = false := decide_eq_false hl
      have HC : Hid (∀ W, RawA W w.heap.size a A c D d → Calls Try.prog 15 #[.agg #[.string a.id, .slice A a.cl.length c, .slice D a.pr.length d]] W fun e w' => e = .returned (.int .i64 (checkE a)) ∧ Below W.heap.size W w') := Lib.hid fun W hW => rcheck_any W a A c D d _ (hW.few hf) hW.cc hW.dd
      by_cases hE : checkE a = 0
      · have HC0 : Hid (∀ W, RawA W w.heap.size a A c D d → Calls Try.prog 15 #[.agg #[.string a.id, .slice A a.cl.length c, .slice D a.pr.length d]] W fun e w' => e = .returned (.int .i64 (0 : Nat)) ∧ Below W.heap.size W w') := Lib.hid fun W hW => by rw [← hE]; exact HC.out W hW
        have HT : Hid (∀ W, RawA W w.heap.size a A c D d → Calls Try.prog 16 #[.agg #[.string a.id, .slice A a.cl.length c, .slice D a.pr.length d]] W (TextPost (textB a, 0) W)) := Lib.hid fun W hW => text_ok W a A c D d _ (hW.few hf) hE (checkE_lim a hE).1 (checkE_lim a hE).2
        have hts : (textB a).size ≤ 500000 := text_small a hf.small (checkE_lim a hE).1 (checkE_lim a hE).2
        have HP : Hid (∀ W, Calls Try.prog 18 #[.string (textB a ++ more), .int .i64 0] W (ReadyPost (a, (textB a).size, 0) W)) := Lib.hid fun W => by
          rw [← returns_pure a more hE]
          exact parse_ready W (textB a ++ more) 0 (by rw [ByteArray.size_append]; omega)
        have HS : Hid (∀ W, RawA W w.heap.size a A c D d → ∀ A' c' D' d' B', ReadA W B' a A' c' D' d' → Calls Try.prog 20 #[.agg #[.string a.id, .slice A a.cl.length c, .slice D a.pr.length d], .agg #[.string a.id, .slice A' a.cl.length c', .slice D' a.pr.length d']] W fun e w' => e = .returned (.bool true) ∧ Below W.heap.size W w') := Lib.hid fun W hW A' c' D' d' B' h' => rsame_true W a A c D d _ A' c' D' d' _ (hW.few hf) h'
        clear hf hE HC
        generalize textB a = tx at *
        have cat1 : ∀ w : World, (Op.stringOp .add tx more).run Try.prog w = .ok (.string (tx ++ more)) w := fun w => run_string_add_sum _ _ _ (by omega)
        have q1 : ((tx.size : Int) == (tx.size : Int)) = true := beq_self_eq_true _
        go_enter Try.func7, Try.ntmps7
        go_wp2_with fail
        ((with_reducible refine HF.out.mono ?_))
        rintro e w1 ⟨r, rfl, hr, b1⟩
        obtain rfl : r = true := hr.2 KF.out
        have K1 := Lib.hid b1
        obtain ⟨g0, g1, g2⟩ := HB.out.cells b1
        clear b1 hr
        go_wp2_with fail
        ((with_reducible refine (HC0.out _ (HB.out.raw.below K1.out)).mono ?_))
        rintro e w2 ⟨rfl, b2⟩
        have K2 := Lib.hid (below_chain K1.out b2)
        obtain ⟨g0, g1, g2⟩ := HB.out.cells K2.out
        clear b2
        go_wp2_with fail
        ((with_reducible refine (HT.out _ (HB.out.raw.below K2.out)).mono ?_))
        rintro e w3 ⟨rfl, b3⟩
        have K3 := Lib.hid (below_chain K2.out b3)
        clear b3
        go_wp2_with fail
        ((with_reducible refine (HP.out _).mono ?_))
        rintro e w4 ⟨A', c', D', d', rfl, r4, _, _, b4⟩
        have KR := Lib.hid r4
        have K4 := Lib.hid (below_chain K3.out b4)
        obtain ⟨g0, g1, g2⟩ := HB.out.cells K4.out
        have hz4 := K4.out.size
        have hz0 := HB.out.siz
        have hz5 : w.heap.size < w4.heap.size := by omega
        clear r4 b4 hz4 hz0
        have K5 := Lib.hid (below_chain K4.out ((Below.refl _ _).alloc (Nat.le_refl _) (.cells #[.string a.id, .slice A' a.cl.length c', .slice D' a.pr.length d'] 27)))
        go_wp2_with fail
        refine (HS.out _ (HB.out.raw.below K5.out) A' c' D' d' _ (KR.out.below ((Below.refl _ _).alloc (Nat.le_refl _) _))).mono ?_
        rintro e w6 ⟨rfl, b6⟩
        have K6 := Lib.hid (below_chain K5.out b6)
        clear b6
        go_wp2_with fail
        ((with_reducible refine (HA.out _).mono ?_))
        rintro e w7 ⟨rfl, b7⟩
        go_wp2_with fail
        go_ret
        exact ⟨rfl, HB.out.end_ (below_chain K6.out b7)⟩
      · have z : ((checkE a : Int) != 0) = true := by simp; exact hE
        clear hf hE
        generalize checkE a = E at *
        go_enter Try.func7, Try.ntmps7
        go_wp2_with fail
        ((with_reducible refine HF.out.mono ?_))
        rintro e w1 ⟨r, rfl, hr, b1⟩
        obtain rfl : r = true := hr.2 KF.out
        have K1 := Lib.hid b1
        obtain ⟨g0, g1, g2⟩ := HB.out.cells b1
        clear b1 hr
        go_wp2_with fail
        ((with_reducible refine (HC.out _ (HB.out.raw.below K1.out)).mono ?_))
        rintro e w2 ⟨rfl, b2⟩
        have K2 := Lib.hid (below_chain K1.out b2)
        clear b2
        go_wp2_with fail
        ((with_reducible refine (HA.out _).mono ?_))
        rintro e w4 ⟨rfl, b4⟩
        go_wp2_with fail
        go_ret
        exact ⟨rfl, HB.out.end_ (below_chain K2.out b4)⟩
  · have KF := Lib.hid hf
    clear hf
    go_enter Try.func7, Try.ntmps7
    go_wp2_with fail
    ((with_reducible refine HF.out.mono ?_))
    rintro e w1 ⟨r, rfl, hr, b1⟩
    obtain rfl : r = false := by rw [← Bool.not_eq_true, hr]; exact KF.out
    have K1 := Lib.hid b1
    clear b1 hr
    go_wp2_with fail
    ((with_reducible refine (HA.out _).mono ?_))
    rintro e w4 ⟨rfl, b4⟩
    go_wp2_with fail
    go_ret
    exact ⟨rfl, HB.out.end_ (below_chain K1.out b4)⟩
end Go.Proofs.Ytkcfcdnchlmekaa
