/-
  The walk of the law AttrReads.
-/
import Derived.Test.YtkcfcdnchlmekaaLawI
import Derived.Test.YtkcfcdnchlmekaaAttrY
import Derived.Test.YtkcfcdnchlmekaaAttrZZ
set_option linter.unusedVariables false
set_option linter.unusedSimpArgs false
namespace Go.Proofs.Ytkcfcdnchlmekaa
open Go.RowKit Go.Pub

theorem byte_at (s : ByteArray) (t : Nat) (h1 : 1 ≤ t) (h2 : t ≤ s.size) : (t - 1 < s.size) := by omega

set_option maxRecDepth 100000 in
set_option maxHeartbeats 4000000 in
theorem lawReads_any (s : ByteArray) (w : World) (hs : s.size ≤ 9223372036854775807) : Calls Try.prog 8 #[.string s] w fun e w' => e = .returned (.bool true) ∧ Below w.heap.size w w' := by
  have HA := Lib.hid awake_any
  by_cases h : 800 < s.size
  · go_enter Try.func8, Try.ntmps8
    go_wp2_with fail
    ((with_reducible refine (HA.out _).mono ?_))
    rintro e w1 ⟨rfl, b1⟩
    go_wp2_with fail
    go_ret
    exact ⟨rfl, b1⟩
  · have HP := Lib.hid fun W => parse_ready W s 0 (by omega)
    have HR := Lib.hid (reads_pure s)
    have hsm : SmallA 800 (parseL s 0).1 := by
      have := parseL_small s 0
      exact ⟨by have := this.1; omega, fun x hx => by have := this.2.1 x hx; omega, fun x hx => by have := this.2.2 x hx; omega⟩
    have HSM := Lib.hid hsm
    clear hsm
    generalize parseL s 0 = P at *
    obtain ⟨a, t, en⟩ := P
    by_cases he : en = 0
    · subst he
      obtain ⟨hva, ht2, hts, hbt⟩ := HR.out.1 rfl
      have hE := hva.check
      have ht2' : 2 ≤ t := ht2
      have hts' : t ≤ s.size := hts
      obtain ⟨u, rfl⟩ : ∃ u, t = u + 1 := ⟨t - 1, by omega⟩
      have hu : u < s.size := by omega
      have hbt' : bt s u = 125 := hbt
      have hlt : ((s[u].toNat : Nat) : Int) < 256 := by rw [get_bt s u hu]; omega
      have z1 : (((s[u].toNat : Nat) : Int) == 125) = true := by rw [get_bt s u hu, hbt']; rfl
      have htx : (textB a).size ≤ 500000 := text_small a HSM.out hva.lc hva.lp
      have HT : Hid (∀ W A c D d B, ReadA W B a A c D d → Calls Try.prog 16 #[.agg #[.string a.id, .slice A a.cl.length c, .slice D a.pr.length d]] W (TextPost (textB a, 0) W)) := Lib.hid fun W A c D d B hW => text_ok W a A c D d B hW hE (checkE_lim a hE).1 (checkE_lim a hE).2
      have HQ : Hid (∀ W, Calls Try.prog 18 #[.string (textB a), .int .i64 0] W (ReadyPost (a, (textB a).size, 0) W)) := Lib.hid fun W => by
        have := returns_pure a ⟨#[]⟩ hE
        have e0 : textB a ++ (⟨#[]⟩ : ByteArray) = textB a := by
          have e1 : textB a ++ (⟨#[]⟩ : ByteArray) = mk (bytesL (textB a ++ ⟨#[]⟩)) := (mk_bytesL _).symm
          rw [e1, bytesL_app]
          show mk (bytesL (textB a) ++ []) = _
          rw [List.append_nil, mk_bytesL]
        rw [e0] at this
        rw [← this]
        exact parse_ready W (textB a) 0 (by omega)
      have HC : Hid (∀ W A c D d B, ReadA W B a A c D d → Calls Try.prog 14 #[.agg #[.string a.id, .slice A a.cl.length c, .slice D a.pr.length d]] W fun e w' => e = .returned (.int .i64 (0 : Nat)) ∧ Below W.heap.size W w') := Lib.hid fun W A c D d B hW => by rw [← hE]; exact check_any W a A c D d B hW
      have HS : Hid (∀ W A c D d B A' c' D' d' B', ReadA W B a A c D d → ReadA W B' a A' c' D' d' → Calls Try.prog 22 #[.agg #[.string a.id, .slice A a.cl.length c, .slice D a.pr.length d], .agg #[.string a.id, .slice A' a.cl.length c', .slice D' a.pr.length d']] W fun e w' => e = .returned (.bool true) ∧ Below W.heap.size W w') := Lib.hid fun W A c D d B A' c' D' d' B' h1 h2 => (same_any W a a A c D d B A' c' D' d' B' h1 h2).mono (by
        rintro e w' ⟨r, rfl, hr, hb⟩; exact ⟨by rw [hr.2 rfl], hb⟩)
      clear hE hbt hbt' hva HSM HR ht2 hts
      generalize textB a = tx at *
      have q1 : ((tx.size : Int) == (tx.size : Int)) = true := beq_self_eq_true _
      have d2 : decide ((2 : Int) ≤ (u : Int) + 1) = true := decide_eq_true (by omega)
      have d3 : decide (1 ≤ u) = true := decide_eq_true (by omega)
      have d4 : decide ((u : Int) + 1 ≤ (s.size : Int)) = true := decide_eq_true (by omega)
      have d5 : decide (u < s.size) = true := decide_eq_true hu
      go_enter Try.func8, Try.ntmps8
      go_wp2_with fail
      ((with_reducible refine (HP.out _).mono ?_))
      rintro e w1 ⟨A, c, D, d, rfl, r1, _, _, b1⟩
      obtain ⟨W1, hW1⟩ : ∃ W1, W1 = w1.alloc (.cells #[.string a.id, .slice A a.cl.length c, .slice D a.pr.length d] 27) := ⟨_, rfl⟩
      have HW1 := Lib.hid hW1
      have KR : Hid (ReadA W1 w1.heap.size a A c D d) := Lib.hid (by rw [hW1]; exact r1.below ((Below.refl _ _).alloc (Nat.le_refl _) _))
      have KBl : Hid (Blk W1 w1.heap.size 27 #[.string a.id, .slice A a.cl.length c, .slice D a.pr.length d]) := Lib.hid (by rw [hW1]; exact Blk.new _ _ _)
      have KSz : Hid (W1.heap.size = w1.heap.size + 1) := Lib.hid (by rw [hW1]; exact heap_alloc_size _ _)
      have KB : Hid (Below w.heap.size w W1) := Lib.hid (by rw [hW1]; exact b1.alloc b1.size _)
      have KC : Hid (∀ W, Below W1.heap.size W1 W → W.cell? ⟨w1.heap.size, 0, none⟩ = some (.string a.id) ∧ W.cell? ⟨w1.heap.size, 1, none⟩ = some (.slice A a.cl.length c) ∧ W.cell? ⟨w1.heap.size, 2, none⟩ = some (.slice D a.pr.length d)) := Lib.hid fun W hW =>
        ⟨(hW.cell (p := ⟨w1.heap.size, 0, none⟩) (by rw [KSz.out]; simp)).trans (KBl.out.cell 0), (hW.cell (p := ⟨w1.heap.size, 1, none⟩) (by rw [KSz.out]; simp)).trans (KBl.out.cell 1), (hW.cell (p := ⟨w1.heap.size, 2, none⟩) (by rw [KSz.out]; simp)).trans (KBl.out.cell 2)⟩
      clear r1 b1 hW1
      go_wp2_with fail
      rw [← HW1.out]
      ((with_reducible refine (HT.out _ _ _ _ _ _ KR.out).mono ?_))
      rintro e w2 ⟨rfl, b2⟩
      have K2 := Lib.hid b2
      clear b2
      go_wp2_with fail
      ((with_reducible refine (HQ.out _).mono ?_))
      rintro e w3 ⟨A', c', D', d', rfl, r3, _, _, b3⟩
      have KR3 := Lib.hid r3
      have K3 := Lib.hid (below_chain K2.out b3)
      obtain ⟨g0, g1, g2⟩ := KC.out _ K3.out
      have hz3 : w1.heap.size < w3.heap.size := by have := K3.out.size; have := KSz.out; omega
      clear r3 b3
      have K4 := Lib.hid (below_chain K3.out ((Below.refl _ _).alloc (Nat.le_refl _) (.cells #[.string a.id, .slice A' a.cl.length c', .slice D' a.pr.length d'] 27)))
      have KR4 := Lib.hid (KR3.out.below ((Below.refl _ _).alloc (Nat.le_refl _) (.cells #[.string a.id, .slice A' a.cl.length c', .slice D' a.pr.length d'] 27)))
      have KBl4 := Lib.hid (Blk.new w3 27 #[.string a.id, .slice A' a.cl.length c', .slice D' a.pr.length d'])
      go_wp2_with fail
      refine (HC.out _ _ _ _ _ _ (KR.out.below K4.out)).mono ?_
      rintro e w5 ⟨rfl, b5⟩
      have K5 := Lib.hid (below_chain K4.out b5)
      obtain ⟨g0, g1, g2⟩ := KC.out _ K5.out
      have KR5 := Lib.hid (KR4.out.below b5)
      have KBl5 := Lib.hid (KBl4.out.below b5 (by simp))
      have f0 := KBl5.out.cell 0
      have f1 := KBl5.out.cell 1
      have f2 := KBl5.out.cell 2
      simp at f0 f1 f2
      clear b5
      go_wp2_with fail
      refine (HS.out _ _ _ _ _ _ _ _ _ _ _ (KR.out.below K5.out) KR5.out).mono ?_
      rintro e w6 ⟨rfl, b6⟩
      have K6 := Lib.hid (below_chain K5.out b6)
      clear b6
      go_wp2_with fail
      ((with_reducible refine (HA.out _).mono ?_))
      rintro e w7 ⟨rfl, b7⟩
      go_wp2_with fail
      go_ret
      exact ⟨rfl, KB.out.trans ((below_chain K6.out b7).mono KB.out.size)⟩
    · obtain ⟨ha, ht⟩ := HR.out.2 he
      have ha' : a = emptyA := ha
      have ht' : t = 0 := ht
      subst ha' ht'
      have z : ((en : Int) != 0) = true := by simp; exact he
      have HE : Hid (∀ W A c D d, Calls Try.prog 21 #[.agg #[.string ⟨#[]⟩, .slice A 0 c, .slice D 0 d]] W fun e w' => e = .returned (.bool true) ∧ Below W.heap.size W w') := Lib.hid fun W A c D d => (empty_any W emptyA A c D d (by decide) (by decide)).mono fun e w' h => ⟨by rw [h.1]; unfold emptyB; rw [show emptyA.id.toList = [] from toList_nil]; rfl, h.2⟩
      have HP2 : Hid (∀ W, Calls Try.prog 18 #[.string s, .int .i64 0] W fun e w' => ∃ A c D d, e = .returned (.tuple #[.agg #[.string ⟨#[]⟩, .slice A 0 c, .slice D 0 d], .int .i64 0, .int .i64 en]) ∧ Below W.heap.size W w') := Lib.hid fun W => (HP.out W).mono (by
        rintro e w' ⟨A, c, D, d, rfl, _, _, _, hb⟩; exact ⟨A, c, D, d, rfl, hb⟩)
      clear ha ht HR HSM HP he
      go_enter Try.func8, Try.ntmps8
      go_wp2_with fail
      ((with_reducible refine (HP2.out _).mono ?_))
      rintro e w1 ⟨A, c, D, d, rfl, b1⟩
      have K1 := Lib.hid (below_chain b1 ((Below.refl _ _).alloc (Nat.le_refl _) (.cells #[.string ⟨#[]⟩, .slice A 0 c, .slice D 0 d] 27)))
      clear b1
      go_wp2_with fail
      ((with_reducible refine (HE.out _ _ _ _ _).mono ?_))
      rintro e w2 ⟨rfl, b2⟩
      have K2 := Lib.hid (below_chain K1.out b2)
      clear b2
      go_wp2_with fail
      ((with_reducible refine (HA.out _).mono ?_))
      rintro e w3 ⟨rfl, b3⟩
      go_wp2_with fail
      go_ret
      exact ⟨rfl, below_chain K2.out b3⟩
end Go.Proofs.Ytkcfcdnchlmekaa
