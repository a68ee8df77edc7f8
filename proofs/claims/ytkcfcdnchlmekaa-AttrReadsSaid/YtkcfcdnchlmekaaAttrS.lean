/-
  What is read is small; the walk of the law AttrParses.
-/
import Derived.Test.YtkcfcdnchlmekaaAttrQ
import Derived.Test.YtkcfcdnchlmekaaAttrK
import Derived.Test.YtkcfcdnchlmekaaAttrR
set_option linter.unusedVariables false
set_option linter.unusedSimpArgs false
namespace Go.Proofs.Ytkcfcdnchlmekaa
open Go.RowKit Go.Pub

def SmallA (n : Nat) (a : AttrL) : Prop := a.id.size ≤ n ∧ (∀ x ∈ a.cl, x.size ≤ n) ∧ (∀ p ∈ a.pr, p.1.size ≤ n ∧ p.2.size ≤ n)
theorem extract_le (s : ByteArray) (i j : Nat) : (s.extract i j).size ≤ s.size := by rw [ByteArray.size_extract]; omega
theorem valL_small (s : ByteArray) (i : Nat) : (valL s i).1.size ≤ s.size := by
  unfold valL
  split
  · cases hq : qv s s.size (i + 1) [] with
    | none => exact Nat.zero_le _
    | some p =>
      obtain ⟨l, j⟩ := p
      have := (qv_len s _ _ _ l j hq).1
      show (mk l).size ≤ _
      rw [← bytesL_length, bytesL_mk']
      simp at this
      omega
  · exact extract_le _ _ _
theorem classA_small (n : Nat) (a : AttrL) (x : ByteArray) (h : SmallA n a) (hx : x.size ≤ n) : SmallA n (classA a x) := by
  unfold classA
  split
  · refine ⟨h.1, fun y hy => ?_, h.2.2⟩
    rcases List.mem_append.1 hy with hy | hy
    · exact h.2.1 y hy
    · simp at hy; subst hy; exact hx
  · exact h
theorem pairA_small (n : Nat) (a : AttrL) (x y : ByteArray) (h : SmallA n a) (hx : x.size ≤ n) (hy : y.size ≤ n) : SmallA n (pairA a x y) := by
  unfold pairA
  split
  · refine ⟨h.1, h.2.1, fun p hp => ?_⟩
    rcases List.mem_append.1 hp with hp | hp
    · exact h.2.2 p hp
    · simp at hp; subst hp; exact ⟨hx, hy⟩
  · exact h
theorem itemL_small (s : ByteArray) (a : AttrL) (i : Nat) (h : SmallA s.size a) : SmallA s.size (itemL a s i).2.2 := by
  unfold itemL
  split
  · split
    · split
      · exact ⟨extract_le _ _ _, h.2.1, h.2.2⟩
      · exact h
    · exact h
  · split
    · split
      · exact classA_small _ _ _ h (extract_le _ _ _)
      · exact h
    · split
      · unfold pairItem
        split
        · split
          · exact pairA_small _ _ _ _ h (extract_le _ _ _) (valL_small _ _)
          · exact h
        · exact h
      · exact h
theorem emptyA_small (n : Nat) : SmallA n emptyA := ⟨Nat.zero_le _, fun x hx => absurd hx (by simp [emptyA]), fun x hx => absurd hx (by simp [emptyA])⟩
theorem parseF_small (s : ByteArray) : ∀ f i b a, SmallA s.size a → SmallA s.size (parseF s f i b a).1
  | 0, _, _, _, _ => emptyA_small _
  | f + 1, i, b, a, h => by
    unfold parseF
    split
    · split
      · exact h
      · split
        · exact emptyA_small _
        · split
          · exact parseF_small s f _ _ _ (itemL_small s a i h)
          · exact emptyA_small _
    · exact emptyA_small _
theorem parseL_small (s : ByteArray) (i : Int) : SmallA s.size (parseL s i).1 := by
  unfold parseL
  split
  · exact parseF_small s _ _ _ _ (emptyA_small _)
  · exact emptyA_small _
theorem AttrVal.read {w : World} {base : Nat} {v : Value} {a : AttrL} {n : Nat} (h : AttrVal w base v a) (hs : SmallA n a) (hn : n ≤ 1000000) :
    ∃ A c D d, v = .agg #[.string a.id, .slice A a.cl.length c, .slice D a.pr.length d] ∧ ReadA w w.heap.size a A c D d ∧ a.cl.length ≤ c ∧ a.pr.length ≤ d := by
  obtain ⟨⟨vC, vP, rfl, hc, hp⟩, h1, h2⟩ := h
  obtain ⟨A, c, rfl⟩ := own_slice hc
  obtain ⟨D, d, rfl⟩ := own_slice hp
  refine ⟨A, c, D, d, rfl, ⟨Reads.of_own hc, Reads.of_own hp, Nat.le_refl _, by omega, by omega, Nat.le_trans hs.1 hn, fun x hx => Nat.le_trans (hs.2.1 x hx) hn, fun x hx => ⟨Nat.le_trans (hs.2.2 x hx).1 hn, Nat.le_trans (hs.2.2 x hx).2 hn⟩⟩, ?_, ?_⟩
  · rcases hc.2 with ⟨e1, e2⟩ | ⟨g', cap', cur', e1, _, _, e2, _⟩
    · omega
    · injection e1 with _ _ e3; omega
  · rcases hp.2 with ⟨e1, e2⟩ | ⟨g', cap', cur', e1, _, _, e2, _⟩
    · omega
    · injection e1 with _ _ e3; omega

/-- What Parse gives, ready to be read. -/
def ReadyPost (r : AttrL × Nat × Nat) (w : World) (e : Ending) (w' : World) : Prop :=
  ∃ A c D d, e = .returned (.tuple #[.agg #[.string r.1.id, .slice A r.1.cl.length c, .slice D r.1.pr.length d], .int .i64 r.2.1, .int .i64 r.2.2]) ∧ ReadA w' w'.heap.size r.1 A c D d ∧ r.1.cl.length ≤ c ∧ r.1.pr.length ≤ d ∧ Below w.heap.size w w'
theorem parse_ready (w : World) (s : ByteArray) (i : Int) (hs : s.size ≤ 1000000) : Calls Try.prog 18 #[.string s, .int .i64 i] w (ReadyPost (parseL s i) w) := by
  refine (parse_any w s i hs).mono ?_
  rintro e w' ⟨v, rfl, hv, hb⟩
  obtain ⟨A, c, D, d, rfl, h1, h2, h3⟩ := hv.read (parseL_small s i) hs
  exact ⟨A, c, D, d, rfl, h1, h2, h3, hb⟩
theorem rparse_ready (w : World) (s : ByteArray) (i : Int) (hs : s.size ≤ 1000000) : Calls Try.prog 19 #[.string s, .int .i64 i] w (ReadyPost (parseL s i) w) := by
  refine (rparse_any w s i hs).mono ?_
  rintro e w' ⟨v, rfl, hv, hb⟩
  obtain ⟨A, c, D, d, rfl, h1, h2, h3⟩ := hv.read (parseL_small s i) hs
  exact ⟨A, c, D, d, rfl, h1, h2, h3, hb⟩
theorem rsame_true (w : World) (a : AttrL) (A : Option Addr) (c : Nat) (D : Option Addr) (d B : Nat) (A' : Option Addr) (c' : Nat) (D' : Option Addr) (d' B' : Nat) (h : ReadA w B a A c D d) (h' : ReadA w B' a A' c' D' d') :
    Calls Try.prog 20 #[.agg #[.string a.id, .slice A a.cl.length c, .slice D a.pr.length d], .agg #[.string a.id, .slice A' a.cl.length c', .slice D' a.pr.length d']] w fun e w' => e = .returned (.bool true) ∧ Below w.heap.size w w' := by
  refine (rsame_any w a a A c D d B A' c' D' d' B' h h').mono ?_
  rintro e w' ⟨r, rfl, hr, hb⟩
  exact ⟨by rw [hr.2 rfl], hb⟩

set_option maxRecDepth 100000 in
set_option maxHeartbeats 2000000 in
theorem lawParses_any (s : ByteArray) (i : Int) (w : World) (hs : s.size ≤ 9223372036854775807) : Calls Try.prog 6 #[.string s, .int .i64 i] w fun e w' => e = .returned (.bool true) ∧ Below w.heap.size w w' := by
  have HA := Lib.hid awake_any
  by_cases h : 800 < s.size
  · go_enter Try.func6, Try.ntmps6
    go_wp2_with fail
    ((with_reducible refine (HA.out _).mono ?_))
    rintro e w1 ⟨rfl, b1⟩
    go_wp2_with fail
    go_ret
    exact ⟨rfl, b1⟩
  · have HP := Lib.hid fun W => parse_ready W s i (by omega)
    have HQ := Lib.hid fun W => rparse_ready W s i (by omega)
    generalize parseL s i = P at *
    obtain ⟨a, t, en⟩ := P
    have HS := Lib.hid fun W => rsame_true W a
    go_enter Try.func6, Try.ntmps6
    go_wp2_with fail
    ((with_reducible refine (HP.out _).mono ?_))
    rintro e w1 ⟨A, c, D, d, rfl, r1, _, _, b1⟩
    have K1 := Lib.hid r1
    have KB1 := Lib.hid b1
    clear r1 b1
    go_wp2_with fail
    ((with_reducible refine (HQ.out _).mono ?_))
    rintro e w2 ⟨A', c', D', d', rfl, r2, _, _, b2⟩
    have K2 := Lib.hid r2
    have hb12 : Below (w1.heap.size + 1) (w1.alloc (.cells #[.string a.id, .slice A a.cl.length c, .slice D a.pr.length d] 27)) w2 := by
      rw [heap_alloc_size] at b2; exact b2
    have KA1 := Lib.hid ((K1.out.below ((Below.refl _ _).alloc (Nat.le_refl _) (.cells #[.string a.id, .slice A a.cl.length c, .slice D a.pr.length d] 27))).below b2)
    have hz : w1.heap.size < w2.heap.size := by have := hb12.size; simp at this; omega
    have g0 : w2.cell? ⟨w1.heap.size, 0, none⟩ = some (.string a.id) := (hb12.cell (p := ⟨w1.heap.size, 0, none⟩) (by simp)).trans ((Blk.new _ _ _).cell 0)
    have g1 : w2.cell? ⟨w1.heap.size, 1, none⟩ = some (.slice A a.cl.length c) := (hb12.cell (p := ⟨w1.heap.size, 1, none⟩) (by simp)).trans ((Blk.new _ _ _).cell 1)
    have g2 : w2.cell? ⟨w1.heap.size, 2, none⟩ = some (.slice D a.pr.length d) := (hb12.cell (p := ⟨w1.heap.size, 2, none⟩) (by simp)).trans ((Blk.new _ _ _).cell 2)
    have KF := Lib.hid ((KB1.out.alloc KB1.out.size (.cells #[.string a.id, .slice A a.cl.length c, .slice D a.pr.length d] 27)).trans (hb12.mono (by have := KB1.out.size; omega)))
    have t1 : ((t : Int) == (t : Int)) = true := beq_self_eq_true _
    have t2 : ((en : Int) == (en : Int)) = true := beq_self_eq_true _
    clear r2 b2 hb12
    go_wp2_with fail
    refine (HS.out _ A c D d _ A' c' D' d' _ (KA1.out.below ((Below.refl _ _).alloc (Nat.le_refl _) _)) (K2.out.below ((Below.refl _ _).alloc (Nat.le_refl _) _))).mono ?_
    rintro e w3 ⟨rfl, b3⟩
    have KB3 := Lib.hid b3
    clear b3
    go_wp2_with fail
    ((with_reducible refine (HA.out _).mono ?_))
    rintro e w4 ⟨rfl, b4⟩
    go_wp2_with fail
    go_ret
    refine ⟨rfl, ?_⟩
    have h3 : Below w.heap.size w w3 := (KF.out.alloc KF.out.size _).trans (KB3.out.mono (by have := KF.out.size; simp; omega))
    exact h3.trans (b4.mono h3.size)
end Go.Proofs.Ytkcfcdnchlmekaa
