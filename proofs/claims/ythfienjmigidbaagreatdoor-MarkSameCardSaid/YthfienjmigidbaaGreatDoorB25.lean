/-
  Texts of the proof, put together: LinkG.
-/
import Derived.Test.YthfienjmigidbaaGreatDoorB21
set_option linter.unusedVariables false
set_option linter.unusedSimpArgs false
namespace Go.Proofs.YthfienjmigidbaaGreatDoor
open Go.RowKit Go.Pub

theorem l_brack (s : ByteArray) (i : Nat) (w : World) (hs : s.size ≤ 1000000) (hi : i ≤ s.size) :
    Calls Tryz.prog 60 #[.string s, .int .i64 i] w (PartPost (brackR s i) w) := by
  by_cases h : i < s.size ∧ bt s i = 91
  · exact l_brack_yes s i w hs h.1 h.2
  · exact l_brack_no s i w hs h hi

def tlVal : Option Tl → Value
  | none => .tuple #[.string ⟨#[]⟩, .string ⟨#[]⟩, .string ⟨#[]⟩, .int .i64 0, .bool false]
  | some r => .tuple #[.string (mk r.d), .string (mk r.t), .string (mk r.l), .int .i64 r.n, .bool true]
def TailPost (r : Option Tl) (w : World) (e : Ending) (w' : World) : Prop := e = .returned (tlVal r) ∧ Below w.heap.size w w'

set_option maxRecDepth 100000 in
set_option maxHeartbeats 1000000 in
theorem l_tail_out (s : ByteArray) (i : Int) (w : World) (hs : s.size ≤ 1000000) (h : ¬ (0 ≤ i ∧ i < s.size)) :
    Calls Tryz.prog 58 #[.string s, .int .i64 i] w (TailPost (tailR s i) w) := by
  have HR : Hid (tailR s i = none) := Lib.hid (by unfold tailR; rw [if_neg h])
  generalize tailR s i = R at *
  by_cases h0 : i < 0
  all_goals
    go_enter Tryz.func58, Tryz.ntmps58
    go_wp2
    exact bodyPost_ret (v := .tuple #[.string ⟨#[]⟩, .string ⟨#[]⟩, .string ⟨#[]⟩, .int .i64 0, .bool false]) (by simp [results, Tryz.results58, go_sem]) rfl ⟨by rw [HR.out]; rfl, Below.refl _ _⟩

set_option maxRecDepth 100000 in
set_option maxHeartbeats 1000000 in
theorem l_tail_brack (s : ByteArray) (i : Nat) (w : World) (hs : s.size ≤ 1000000) (hi : i < s.size) (h : bt s i ≠ 40) :
    Calls Tryz.prog 58 #[.string s, .int .i64 i] w (TailPost (tailR s i) w) := by
  have HR : Hid (tailR s i = (brackR s i).map fun r => ⟨[], [], r.1, r.2⟩) := Lib.hid (by unfold tailR; rw [if_pos ⟨by omega, by omega⟩, Int.toNat_natCast, if_neg h])
  have HC := Lib.hid fun W => l_brack s i W hs (by omega)
  generalize tailR s i = R at *
  generalize brackR s i = B at *
  have z0 : (((s[i].toNat : Nat) : Int) != 40) = true := by rw [get_bt s i hi]; simp; omega
  have zi : decide ((i : Int) < 0) = false := by simp
  have zj : decide (s.size ≤ i) = false := by simp; omega
  cases B with
  | none =>
    go_enter Tryz.func58, Tryz.ntmps58
    go_wp2_with fail
    ((with_reducible refine (HC.out _).mono ?_))
    rintro e w1 ⟨rfl, b1⟩
    go_wp2
    exact bodyPost_ret (v := .tuple #[.string ⟨#[]⟩, .string ⟨#[]⟩, .string ⟨#[]⟩, .int .i64 0, .bool false]) (by simp [results, Tryz.results58, go_sem]) rfl ⟨by rw [HR.out]; rfl, b1⟩
  | some p =>
    go_enter Tryz.func58, Tryz.ntmps58
    go_wp2_with fail
    ((with_reducible refine (HC.out _).mono ?_))
    rintro e w1 ⟨rfl, b1⟩
    go_wp2
    exact bodyPost_ret (v := .tuple #[.string ⟨#[]⟩, .string ⟨#[]⟩, .string (mk p.1), .int .i64 p.2, .bool true]) (by simp [results, Tryz.results58, go_sem]) rfl ⟨by rw [HR.out]; rfl, b1⟩

set_option maxRecDepth 100000 in
set_option maxHeartbeats 4000000 in
theorem l_tail_par (s : ByteArray) (i : Nat) (w : World) (hs : s.size ≤ 1000000) (hi : i < s.size) (h : bt s i = 40) :
    Calls Tryz.prog 58 #[.string s, .int .i64 i] w (TailPost (tailR s i) w) := by
  have hR : tailR s i = if skipA s (i + 1) < s.size ∧ bt s (skipA s (i + 1)) = 41 then some ⟨[], [], [], skipA s (i + 1) + 1⟩ else
      (destR s (skipA s (i + 1) : Nat)).bind fun r =>
        if skipA s r.2 < s.size then
          if bt s (skipA s r.2) = 41 then some ⟨r.1, [], [], skipA s r.2 + 1⟩
          else if r.2 < skipA s r.2 then (titleR s (skipA s r.2 : Nat)).bind fun q =>
            if skipA s q.2 < s.size ∧ bt s (skipA s q.2) = 41 then some ⟨r.1, q.1, [], skipA s q.2 + 1⟩ else none
          else none
        else none := by
    unfold tailR; rw [if_pos ⟨by omega, by omega⟩, Int.toNat_natCast, if_pos h]
  have HR := Lib.hid hR
  clear hR
  have z0 : (((s[i].toNat : Nat) : Int) != 40) = false := by rw [get_bt s i hi, h]; rfl
  have zi : decide ((i : Int) < 0) = false := by simp
  have zj : decide (s.size ≤ i) = false := by simp; omega
  have HK : Hid (∀ W, Calls Tryz.prog 102 #[.string s, .int .i64 ((i : Int) + 1)] W fun e w' => e = .returned (.int .i64 (skipA s (i + 1))) ∧ W = w') := Lib.hid fun W => l_skip s (i + 1) W hs (by omega)
  generalize tailR s i = R at *
  obtain ⟨ha1, ha2⟩ := skipA_le s _ (i + 1) (Nat.le_refl _) (by omega)
  clear h
  have HD := Lib.hid fun W => l_dest s (skipA s (i + 1) : Nat) W hs
  generalize skipA s (i + 1) = a at *
  by_cases c1 : a < s.size ∧ bt s a = 41
  · obtain ⟨c1, c2⟩ := c1
    have HF : Hid (R = some ⟨[], [], [], a + 1⟩) := Lib.hid (by rw [HR.out, if_pos ⟨c1, c2⟩])
    have z1 : (((s[a].toNat : Nat) : Int) == 41) = true := by rw [get_bt s a c1, c2]; rfl
    clear c2
    go_enter Tryz.func58, Tryz.ntmps58
    go_wp2_with fail
    ((with_reducible refine (HK.out _).mono ?_))
    rintro e w0 ⟨rfl, rfl⟩
    go_wp2
    exact bodyPost_ret (v := .tuple #[.string ⟨#[]⟩, .string ⟨#[]⟩, .string ⟨#[]⟩, .int .i64 ((a : Int) + 1), .bool true]) (by simp [results, Tryz.results58, go_sem]) rfl ⟨by rw [HF.out]; rfl, Below.refl _ _⟩
  · have HR2 : Hid (R = (destR s (a : Nat)).bind fun r =>
        if skipA s r.2 < s.size then
          if bt s (skipA s r.2) = 41 then some ⟨r.1, [], [], skipA s r.2 + 1⟩
          else if r.2 < skipA s r.2 then (titleR s (skipA s r.2 : Nat)).bind fun q =>
            if skipA s q.2 < s.size ∧ bt s (skipA s q.2) = 41 then some ⟨r.1, q.1, [], skipA s q.2 + 1⟩ else none
          else none
        else none) := Lib.hid (by rw [HR.out, if_neg c1])
    clear HR
    have hle : ∀ r, destR s (a : Nat) = some r → a < r.2 ∧ r.2 ≤ s.size := fun r hr => by have := destR_le hr; omega
    have HLE := Lib.hid hle
    clear hle
    have hw : s.size ≤ a ∨ ∃ hlt : a < s.size, (((s[a].toNat : Nat) : Int) == 41) = false := by
      by_cases hlt : a < s.size
      · right; exact ⟨hlt, by rw [get_bt s a hlt, beq_eq_false_iff_ne]; have : bt s a ≠ 41 := fun e => c1 ⟨hlt, e⟩
                              omega⟩
      · left; omega
    clear c1
    generalize destR s (a : Nat) = D at *
    cases D with
    | none =>
      have HF : Hid (R = none) := Lib.hid (by rw [HR2.out]; rfl)
      rcases hw with hw | ⟨hlt, z1⟩
      all_goals
        go_enter Tryz.func58, Tryz.ntmps58
        go_wp2_with fail
        ((with_reducible refine (HK.out _).mono ?_))
        rintro e w0 ⟨rfl, rfl⟩
        go_wp2_with fail
        ((with_reducible refine (HD.out _).mono ?_))
        rintro e w1 ⟨rfl, b1⟩
        go_wp2
        exact bodyPost_ret (v := .tuple #[.string ⟨#[]⟩, .string ⟨#[]⟩, .string ⟨#[]⟩, .int .i64 0, .bool false]) (by simp [results, Tryz.results58, go_sem]) rfl ⟨by rw [HF.out]; rfl, b1⟩
    | some r =>
      obtain ⟨t, p⟩ := r
      obtain ⟨hp1, hp2⟩ := HLE.out _ rfl
      simp only at hp1 hp2
      rcases hw with hw | ⟨hlt, z1⟩
      · omega
      have HR3 : Hid (R = if skipA s p < s.size then
          if bt s (skipA s p) = 41 then some ⟨t, [], [], skipA s p + 1⟩
          else if p < skipA s p then (titleR s (skipA s p : Nat)).bind fun q =>
            if skipA s q.2 < s.size ∧ bt s (skipA s q.2) = 41 then some ⟨t, q.1, [], skipA s q.2 + 1⟩ else none
          else none
        else none) := Lib.hid (by rw [HR2.out]; rfl)
      clear HR2 HLE
      have HK2 := Lib.hid fun W => l_skip s p W hs hp2
      obtain ⟨hn1, hn2⟩ := skipA_le s _ p (Nat.le_refl _) hp2
      generalize skipA s p = n at *
      by_cases c3 : n < s.size
      · by_cases c4 : bt s n = 41
        · have HF : Hid (R = some ⟨t, [], [], n + 1⟩) := Lib.hid (by rw [HR3.out, if_pos c3, if_pos c4])
          have z2 : (((s[n].toNat : Nat) : Int) != 41) = false := by rw [get_bt s n c3, c4]; rfl
          clear c4
          go_enter Tryz.func58, Tryz.ntmps58
          go_wp2_with fail
          ((with_reducible refine (HK.out _).mono ?_))
          rintro e w0 ⟨rfl, rfl⟩
          go_wp2_with fail
          ((with_reducible refine (HD.out _).mono ?_))
          rintro e w1 ⟨rfl, b1⟩
          go_wp2_with fail
          ((with_reducible refine (HK2.out _).mono ?_))
          rintro e w0 ⟨rfl, rfl⟩
          go_wp2
          exact bodyPost_ret (v := .tuple #[.string (mk t), .string ⟨#[]⟩, .string ⟨#[]⟩, .int .i64 ((n : Int) + 1), .bool true]) (by simp [results, Tryz.results58, go_sem]) rfl ⟨by rw [HF.out]; rfl, b1⟩
        · have z2 : (((s[n].toNat : Nat) : Int) != 41) = true := by rw [get_bt s n c3]; simp; omega
          by_cases c5 : p < n
          · have HR4 : Hid (R = (titleR s (n : Nat)).bind fun q => if skipA s q.2 < s.size ∧ bt s (skipA s q.2) = 41 then some ⟨t, q.1, [], skipA s q.2 + 1⟩ else none) := Lib.hid (by rw [HR3.out, if_pos c3, if_neg c4, if_pos c5])
            clear HR3 c4
            have HT := Lib.hid fun W => l_title s (n : Nat) W hs
            have hle : ∀ r, titleR s (n : Nat) = some r → r.2 ≤ s.size := fun r hr => (titleR_le hr).2.1
            have HLE := Lib.hid hle
            clear hle
            generalize titleR s (n : Nat) = T at *
            cases T with
            | none =>
              have HF : Hid (R = none) := Lib.hid (by rw [HR4.out]; rfl)
              go_enter Tryz.func58, Tryz.ntmps58
              go_wp2_with fail
              ((with_reducible refine (HK.out _).mono ?_))
              rintro e w0 ⟨rfl, rfl⟩
              go_wp2_with fail
              ((with_reducible refine (HD.out _).mono ?_))
              rintro e w1 ⟨rfl, b1⟩
              go_wp2_with fail
              ((with_reducible refine (HK2.out _).mono ?_))
              rintro e w0 ⟨rfl, rfl⟩
              go_wp2_with fail
              ((with_reducible refine (HT.out _).mono ?_))
              rintro e w2 ⟨rfl, b2⟩
              go_wp2
              exact bodyPost_ret (v := .tuple #[.string ⟨#[]⟩, .string ⟨#[]⟩, .string ⟨#[]⟩, .int .i64 0, .bool false]) (by simp [results, Tryz.results58, go_sem]) rfl ⟨by rw [HF.out]; rfl, b1.trans (b2.mono b1.size)⟩
            | some q =>
              obtain ⟨u, m0⟩ := q
              have hm0 := HLE.out _ rfl
              simp only at hm0
              have HR5 : Hid (R = if skipA s m0 < s.size ∧ bt s (skipA s m0) = 41 then some ⟨t, u, [], skipA s m0 + 1⟩ else none) := Lib.hid (by rw [HR4.out]; rfl)
              clear HR4 HLE
              have HK3 := Lib.hid fun W => l_skip s m0 W hs hm0
              obtain ⟨hm1, hm2⟩ := skipA_le s _ m0 (Nat.le_refl _) hm0
              generalize skipA s m0 = m at *
              by_cases c6 : m < s.size
              · by_cases c7 : bt s m = 41
                · have HF : Hid (R = some ⟨t, u, [], m + 1⟩) := Lib.hid (by rw [HR5.out, if_pos ⟨c6, c7⟩])
                  have z3 : (((s[m].toNat : Nat) : Int) != 41) = false := by rw [get_bt s m c6, c7]; rfl
                  clear c7
                  go_enter Tryz.func58, Tryz.ntmps58
                  go_wp2_with fail
                  ((with_reducible refine (HK.out _).mono ?_))
                  rintro e w0 ⟨rfl, rfl⟩
                  go_wp2_with fail
                  ((with_reducible refine (HD.out _).mono ?_))
                  rintro e w1 ⟨rfl, b1⟩
                  go_wp2_with fail
                  ((with_reducible refine (HK2.out _).mono ?_))
                  rintro e w0 ⟨rfl, rfl⟩
                  go_wp2_with fail
                  ((with_reducible refine (HT.out _).mono ?_))
                  rintro e w2 ⟨rfl, b2⟩
                  go_wp2_with fail
                  ((with_reducible refine (HK3.out _).mono ?_))
                  rintro e w0 ⟨rfl, rfl⟩
                  go_wp2
                  exact bodyPost_ret (v := .tuple #[.string (mk t), .string (mk u), .string ⟨#[]⟩, .int .i64 ((m : Int) + 1), .bool true]) (by simp [results, Tryz.results58, go_sem]) rfl ⟨by rw [HF.out]; rfl, b1.trans (b2.mono b1.size)⟩
                · have HF : Hid (R = none) := Lib.hid (by rw [HR5.out, if_neg (fun e => c7 e.2)])
                  have z3 : (((s[m].toNat : Nat) : Int) != 41) = true := by rw [get_bt s m c6]; simp; omega
                  clear c7
                  go_enter Tryz.func58, Tryz.ntmps58
                  go_wp2_with fail
                  ((with_reducible refine (HK.out _).mono ?_))
                  rintro e w0 ⟨rfl, rfl⟩
                  go_wp2_with fail
                  ((with_reducible refine (HD.out _).mono ?_))
                  rintro e w1 ⟨rfl, b1⟩
                  go_wp2_with fail
                  ((with_reducible refine (HK2.out _).mono ?_))
                  rintro e w0 ⟨rfl, rfl⟩
                  go_wp2_with fail
                  ((with_reducible refine (HT.out _).mono ?_))
                  rintro e w2 ⟨rfl, b2⟩
                  go_wp2_with fail
                  ((with_reducible refine (HK3.out _).mono ?_))
                  rintro e w0 ⟨rfl, rfl⟩
                  go_wp2
                  exact bodyPost_ret (v := .tuple #[.string ⟨#[]⟩, .string ⟨#[]⟩, .string ⟨#[]⟩, .int .i64 0, .bool false]) (by simp [results, Tryz.results58, go_sem]) rfl ⟨by rw [HF.out]; rfl, b1.trans (b2.mono b1.size)⟩
              · have HF : Hid (R = none) := Lib.hid (by rw [HR5.out, if_neg (fun e => c6 e.1)])
                go_enter Tryz.func58, Tryz.ntmps58
                go_wp2_with fail
                ((with_reducible refine (HK.out _).mono ?_))
                rintro e w0 ⟨rfl, rfl⟩
                go_wp2_with fail
                ((with_reducible refine (HD.out _).mono ?_))
                rintro e w1 ⟨rfl, b1⟩
                go_wp2_with fail
                ((with_reducible refine (HK2.out _).mono ?_))
                rintro e w0 ⟨rfl, rfl⟩
                go_wp2_with fail
                ((with_reducible refine (HT.out _).mono ?_))
                rintro e w2 ⟨rfl, b2⟩
                go_wp2_with fail
                ((with_reducible refine (HK3.out _).mono ?_))
                rintro e w0 ⟨rfl, rfl⟩
                go_wp2
                exact bodyPost_ret (v := .tuple #[.string ⟨#[]⟩, .string ⟨#[]⟩, .string ⟨#[]⟩, .int .i64 0, .bool false]) (by simp [results, Tryz.results58, go_sem]) rfl ⟨by rw [HF.out]; rfl, b1.trans (b2.mono b1.size)⟩
          · have HF : Hid (R = none) := Lib.hid (by rw [HR3.out, if_pos c3, if_neg c4, if_neg c5])
            clear c4
            go_enter Tryz.func58, Tryz.ntmps58
            go_wp2_with fail
            ((with_reducible refine (HK.out _).mono ?_))
            rintro e w0 ⟨rfl, rfl⟩
            go_wp2_with fail
            ((with_reducible refine (HD.out _).mono ?_))
            rintro e w1 ⟨rfl, b1⟩
            go_wp2_with fail
            ((with_reducible refine (HK2.out _).mono ?_))
            rintro e w0 ⟨rfl, rfl⟩
            go_wp2
            exact bodyPost_ret (v := .tuple #[.string ⟨#[]⟩, .string ⟨#[]⟩, .string ⟨#[]⟩, .int .i64 0, .bool false]) (by simp [results, Tryz.results58, go_sem]) rfl ⟨by rw [HF.out]; rfl, b1⟩
      · have HF : Hid (R = none) := Lib.hid (by rw [HR3.out, if_neg c3])
        go_enter Tryz.func58, Tryz.ntmps58
        go_wp2_with fail
        ((with_reducible refine (HK.out _).mono ?_))
        rintro e w0 ⟨rfl, rfl⟩
        go_wp2_with fail
        ((with_reducible refine (HD.out _).mono ?_))
        rintro e w1 ⟨rfl, b1⟩
        go_wp2_with fail
        ((with_reducible refine (HK2.out _).mono ?_))
        rintro e w0 ⟨rfl, rfl⟩
        go_wp2
        exact bodyPost_ret (v := .tuple #[.string ⟨#[]⟩, .string ⟨#[]⟩, .string ⟨#[]⟩, .int .i64 0, .bool false]) (by simp [results, Tryz.results58, go_sem]) rfl ⟨by rw [HF.out]; rfl, b1⟩

theorem l_tail (s : ByteArray) (i : Int) (w : World) (hs : s.size ≤ 1000000) :
    Calls Tryz.prog 58 #[.string s, .int .i64 i] w (TailPost (tailR s i) w) := by
  by_cases h : 0 ≤ i ∧ i < s.size
  · obtain ⟨k, rfl⟩ := Int.eq_ofNat_of_zero_le h.1
    by_cases hc : bt s k = 40
    · exact l_tail_par s k w hs (by have := h.2; omega) hc
    · exact l_tail_brack s k w hs (by have := h.2; omega) hc
  · exact l_tail_out s i w hs h
end Go.Proofs.YthfienjmigidbaaGreatDoor
