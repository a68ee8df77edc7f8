/-
  Texts of the proof, put together (what this law reaches): EmNB.
-/
import Derived.Test.YtfnloonmeilhlaaGreatDoorT19
set_option linter.unusedVariables false
set_option linter.unusedSimpArgs false
namespace Go.Pub
open Go.RowKit
theorem mdA_at : ∀ {l : List InT}, mdA l → ∀ (i : Nat) (h : i < l.length), mdI l[i]
  | x :: l, h, 0, _ => by rw [mdA] at h; exact h.1
  | x :: l, h, i + 1, hi => by rw [mdA] at h; exact mdA_at h.2 i (by simpa using hi)
theorem NoN_at : ∀ {l : List InT}, NoN l → ∀ (i : Nat) (h : i + 1 < l.length), l[i].kind = 1 → l[i + 1].kind ≠ 1
  | x :: y :: l, h, 0, _, hk => h.1 hk y l rfl
  | x :: l, h, i + 1, hi, hk => NoN_at h.2 i (by simpa using hi) hk
theorem mdI_parts {x : InT} (h : mdI x) : ((x.kind = 6 ∨ x.kind = 7 ∨ x.kind = 8) → x.kids.length ≠ 0) ∧ NoN x.kids ∧ mdA x.kids := by
  obtain ⟨k, t, d, ti, a, ar, c, ks⟩ := x
  rw [mdI] at h
  exact ⟨fun hk e => h.1 hk (List.length_eq_zero_iff.1 e), h.2⟩
end Go.Pub
namespace Go.Proofs.YtfnloonmeilhlaaGreatDoor
open Go.RowKit Go.Pub
def MdH (N : Nat) : Prop := ∀ l : List InT, sizeL l ≤ N → NoN l → mdA l → ∀ (S : Nat → Prop) (w : World) (A : Option Addr) (c : Nat) (vs : List (Array Value)), RepIs w S vs l → ReadsS w S 10 A l.length (vs.flatMap Array.toList) →
  Calls Tryz.prog 6 #[.slice A l.length c] w fun e w' => e = .returned (.bool true) ∧ w' = w
set_option maxHeartbeats 8000000 in
set_option maxRecDepth 100000 in
theorem t_made (N : Nat) (hN : N ≤ 1000000) (hM : ∀ x : InT, sizeI x ≤ N → MdH (sizeL x.kids)) : MdH N := by
  intro l hl hno hmd S w A c vs h1 h2
  have hlen := sizeL_len l
  have HLK := Lib.hid fun i (hi : i < l.length) => RepIs.look h1 h2 i hi
  have HPT := Lib.hid fun i (hi : i < l.length) => mdI_parts (mdA_at hmd i hi)
  have HNN := Lib.hid fun i (hi : i + 1 < l.length) => NoN_at hno i hi
  have HKI : Hid (∀ i (hi : i < l.length) (A5 : Option Addr) (c5 : Nat) (vs5 : List (Array Value)), RepIs w S vs5 l[i].kids → ReadsS w S 10 A5 l[i].kids.length (vs5.flatMap Array.toList) → Calls Tryz.prog 6 #[.slice A5 l[i].kids.length c5] w fun e w' => e = .returned (.bool true) ∧ w' = w) := Lib.hid fun i hi A5 c5 vs5 r5 m5 => by
    have hs : sizeI l[i] ≤ N := Nat.le_trans (sizeL_mem l i hi) hl
    obtain ⟨-, p2, p3⟩ := HPT.out i hi
    exact hM _ hs _ (Nat.le_refl _) p2 p3 S w A5 c5 vs5 r5 m5
  have hll : l.length ≤ 1000000 := by omega
  clear h1 h2 hM hl hno hmd hlen
  go_enter Tryz.func6, Tryz.ntmps6
  go_wp2_with fail
  go_loopw [3] (fun v3 wr => wr = w ∧ ∃ i : Nat, i ≤ l.length ∧ v3 = .int .i64 i) (fun v3 _ => l.length - (intOf v3).toNat)
  case atStart => exact ⟨rfl, 0, Nat.zero_le _, rfl⟩
  case round =>
    obtain ⟨rfl, i, hi, rfl⟩ := hrel
    by_cases hlt : i < l.length
    · obtain ⟨b, off, rfl, hbS, c0, c1, A5, c5, vs5, c9, r5, m5⟩ := HLK.out i hlt
      have HK := Lib.hid (HKI.out i hlt A5 c5 vs5 r5 m5)
      obtain ⟨p1, -, -⟩ := HPT.out i hlt
      have hii : (i : Int) < (l.length : Int) := by omega
      have hi00 : (0 : Int) ≤ (i : Int) := by omega
      have HPV : Hid (∀ i', i = i' + 1 → ∃ kp : Int, wr.cell? ⟨b, off + i' * 10, none⟩ = some (.int .i64 kp) ∧ (kp = 1 → l[i].kind ≠ 1)) := Lib.hid fun i' e => by
        subst e
        obtain ⟨b', off', e', -, d0, -⟩ := HLK.out i' (by omega)
        injection e' with e'
        injection e' with e1 e2
        subst e1 e2
        exact ⟨_, d0, HNN.out i' hlt⟩
      clear r5 m5 c1
      generalize l[i].kids.length = kl at *
      generalize l[i].kind = k at *
      have hw : ((i : Int) == 0) = decide (i = 0) := by by_cases h : i = 0 <;> simp [h]
      clear hw
      have HP1 := Lib.hid p1
      clear p1
      by_cases hi0 : i = 0
      · have di : decide ((i : Int) > 0) = false := decide_eq_false (by omega)
        subst hi0
        rw [Nat.zero_mul, Nat.add_zero] at c0 c9
        clear HPV di
        by_cases h6 : k = 6
        · subst h6
          have dk : ((kl : Int) == 0) = false := beq_eq_false_iff_ne.2 (by have := HP1.out (.inl rfl); omega)
          clear HP1
          go_wp2_with fail
          ((with_reducible refine HK.out.mono ?_))
          rintro e w' ⟨rfl, rfl⟩
          go_wp2_with fail
          go_roundw
          case rel => exact ⟨trivial, 1, by omega, by go_num⟩
          case measure => simp [intOf]; omega
        · have z6 : (k == 6) = false := beq_eq_false_iff_ne.2 h6
          by_cases h7 : k = 7
          · subst h7
            have dk : ((kl : Int) == 0) = false := beq_eq_false_iff_ne.2 (by have := HP1.out (.inr (.inl rfl)); omega)
            clear HP1
            go_wp2_with fail
            ((with_reducible refine HK.out.mono ?_))
            rintro e w' ⟨rfl, rfl⟩
            go_wp2_with fail
            go_roundw
            case rel => exact ⟨trivial, 1, by omega, by go_num⟩
            case measure => simp [intOf]; omega
          · have z7 : (k == 7) = false := beq_eq_false_iff_ne.2 h7
            by_cases h8 : k = 8
            · subst h8
              have dk : ((kl : Int) == 0) = false := beq_eq_false_iff_ne.2 (by have := HP1.out (.inr (.inr rfl)); omega)
              clear HP1
              go_wp2_with fail
              ((with_reducible refine HK.out.mono ?_))
              rintro e w' ⟨rfl, rfl⟩
              go_wp2_with fail
              go_roundw
              case rel => exact ⟨trivial, 1, by omega, by go_num⟩
              case measure => simp [intOf]; omega
            · have z8 : (k == 8) = false := beq_eq_false_iff_ne.2 h8
              clear HP1 h6 h7 h8
              go_wp2_with fail
              ((with_reducible refine HK.out.mono ?_))
              rintro e w' ⟨rfl, rfl⟩
              go_wp2_with fail
              go_roundw
              case rel => exact ⟨trivial, 1, by omega, by go_num⟩
              case measure => simp [intOf]; omega
      · obtain ⟨i', hii'⟩ : ∃ i', i = i' + 1 := ⟨i - 1, by omega⟩
        obtain ⟨kp, d0, hkp⟩ := HPV.out i' hii'
        have hw1 : IntKind.i64.wrap ((i : Int) - 1) = (i' : Int) := by rw [show (i : Int) - 1 = (i' : Int) by omega]; exact IntWalk.i64_in _ (by omega)
        have hi2 : (i' : Int) < (l.length : Int) := by omega
        have hi3 : (0 : Int) ≤ (i' : Int) := by omega
        have di : decide ((i : Int) > 0) = true := decide_eq_true (by omega)
        have dj : decide (0 < i) = true := decide_eq_true (by omega)
        have dk0 : 0 < i := by omega
        clear HPV hi0 hii'
        by_cases h6 : k = 6
        · subst h6
          have dk : ((kl : Int) == 0) = false := beq_eq_false_iff_ne.2 (by have := HP1.out (.inl rfl); omega)
          clear HP1
          go_wp2_with fail
          ((with_reducible refine HK.out.mono ?_))
          rintro e w' ⟨rfl, rfl⟩
          go_wp2_with fail
          go_roundw
          case rel => exact ⟨trivial, i + 1, by omega, by go_num⟩
          case measure => simp [intOf]; omega
        · have z6 : (k == 6) = false := beq_eq_false_iff_ne.2 h6
          by_cases h7 : k = 7
          · subst h7
            have dk : ((kl : Int) == 0) = false := beq_eq_false_iff_ne.2 (by have := HP1.out (.inr (.inl rfl)); omega)
            clear HP1
            go_wp2_with fail
            ((with_reducible refine HK.out.mono ?_))
            rintro e w' ⟨rfl, rfl⟩
            go_wp2_with fail
            go_roundw
            case rel => exact ⟨trivial, i + 1, by omega, by go_num⟩
            case measure => simp [intOf]; omega
          · have z7 : (k == 7) = false := beq_eq_false_iff_ne.2 h7
            by_cases h8 : k = 8
            · subst h8
              have dk : ((kl : Int) == 0) = false := beq_eq_false_iff_ne.2 (by have := HP1.out (.inr (.inr rfl)); omega)
              clear HP1
              go_wp2_with fail
              ((with_reducible refine HK.out.mono ?_))
              rintro e w' ⟨rfl, rfl⟩
              go_wp2_with fail
              go_roundw
              case rel => exact ⟨trivial, i + 1, by omega, by go_num⟩
              case measure => simp [intOf]; omega
            · have z8 : (k == 8) = false := beq_eq_false_iff_ne.2 h8
              by_cases h1 : k = 1
              · subst h1
                have zp : (kp == 1) = false := beq_eq_false_iff_ne.2 (fun e => hkp e rfl)
                clear HP1 hkp h6 h7 h8
                go_wp2_with fail
                ((with_reducible refine HK.out.mono ?_))
                rintro e w' ⟨rfl, rfl⟩
                go_wp2_with fail
                go_roundw
                case rel => exact ⟨trivial, i + 1, by omega, by go_num⟩
                case measure => simp [intOf]; omega
              · have z1 : (k == 1) = false := beq_eq_false_iff_ne.2 h1
                clear HP1 hkp h1 h6 h7 h8
                go_wp2_with fail
                ((with_reducible refine HK.out.mono ?_))
                rintro e w' ⟨rfl, rfl⟩
                go_wp2_with fail
                go_roundw
                case rel => exact ⟨trivial, i + 1, by omega, by go_num⟩
                case measure => simp [intOf]; omega
    · obtain rfl : i = l.length := by omega
      go_wp2_with fail
      go_ret
      exact ⟨rfl, rfl⟩

end Go.Proofs.YtfnloonmeilhlaaGreatDoor
