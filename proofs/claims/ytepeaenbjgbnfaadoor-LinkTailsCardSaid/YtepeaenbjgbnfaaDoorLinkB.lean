/-
  link.angled, link.quoted, link.Dest, link.Title.
-/
import Derived.Test.YtepeaenbjgbnfaaDoorLinkA
set_option linter.unusedVariables false
set_option linter.unusedSimpArgs false
namespace Go.Pub
theorem bytesL_sub (s : ByteArray) (i k : Nat) : bytesL (s.extract i k) = sub s i k := by
  unfold sub bytesL
  rw [ByteArray.data_extract, Array.toList_extract, List.extract_eq_take_drop]
end Go.Pub
namespace Go.Proofs.YtepeaenbjgbnfaaDoor
open Go.RowKit Go.Pub

/-- What the readers of parts return. -/
def PartPost (r : Option (List UInt8 × Nat)) (w : World) (e : Ending) (w' : World) : Prop :=
  (match r with | none => e = .returned (.tuple #[.string ⟨#[]⟩, .int .i64 0, .bool false]) | some p => e = .returned (.tuple #[.string (mk p.1), .int .i64 p.2, .bool true])) ∧ Below w.heap.size w w'
theorem part_none {r : Option (List UInt8 × Nat)} {w w' : World} (h : r = none) (hb : Below w.heap.size w w') : PartPost r w (.returned (.tuple #[.string ⟨#[]⟩, .int .i64 0, .bool false])) w' := by
  subst h; exact ⟨rfl, hb⟩
theorem part_some {r : Option (List UInt8 × Nat)} {t : List UInt8} {m : Nat} {n : Int} {w w' : World} (h : r = some (t, m)) (hn : n = m) (hb : Below w.heap.size w w') : PartPost r w (.returned (.tuple #[.string (mk t), .int .i64 n, .bool true])) w' := by
  subst h hn; exact ⟨rfl, hb⟩

theorem l_unescape_sub (s : ByteArray) (i k : Nat) (w : World) (hs : s.size ≤ 1000000) : Calls Tryd.prog 21 #[.string (s.extract i k)] w fun e w' => e = .returned (.string (mk (unescL (sub s i k)))) ∧ Below w.heap.size w w' := by
  have h := l_unescape (s.extract i k) w (by have : (s.extract i k).size ≤ s.size := by rw [ByteArray.size_extract]; omega
                                             omega)
  rw [bytesL_sub] at h
  exact h

set_option maxRecDepth 100000 in
set_option maxHeartbeats 4000000 in
theorem l_angled (s : ByteArray) (i : Nat) (w : World) (hs : s.size ≤ 1000000) (hi : i < s.size) :
    Calls Tryd.prog 19 #[.string s, .int .i64 i] w (PartPost (betw s i 62 60) w) := by
  have HS : Hid (∀ k, scanA s 62 60 (i + 1) = some k → betw s i 62 60 = some (unescL (sub s (i + 1) k), k + 1)) := Lib.hid fun k h => by unfold betw; rw [h]; rfl
  have HN : Hid (scanA s 62 60 (i + 1) = none → betw s i 62 60 = none) := Lib.hid fun h => by unfold betw; rw [h]; rfl
  generalize betw s i 62 60 = R at *
  go_enter Tryd.func19, Tryd.ntmps19
  go_wp2
  go_loop [7] (fun v => ∃ k : Nat, i + 1 ≤ k ∧ k ≤ s.size ∧ v = .int .i64 k ∧ Hid (scanA s 62 60 k = scanA s 62 60 (i + 1))) (fun v => s.size - (intOf v).toNat)
  case atStart => exact ⟨i + 1, by omega, by omega, by go_num, Lib.hid rfl⟩
  case round =>
    obtain ⟨k, hk1, hk, rfl, Hk⟩ := hrel
    by_cases hlt : k < s.size
    · have HC := Lib.hid fun W => l_escaped s k W hs hlt
      have hlt2 : ((s[k].toNat : Nat) : Int) < 256 := by rw [get_bt s k hlt]; have := bt_lt s k; omega
      by_cases hE : escAt s k = true
      · have hk2 : k + 1 < s.size := (escAt_lt hE).1
        have hst : Hid (scanA s 62 60 (k + 2) = scanA s 62 60 (i + 1)) := Lib.hid (by rw [← Hk.out]; exact (scanA_esc s 62 60 k (by decide) (by decide) (by decide) (by decide) hE).symm)
        rw [hE] at HC
        clear hE
        go_wp2_with fail
        ((with_reducible refine (HC.out _).mono ?_))
        rintro e w' ⟨rfl, rfl⟩
        go_wp2
        go_round
        case rel => exact ⟨k + 2, by omega, by omega, by go_num, hst⟩
        case measure => simp [intOf]; omega
      · rw [Bool.not_eq_true] at hE
        have HE := Lib.hid hE
        rw [hE] at HC
        clear hE
        by_cases c1 : bt s k = 62
        · have z1 : (((s[k].toNat : Nat) : Int) == 62) = true := by rw [get_bt s k hlt, c1]; rfl
          have HR : Hid (R = some (unescL (sub s (i + 1) k), k + 1)) := Lib.hid (HS.out k (by rw [← Hk.out]; exact scanA_stop s 62 60 k hlt (by decide) c1))
          have HU := Lib.hid fun W => l_unescape_sub s (i + 1) k W hs
          clear c1
          go_wp2_with fail
          ((with_reducible refine (HC.out _).mono ?_))
          rintro e w' ⟨rfl, rfl⟩
          go_wp2_with fail
          ((with_reducible refine (HU.out _).mono ?_))
          rintro e w' ⟨rfl, b1⟩
          go_wp2
          go_ret3
          exact part_some HR.out (by omega) b1
        · have z1 : (((s[k].toNat : Nat) : Int) == 62) = false := by rw [get_bt s k hlt, beq_eq_false_iff_ne]; omega
          by_cases c2 : bt s k = 60 ∨ bt s k = 10
          · have HR : Hid (R = none) := Lib.hid (HN.out (by rw [← Hk.out]; exact scanA_bad s 62 60 k hlt (by decide) (by decide) c1 c2))
            have cc : (((s[k].toNat : Nat) : Int) == 60) = true ∨ ((((s[k].toNat : Nat) : Int) == 60) = false ∧ (((s[k].toNat : Nat) : Int) == 10) = true) := by
              rw [get_bt s k hlt]
              rcases c2 with c | c
              · left; rw [c]; rfl
              · right; rw [c]; exact ⟨rfl, rfl⟩
            clear c1 c2
            rcases cc with z2 | ⟨z2, z3⟩
            all_goals
              go_wp2_with fail
              ((with_reducible refine (HC.out _).mono ?_))
              rintro e w' ⟨rfl, rfl⟩
              go_wp2
              go_ret3
              exact part_none HR.out (Below.refl _ _)
          · have z2 : (((s[k].toNat : Nat) : Int) == 60) = false := by rw [get_bt s k hlt, beq_eq_false_iff_ne]; omega
            have z3 : (((s[k].toNat : Nat) : Int) == 10) = false := by rw [get_bt s k hlt, beq_eq_false_iff_ne]; omega
            have hst : Hid (scanA s 62 60 (k + 1) = scanA s 62 60 (i + 1)) := Lib.hid (by rw [← Hk.out]; exact (scanA_step s 62 60 k hlt (by decide) (by decide) c1 (by omega) (by omega) HE.out).symm)
            clear c1 c2
            go_wp2_with fail
            ((with_reducible refine (HC.out _).mono ?_))
            rintro e w' ⟨rfl, rfl⟩
            go_wp2
            go_round
            case rel => exact ⟨k + 1, by omega, by omega, by go_num, hst⟩
            case measure => simp [intOf]; omega
    · have HR : Hid (R = none) := Lib.hid (HN.out (by rw [← Hk.out]; exact scanA_end s 62 60 k (by omega)))
      go_wp2
      go_ret3
      exact part_none HR.out (Below.refl _ _)

set_option maxRecDepth 100000 in
set_option maxHeartbeats 4000000 in
theorem l_quoted (s : ByteArray) (i q : Nat) (w : World) (hs : s.size ≤ 1000000) (hi : i < s.size) (hq : q = 34 ∨ q = 39) :
    Calls Tryd.prog 22 #[.string s, .int .i64 i, .int .u8 q] w (PartPost (betw s i q q) w) := by
  have HS : Hid (∀ k, scanA s q q (i + 1) = some k → betw s i q q = some (unescL (sub s (i + 1) k), k + 1)) := Lib.hid fun k h => by unfold betw; rw [h]; rfl
  have HN : Hid (scanA s q q (i + 1) = none → betw s i q q = none) := Lib.hid fun h => by unfold betw; rw [h]; rfl
  generalize betw s i q q = R at *
  have hq1 : q < 256 ∧ q ≠ 92 ∧ q ≠ 10 := by omega
  clear hq
  go_enter Tryd.func22, Tryd.ntmps22
  go_wp2
  go_loop [9] (fun v => ∃ k : Nat, i + 1 ≤ k ∧ k ≤ s.size ∧ v = .int .i64 k ∧ Hid (scanA s q q k = scanA s q q (i + 1))) (fun v => s.size - (intOf v).toNat)
  case atStart => exact ⟨i + 1, by omega, by omega, by go_num, Lib.hid rfl⟩
  case round =>
    obtain ⟨k, hk1, hk, rfl, Hk⟩ := hrel
    by_cases hlt : k < s.size
    · have HC := Lib.hid fun W => l_escaped s k W hs hlt
      have hlt2 : ((s[k].toNat : Nat) : Int) < 256 := by rw [get_bt s k hlt]; have := bt_lt s k; omega
      by_cases hE : escAt s k = true
      · have hk2 : k + 1 < s.size := (escAt_lt hE).1
        have hst : Hid (scanA s q q (k + 2) = scanA s q q (i + 1)) := Lib.hid (by rw [← Hk.out]; exact (scanA_esc s q q k hq1.1 hq1.1 hq1.2.1 hq1.2.1 hE).symm)
        rw [hE] at HC
        clear hE
        go_wp2_with fail
        ((with_reducible refine (HC.out _).mono ?_))
        rintro e w' ⟨rfl, rfl⟩
        go_wp2
        go_round
        case rel => exact ⟨k + 2, by omega, by omega, by go_num, hst⟩
        case measure => simp [intOf]; omega
      · rw [Bool.not_eq_true] at hE
        have HE := Lib.hid hE
        rw [hE] at HC
        clear hE
        by_cases c1 : bt s k = q
        · have z1 : (((s[k].toNat : Nat) : Int) == (q : Int)) = true := by rw [get_bt s k hlt, c1]; simp
          have z1' : (s[k].toNat == q) = true := by rw [get_bt s k hlt, c1]; simp
          have HR : Hid (R = some (unescL (sub s (i + 1) k), k + 1)) := Lib.hid (HS.out k (by rw [← Hk.out]; exact scanA_stop s q q k hlt hq1.1 c1))
          have HU := Lib.hid fun W => l_unescape_sub s (i + 1) k W hs
          clear c1
          go_wp2_with fail
          ((with_reducible refine (HC.out _).mono ?_))
          rintro e w' ⟨rfl, rfl⟩
          go_wp2_with fail
          ((with_reducible refine (HU.out _).mono ?_))
          rintro e w' ⟨rfl, b1⟩
          go_wp2
          go_ret3
          exact part_some HR.out (by omega) b1
        · have z1 : (((s[k].toNat : Nat) : Int) == (q : Int)) = false := by rw [get_bt s k hlt, beq_eq_false_iff_ne]; omega
          have z1' : (s[k].toNat == q) = false := by rw [get_bt s k hlt, beq_eq_false_iff_ne]; omega
          by_cases c2 : bt s k = 10
          · have HR : Hid (R = none) := Lib.hid (HN.out (by rw [← Hk.out]; exact scanA_bad s q q k hlt hq1.1 hq1.1 c1 (Or.inr c2)))
            have z2 : (((s[k].toNat : Nat) : Int) == 10) = true := by rw [get_bt s k hlt, c2]; rfl
            clear c1 c2
            go_wp2_with fail
            ((with_reducible refine (HC.out _).mono ?_))
            rintro e w' ⟨rfl, rfl⟩
            go_wp2
            go_ret3
            exact part_none HR.out (Below.refl _ _)
          · have z3 : (((s[k].toNat : Nat) : Int) == 10) = false := by rw [get_bt s k hlt, beq_eq_false_iff_ne]; omega
            have hst : Hid (scanA s q q (k + 1) = scanA s q q (i + 1)) := Lib.hid (by rw [← Hk.out]; exact (scanA_step s q q k hlt hq1.1 hq1.1 c1 c1 c2 HE.out).symm)
            clear c1 c2
            go_wp2_with fail
            ((with_reducible refine (HC.out _).mono ?_))
            rintro e w' ⟨rfl, rfl⟩
            go_wp2
            go_round
            case rel => exact ⟨k + 1, by omega, by omega, by go_num, hst⟩
            case measure => simp [intOf]; omega
    · have HR : Hid (R = none) := Lib.hid (HN.out (by rw [← Hk.out]; exact scanA_end s q q k (by omega)))
      go_wp2
      go_ret3
      exact part_none HR.out (Below.refl _ _)
end Go.Proofs.YtepeaenbjgbnfaaDoor
