/-
  Texts of the proof, put together (what this law reaches): Next, CharsA, CharsB, RefC.
-/
import Derived.Test.YtpoafhgbhnblmaaGreatDoorRows
import Derived.Test.YtpoafhgbhnblmaaGreatDoorX01
import Derived.WalkKit
import Derived.WalkSpells
import Derived.WalkLawsBesides
import Derived.Deep.QuietTactic
import Derived.BigQuiet
import Derived.Lib.Hide
import Derived.Test.YtpoafhgbhnblmaaGreatDoorX04
import Derived.Test.YtpoafhgbhnblmaaGreatDoorX02
import Derived.Lib.RuneBytes
import Derived.Laws.BytesArg
import Derived.Lib.UnsafeStr
set_option linter.unusedVariables false
set_option linter.unusedSimpArgs false
namespace Go.Proofs.YtpoafhgbhnblmaaGreatDoor
open Go.RowKit Go.Pub
theorem i64_and_mask (a k : Nat) (ha : a < 256) (hk : k ≤ 7) : bits .and .i64 (a : Int) ((2 ^ k - 1 : Nat) : Int) = ((a % 2 ^ k : Nat) : Int) := by
  have hk' : (2 : Nat) ^ k ≤ 2 ^ 7 := Nat.pow_le_pow_right (by decide) hk
  have h := show bits .and .i64 (a : Int) ((2 ^ k - 1 : Nat) : Int) = ((a &&& (2 ^ k - 1) : Nat) : Int) by
    have o : ∀ x : Nat, x < 256 → (BitVec.ofInt 64 (x : Int)).toNat = x := fun x hx => by
      rw [BitVec.ofInt_natCast, BitVec.toNat_ofNat]; exact Nat.mod_eq_of_lt (by omega)
    show IntKind.i64.wrap ((BitVec.ofInt 64 (a : Int) &&& BitVec.ofInt 64 ((2 ^ k - 1 : Nat) : Int)).toNat : Int) = _
    have hx : a &&& (2 ^ k - 1) ≤ a := Nat.and_le_left
    rw [BitVec.toNat_and, o a ha, o _ (by omega), IntKind.wrap_i64]
    omega
  rw [h, Nat.and_two_pow_sub_one_eq_mod]
theorem byte_mod (b : Nat) : ((b : Int) % 64) = ((b % 64 : Nat) : Int) := by omega
theorem i64_or_low (a b : Nat) (ha : a < 8388608) (hb : b < 64) : bits .or .i64 ((a : Int) * 64) (b : Int) = ((a * 64 + b : Nat) : Int) := by
  have o : ∀ x : Nat, x < 9223372036854775808 → (BitVec.ofInt 64 (x : Int)).toNat = x := fun x hx => by
    rw [BitVec.ofInt_natCast, BitVec.toNat_ofNat]; exact Nat.mod_eq_of_lt (by omega)
  have e : ((a : Int) * 64) = ((a * 64 : Nat) : Int) := by omega
  rw [e]
  show IntKind.i64.wrap ((BitVec.ofInt 64 ((a * 64 : Nat) : Int) ||| BitVec.ofInt 64 (b : Int)).toNat : Int) = _
  have hor : a * 64 ||| b = a * 64 + b := by
    have := Nat.two_pow_add_eq_or_of_lt (i := 6) (b := b) (by simpa using hb) a
    rw [show (2 : Nat) ^ 6 = 64 from rfl, Nat.mul_comm 64 a] at this
    exact this.symm
  rw [BitVec.toNat_or, o _ (by omega), o b (by omega), hor, IntKind.wrap_i64]
  omega
set_option maxRecDepth 100000 in
set_option maxHeartbeats 1000000 in
theorem width_any (b : Nat) (hb : b < 256) (w : World) :
    Calls Tryz.prog 196 #[.int .u8 b] w fun e w' => e = .returned (.int .i64 (wd b)) ∧ w = w' := by
  have hb' : (b : Int) < 256 := by omega
  have HW : Hid (wd b = if b < 128 then 1 else if 194 ≤ b ∧ b ≤ 223 then 2 else if 224 ≤ b ∧ b ≤ 239 then 3 else if 240 ≤ b ∧ b ≤ 244 then 4 else 0) := Lib.hid rfl
  generalize wd b = z at *
  clear hb
  go_enter Tryz.func196, Tryz.ntmps196
  go_wp2
  all_goals
    go_ret
    have hz := HW.out
    (repeat' split at hz) <;> first | omega | (subst hz; exact ⟨rfl, rfl⟩)

set_option maxRecDepth 100000 in
set_option maxHeartbeats 1000000 in
theorem second_any (b : Nat) (hb : b < 256) (w : World) :
    Calls Tryz.prog 197 #[.int .u8 b] w fun e w' => e = .returned (.tuple #[.int .u8 (lo b), .int .u8 (hiB b)]) ∧ w = w' := by
  have HW : Hid (lo b = if b = 224 then 160 else if b = 240 then 144 else 128) := Lib.hid rfl
  have HV : Hid (hiB b = if b = 237 then 159 else if b = 244 then 143 else 191) := Lib.hid rfl
  generalize lo b = y at *
  generalize hiB b = z at *
  go_enter Tryz.func197, Tryz.ntmps197
  go_wp2
  all_goals
    go_ret2
    have hz := HW.out
    have hy := HV.out
    refine ⟨?_, rfl⟩
    simp only [beq_iff_eq, beq_eq_false_iff_ne, ne_eq] at *
    (repeat' split at hz) <;> first | omega | ((repeat' split at hy) <;> first | omega | (subst hz hy; rfl))

def PairQuiet (c n : Int) (w : World) (e : Ending) (w' : World) : Prop := e = .returned (.tuple #[.int .i64 c, .int .i64 n]) ∧ ∃ k, w' = w.drewN k
set_option maxRecDepth 100000 in
set_option maxHeartbeats 1000000 in
theorem next_out (s : ByteArray) (i : Int) (w : World) (hs : s.size ≤ 9223372036854775807) (h : ¬ (0 ≤ i ∧ i < s.size)) :
    Calls Tryz.prog 144 #[.string s, .int .i64 i] w (PairQuiet (-1) 0 w) := by
  by_cases h0 : i < 0
  all_goals
    go_enter Tryz.func144, Tryz.ntmps144
    go_wp2
    go_ret2
    exact ⟨rfl, 0, rfl⟩

set_option maxRecDepth 100000 in
set_option maxHeartbeats 1000000 in
theorem next_bad (s : ByteArray) (i : Nat) (w : World) (hs : s.size ≤ 9223372036854775807) (hi : i < s.size) (h : wd (bt s i) = 0 ∨ s.size - i < wd (bt s i)) :
    Calls Tryz.prog 144 #[.string s, .int .i64 i] w (PairQuiet 65533 1 w) := by
  have hb := bt_lt s i
  have hbt := Lib.hid (get_bt s i hi)
  by_cases h0 : wd (bt s i) = 0
  · have hb0 : (((wd (bt s i) : Nat) : Int) == 0) = true := by rw [h0]; rfl
    clear h0 h
    go_enter Tryz.func144, Tryz.ntmps144
    go_wp2_with (go_at_call 196; rw [hbt.out]; refine (width_any _ hb _).mono ?_; rintro e w' ⟨rfl, rfl⟩)
    go_ret2
    exact ⟨rfl, 0, rfl⟩
  · have hb0 : (((wd (bt s i) : Nat) : Int) == 0) = false := by simpa using h0
    have h' : (s.size : Int) - i < (wd (bt s i) : Nat) := by omega
    clear h0 h
    go_enter Tryz.func144, Tryz.ntmps144
    go_wp2_with (go_at_call 196; rw [hbt.out]; refine (width_any _ hb _).mono ?_; rintro e w' ⟨rfl, rfl⟩)
    go_ret2
    exact ⟨rfl, 0, rfl⟩

theorem pair_mk {c n c' n' : Int} {w : World} {k : Nat} (hc : c = c') (hn : n = n') : PairQuiet c' n' w (.returned (.tuple #[.int .i64 c, .int .i64 n])) (w.drewN k) := by
  subst hc hn; exact ⟨rfl, k, rfl⟩
set_option maxRecDepth 100000 in
set_option maxHeartbeats 1000000 in
theorem next_one (s : ByteArray) (i : Nat) (w : World) (hs : s.size ≤ 9223372036854775807) (hi : i < s.size) (h : bt s i < 128) :
    Calls Tryz.prog 144 #[.string s, .int .i64 i] w (PairQuiet (bt s i) 1 w) := by
  have hb := bt_lt s i
  have hlt : ((s[i].toNat : Nat) : Int) < 256 := by rw [get_bt s i hi]; omega
  have hbt := Lib.hid (get_bt s i hi)
  have hw : wd (bt s i) = 1 := by unfold wd; rw [if_pos h]
  have hw' := Lib.hid hw
  clear hw
  go_enter Tryz.func144, Tryz.ntmps144
  go_wp2_with (go_at_call 196; rw [hbt.out]; refine (width_any _ hb _).mono ?_; rw [hw'.out]; rintro e w' ⟨rfl, rfl⟩)
  go_ret2
  exact pair_mk (k := 0) (by rw [hbt.out]) rfl

theorem bt_int (s : ByteArray) (k : Nat) (h : k < s.size) : ((s[k].toNat : Nat) : Int) = (bt s k : Int) := by rw [get_bt s k h]
set_option maxRecDepth 100000 in
set_option maxHeartbeats 1000000 in
theorem next_second (s : ByteArray) (i : Nat) (w : World) (hs : s.size ≤ 9223372036854775807) (hi : i < s.size) (h2 : 2 ≤ wd (bt s i)) (hn : wd (bt s i) ≤ s.size - i) (h : bt s (i + 1) < lo (bt s i) ∨ hiB (bt s i) < bt s (i + 1)) :
    Calls Tryz.prog 144 #[.string s, .int .i64 i] w (PairQuiet 65533 1 w) := by
  have hb := bt_lt s i
  have hi1 : i + 1 < s.size := by omega
  have hlt : ((s[i].toNat : Nat) : Int) < 256 := by rw [get_bt s i hi]; omega
  have hlt1 : ((s[i + 1].toNat : Nat) : Int) < 256 := by rw [get_bt s (i + 1) hi1]; have := bt_lt s (i + 1); omega
  have e1 := bt_int s (i + 1) hi1
  have hbt := Lib.hid (get_bt s i hi)
  have hn' : ((wd (bt s i) : Nat) : Int) ≤ (s.size : Int) - i := by omega
  have z0 : (((wd (bt s i) : Nat) : Int) == 0) = false := by simp; omega
  have z1 : (((wd (bt s i) : Nat) : Int) == 1) = false := by simp; omega
  rcases h with h | h
  · have h' : ((s[i + 1].toNat : Nat) : Int) < (lo (bt s i) : Nat) := by omega
    clear h e1 hn
    go_enter Tryz.func144, Tryz.ntmps144
    go_wp2_with (first | (go_at_call 196; rw [hbt.out]; refine (width_any _ hb _).mono ?_; rintro e w' ⟨rfl, rfl⟩) | (go_at_call 197; rw [hbt.out]; refine (second_any _ hb _).mono ?_; rintro e w' ⟨rfl, rfl⟩))
    go_ret2
    exact pair_mk (k := 0) rfl rfl
  · have h' : ((hiB (bt s i) : Nat) : Int) < ((s[i + 1].toNat : Nat) : Int) := by omega
    have hle : ((lo (bt s i) : Nat) : Int) ≤ ((s[i + 1].toNat : Nat) : Int) := by
      have : lo (bt s i) ≤ hiB (bt s i) := by unfold lo hiB; (repeat' split) <;> omega
      omega
    clear h e1 hn
    go_enter Tryz.func144, Tryz.ntmps144
    go_wp2_with (first | (go_at_call 196; rw [hbt.out]; refine (width_any _ hb _).mono ?_; rintro e w' ⟨rfl, rfl⟩) | (go_at_call 197; rw [hbt.out]; refine (second_any _ hb _).mono ?_; rintro e w' ⟨rfl, rfl⟩))
    go_ret2
    exact pair_mk (k := 0) rfl rfl

set_option maxRecDepth 100000 in
set_option maxHeartbeats 8000000 in
theorem next_more (s : ByteArray) (i sz : Nat) (w : World) (hs : s.size ≤ 9223372036854775807) (hi : i < s.size) (hw : wd (bt s i) = sz) (h2 : sz = 2 ∨ sz = 3 ∨ sz = 4) (hn : sz ≤ s.size - i) (hl : lo (bt s i) ≤ bt s (i + 1)) (hh : bt s (i + 1) ≤ hiB (bt s i)) :
    Calls Tryz.prog 144 #[.string s, .int .i64 i] w (PairQuiet (Utf8.decode s i).1 (Utf8.decode s i).2 w) := by
  have hb := bt_lt s i
  have hi1 : i + 1 < s.size := by omega
  have hlt : ((s[i].toNat : Nat) : Int) < 256 := by rw [get_bt s i hi]; omega
  have hlt1 : ((s[i + 1].toNat : Nat) : Int) < 256 := by rw [get_bt s (i + 1) hi1]; have := bt_lt s (i + 1); omega
  have e1 := bt_int s (i + 1) hi1
  have hbt := Lib.hid (get_bt s i hi)
  have h1 : ((lo (bt s i) : Nat) : Int) ≤ ((s[i + 1].toNat : Nat) : Int) := by omega
  have h3 : ((s[i + 1].toNat : Nat) : Int) ≤ ((hiB (bt s i) : Nat) : Int) := by omega
  have hbad : ∀ j, j + 1 < sz → bt s (i + 1 + j) < 128 ∨ 191 < bt s (i + 1 + j) → Utf8.decode s i = (65533, 1) := fun j hj h => dec_cont s i j (by rw [hw]; exact hj) h
  have hgood : ContTo s i (sz - 1) → Utf8.decode s i = (acc s i (2 ^ (7 - sz)) (sz - 1), sz) := dec_whole s i sz hi hw (by omega) hn hl hh
  have Hbad := Lib.hid hbad
  have Hgood := Lib.hid hgood
  have hw' := Lib.hid hw
  clear hbad hgood hl hh e1 hw
  generalize Utf8.decode s i = D at *
  have d0 : decide ((i : Int) < 0) = false := by simp
  have d2 : decide (s[i + 1].toNat < lo (bt s i)) = false := by simp; omega
  have d3 : decide (hiB (bt s i) < s[i + 1].toNat) = false := by simp; omega
  rcases h2 with rfl | rfl | rfl
  · have hn' : (2 : Int) ≤ (s.size : Int) - i := by omega
    have d1 : decide ((s.size : Int) - i < 2) = false := by simp; omega
    go_enter Tryz.func144, Tryz.ntmps144
    go_wp2_with (first | (go_at_call 196; rw [hbt.out]; refine (width_any _ hb _).mono ?_; rw [hw'.out]; rintro e w' ⟨rfl, rfl⟩) | (go_at_call 197; rw [hbt.out]; refine (second_any _ hb _).mono ?_; rintro e w' ⟨rfl, rfl⟩))
    go_quiet (fail)
    go_wp2
    go_loop [4, 71] (fun c k => ∃ j : Nat, j ≤ 2 - 1 ∧ k = .int .i64 j ∧ c = .int .i64 (acc s i (2 ^ (7 - 2)) j) ∧ ContTo s i j) (fun _ k => 2 - 1 - (intOf k).toNat)
    case atStart => exact ⟨0, by omega, rfl, congrArg (Value.int .i64) (by rw [hbt.out]; exact i64_and_mask _ 5 hb (by decide)), fun k hk => absurd hk (by omega)⟩
    case round =>
      obtain ⟨j, hj, rfl, rfl, hc⟩ := hrel
      have ha := acc_lt s i (2 ^ (7 - 2)) j (by decide) (by decide) (by omega)
      generalize hacc : acc s i (2 ^ (7 - 2)) j = a at *
      have Hacc := Lib.hid hacc
      clear hacc
      by_cases hlast : j < 2 - 1
      · have hij : i + 1 + j < s.size := by omega
        have hlj : ((s[i + 1 + j].toNat : Nat) : Int) < 256 := by rw [get_bt s _ hij]; have := bt_lt s (i + 1 + j); omega
        by_cases hcont : 128 ≤ bt s (i + 1 + j) ∧ bt s (i + 1 + j) ≤ 191
        · have q1 : decide (((s[i + 1 + j].toNat : Nat) : Int) < 128) = false := by rw [get_bt s _ hij]; simp; omega
          have q2 : decide (191 < ((s[i + 1 + j].toNat : Nat) : Int)) = false := by rw [get_bt s _ hij]; simp; omega
          go_wp2
          go_round
          case rel =>
            refine ⟨j + 1, by omega, by go_num, congrArg (Value.int .i64) ?_, fun k hk => ?_⟩
            · rw [bt_int s _ hij, byte_mod, i64_or_low _ _ ha (Nat.mod_lt _ (by decide)), ← Hacc.out]
              rfl
            · by_cases hk' : k < j
              · exact hc k hk'
              · obtain rfl : k = j := by omega
                exact hcont
          case measure => simp [intOf]; omega
        · have hb' := Hbad.out j (by omega) (by omega)
          by_cases q1 : bt s (i + 1 + j) < 128
          · have q1' : ((s[i + 1 + j].toNat : Nat) : Int) < 128 := by rw [get_bt s _ hij]; omega
            clear hb' q1 hcont
            go_wp2
            go_ret2
            exact pair_mk (by rw [Hbad.out j (by omega) (by have := get_bt s _ hij; omega)]; rfl) (by rw [Hbad.out j (by omega) (by have := get_bt s _ hij; omega)]; rfl)
          · have q1' : 128 ≤ ((s[i + 1 + j].toNat : Nat) : Int) := by rw [get_bt s _ hij]; omega
            have q2' : 191 < ((s[i + 1 + j].toNat : Nat) : Int) := by rw [get_bt s _ hij]; omega
            clear hb' q1 hcont
            go_wp2
            go_ret2
            exact pair_mk (by rw [Hbad.out j (by omega) (by have := get_bt s _ hij; omega)]; rfl) (by rw [Hbad.out j (by omega) (by have := get_bt s _ hij; omega)]; rfl)
      · obtain rfl : j = 2 - 1 := by omega
        go_wp2
        go_ret2
        exact pair_mk (by rw [Hgood.out hc, Hacc.out]) (by rw [Hgood.out hc]; rfl)
  · have hn' : (3 : Int) ≤ (s.size : Int) - i := by omega
    have d1 : decide ((s.size : Int) - i < 3) = false := by simp; omega
    go_enter Tryz.func144, Tryz.ntmps144
    go_wp2_with (first | (go_at_call 196; rw [hbt.out]; refine (width_any _ hb _).mono ?_; rw [hw'.out]; rintro e w' ⟨rfl, rfl⟩) | (go_at_call 197; rw [hbt.out]; refine (second_any _ hb _).mono ?_; rintro e w' ⟨rfl, rfl⟩))
    go_quiet (fail)
    go_wp2
    go_loop [4, 71] (fun c k => ∃ j : Nat, j ≤ 3 - 1 ∧ k = .int .i64 j ∧ c = .int .i64 (acc s i (2 ^ (7 - 3)) j) ∧ ContTo s i j) (fun _ k => 3 - 1 - (intOf k).toNat)
    case atStart => exact ⟨0, by omega, rfl, congrArg (Value.int .i64) (by rw [hbt.out]; exact i64_and_mask _ 4 hb (by decide)), fun k hk => absurd hk (by omega)⟩
    case round =>
      obtain ⟨j, hj, rfl, rfl, hc⟩ := hrel
      have ha := acc_lt s i (2 ^ (7 - 3)) j (by decide) (by decide) (by omega)
      generalize hacc : acc s i (2 ^ (7 - 3)) j = a at *
      have Hacc := Lib.hid hacc
      clear hacc
      by_cases hlast : j < 3 - 1
      · have hij : i + 1 + j < s.size := by omega
        have hlj : ((s[i + 1 + j].toNat : Nat) : Int) < 256 := by rw [get_bt s _ hij]; have := bt_lt s (i + 1 + j); omega
        by_cases hcont : 128 ≤ bt s (i + 1 + j) ∧ bt s (i + 1 + j) ≤ 191
        · have q1 : decide (((s[i + 1 + j].toNat : Nat) : Int) < 128) = false := by rw [get_bt s _ hij]; simp; omega
          have q2 : decide (191 < ((s[i + 1 + j].toNat : Nat) : Int)) = false := by rw [get_bt s _ hij]; simp; omega
          go_wp2
          go_round
          case rel =>
            refine ⟨j + 1, by omega, by go_num, congrArg (Value.int .i64) ?_, fun k hk => ?_⟩
            · rw [bt_int s _ hij, byte_mod, i64_or_low _ _ ha (Nat.mod_lt _ (by decide)), ← Hacc.out]
              rfl
            · by_cases hk' : k < j
              · exact hc k hk'
              · obtain rfl : k = j := by omega
                exact hcont
          case measure => simp [intOf]; omega
        · have hb' := Hbad.out j (by omega) (by omega)
          by_cases q1 : bt s (i + 1 + j) < 128
          · have q1' : ((s[i + 1 + j].toNat : Nat) : Int) < 128 := by rw [get_bt s _ hij]; omega
            clear hb' q1 hcont
            go_wp2
            go_ret2
            exact pair_mk (by rw [Hbad.out j (by omega) (by have := get_bt s _ hij; omega)]; rfl) (by rw [Hbad.out j (by omega) (by have := get_bt s _ hij; omega)]; rfl)
          · have q1' : 128 ≤ ((s[i + 1 + j].toNat : Nat) : Int) := by rw [get_bt s _ hij]; omega
            have q2' : 191 < ((s[i + 1 + j].toNat : Nat) : Int) := by rw [get_bt s _ hij]; omega
            clear hb' q1 hcont
            go_wp2
            go_ret2
            exact pair_mk (by rw [Hbad.out j (by omega) (by have := get_bt s _ hij; omega)]; rfl) (by rw [Hbad.out j (by omega) (by have := get_bt s _ hij; omega)]; rfl)
      · obtain rfl : j = 3 - 1 := by omega
        go_wp2
        go_ret2
        exact pair_mk (by rw [Hgood.out hc, Hacc.out]) (by rw [Hgood.out hc]; rfl)
  · have hn' : (4 : Int) ≤ (s.size : Int) - i := by omega
    have d1 : decide ((s.size : Int) - i < 4) = false := by simp; omega
    go_enter Tryz.func144, Tryz.ntmps144
    go_wp2_with (first | (go_at_call 196; rw [hbt.out]; refine (width_any _ hb _).mono ?_; rw [hw'.out]; rintro e w' ⟨rfl, rfl⟩) | (go_at_call 197; rw [hbt.out]; refine (second_any _ hb _).mono ?_; rintro e w' ⟨rfl, rfl⟩))
    go_quiet (fail)
    go_wp2
    go_loop [4, 71] (fun c k => ∃ j : Nat, j ≤ 4 - 1 ∧ k = .int .i64 j ∧ c = .int .i64 (acc s i (2 ^ (7 - 4)) j) ∧ ContTo s i j) (fun _ k => 4 - 1 - (intOf k).toNat)
    case atStart => exact ⟨0, by omega, rfl, congrArg (Value.int .i64) (by rw [hbt.out]; exact i64_and_mask _ 3 hb (by decide)), fun k hk => absurd hk (by omega)⟩
    case round =>
      obtain ⟨j, hj, rfl, rfl, hc⟩ := hrel
      have ha := acc_lt s i (2 ^ (7 - 4)) j (by decide) (by decide) (by omega)
      generalize hacc : acc s i (2 ^ (7 - 4)) j = a at *
      have Hacc := Lib.hid hacc
      clear hacc
      by_cases hlast : j < 4 - 1
      · have hij : i + 1 + j < s.size := by omega
        have hlj : ((s[i + 1 + j].toNat : Nat) : Int) < 256 := by rw [get_bt s _ hij]; have := bt_lt s (i + 1 + j); omega
        by_cases hcont : 128 ≤ bt s (i + 1 + j) ∧ bt s (i + 1 + j) ≤ 191
        · have q1 : decide (((s[i + 1 + j].toNat : Nat) : Int) < 128) = false := by rw [get_bt s _ hij]; simp; omega
          have q2 : decide (191 < ((s[i + 1 + j].toNat : Nat) : Int)) = false := by rw [get_bt s _ hij]; simp; omega
          go_wp2
          go_round
          case rel =>
            refine ⟨j + 1, by omega, by go_num, congrArg (Value.int .i64) ?_, fun k hk => ?_⟩
            · rw [bt_int s _ hij, byte_mod, i64_or_low _ _ ha (Nat.mod_lt _ (by decide)), ← Hacc.out]
              rfl
            · by_cases hk' : k < j
              · exact hc k hk'
              · obtain rfl : k = j := by omega
                exact hcont
          case measure => simp [intOf]; omega
        · have hb' := Hbad.out j (by omega) (by omega)
          by_cases q1 : bt s (i + 1 + j) < 128
          · have q1' : ((s[i + 1 + j].toNat : Nat) : Int) < 128 := by rw [get_bt s _ hij]; omega
            clear hb' q1 hcont
            go_wp2
            go_ret2
            exact pair_mk (by rw [Hbad.out j (by omega) (by have := get_bt s _ hij; omega)]; rfl) (by rw [Hbad.out j (by omega) (by have := get_bt s _ hij; omega)]; rfl)
          · have q1' : 128 ≤ ((s[i + 1 + j].toNat : Nat) : Int) := by rw [get_bt s _ hij]; omega
            have q2' : 191 < ((s[i + 1 + j].toNat : Nat) : Int) := by rw [get_bt s _ hij]; omega
            clear hb' q1 hcont
            go_wp2
            go_ret2
            exact pair_mk (by rw [Hbad.out j (by omega) (by have := get_bt s _ hij; omega)]; rfl) (by rw [Hbad.out j (by omega) (by have := get_bt s _ hij; omega)]; rfl)
      · obtain rfl : j = 4 - 1 := by omega
        go_wp2
        go_ret2
        exact pair_mk (by rw [Hgood.out hc, Hacc.out]) (by rw [Hgood.out hc]; rfl)

end Go.Proofs.YtpoafhgbhnblmaaGreatDoor
namespace Go.Pub
def digitB (c : Int) : Bool := decide (48 ≤ c) && decide (c ≤ 57)
def inB (c : Int) (l : List (Int × Int)) : Bool := l.any fun r => decide (r.1 ≤ c) && decide (c ≤ r.2)
def punctL : List (Int × Int) := [(33, 47), (58, 64), (91, 96), (123, 126), (161, 169), (171, 180), (182, 185), (187, 191), (215, 215), (247, 247), (8208, 8231), (8240, 8286), (12289, 12291)]
def letterL : List (Int × Int) := [(65, 90), (97, 122), (170, 170), (181, 181), (186, 186), (192, 214), (216, 246), (248, 687), (880, 1327), (4256, 4351), (7680, 8191), (12353, 12538), (19968, 40959), (44032, 55203)]
end Go.Pub
namespace Go.Proofs.YtpoafhgbhnblmaaGreatDoor
open Go.RowKit Go.Pub
theorem wd_cases (b : Nat) : wd b = 0 ∨ (wd b = 1 ∧ b < 128) ∨ wd b = 2 ∨ wd b = 3 ∨ wd b = 4 := by
  unfold wd; (repeat' split) <;> simp_all
theorem next_any (s : ByteArray) (i : Int) (w : World) (hs : s.size ≤ 9223372036854775807) :
    Calls Tryz.prog 144 #[.string s, .int .i64 i] w (PairQuiet (nextAt s i).1 (nextAt s i).2 w) := by
  by_cases h : 0 ≤ i ∧ i < s.size
  · obtain ⟨k, rfl⟩ := Int.eq_ofNat_of_zero_le h.1
    have hk : k < s.size := by omega
    rw [nextAt_in s k hk]
    by_cases c0 : wd (bt s k) = 0
    · rw [dec_bad_width s k c0]; exact next_bad s k w hs hk (.inl c0)
    by_cases c1 : bt s k < 128
    · rw [dec_one s k c1]; exact next_one s k w hs hk c1
    have hw : wd (bt s k) = 2 ∨ wd (bt s k) = 3 ∨ wd (bt s k) = 4 := by
      rcases wd_cases (bt s k) with h | h | h
      · exact absurd h c0
      · exact absurd h.2 c1
      · exact h
    by_cases c2 : s.size - k < wd (bt s k)
    · rw [dec_short s k hk (by omega) c2]; exact next_bad s k w hs hk (.inr c2)
    by_cases c3 : bt s (k + 1) < lo (bt s k) ∨ hiB (bt s k) < bt s (k + 1)
    · rw [dec_second s k (by omega) c3]; exact next_second s k w hs hk (by omega) (by omega) c3
    · exact next_more s k (wd (bt s k)) w hs hk rfl hw (by omega) (by omega) (by omega)
  · rw [nextAt_out s i h]; exact next_out s i w hs h
set_option maxRecDepth 100000 in
set_option maxHeartbeats 400000 in
theorem space_any (c : Int) (w : World) : Calls Tryz.prog 157 #[.int .i64 c] w fun e w' => e = .returned (.bool (spaceB c)) ∧ w = w' := by
  have H : Hid (spaceB c = (c == 32 || c == 10)) := Lib.hid rfl
  generalize spaceB c = b at *
  go_enter Tryz.func157, Tryz.ntmps157
  go_wp2
  all_goals
    go_ret
    exact ⟨ret_bool (by rw [H.out] <;> simp_all), rfl⟩

set_option maxRecDepth 100000 in
set_option maxHeartbeats 400000 in
theorem digit_any (c : Int) (w : World) : Calls Tryz.prog 101 #[.int .i64 c] w fun e w' => e = .returned (.bool (digitB c)) ∧ w = w' := by
  have H : Hid (digitB c = (decide (48 ≤ c) && decide (c ≤ 57))) := Lib.hid rfl
  generalize digitB c = b at *
  by_cases h : 48 ≤ c
  all_goals
    go_enter Tryz.func101, Tryz.ntmps101
    go_wp2
  all_goals
    go_ret
    exact ⟨ret_bool (by rw [H.out]; first | rfl | (simp; omega)), rfl⟩

set_option maxRecDepth 100000 in
set_option maxHeartbeats 400000 in
theorem unclean_any (c : Int) (w : World) : Calls Tryz.prog 145 #[.int .i64 c] w fun e w' => e = .returned (.bool (uncleanB c)) ∧ w = w' := by
  have H : Hid (uncleanB c = ((decide (c < 32) && c != 10) || c == 127)) := Lib.hid rfl
  generalize uncleanB c = b at *
  by_cases h : c < 32
  · by_cases h2 : c = 10
    · subst h2
      go_enter Tryz.func145, Tryz.ntmps145
      go_wp2
      go_ret
      exact ⟨ret_bool (by rw [H.out]; rfl), rfl⟩
    · have h3 : (c != 10) = true := by simpa using h2
      clear h2
      go_enter Tryz.func145, Tryz.ntmps145
      go_wp2
      go_ret
      exact ⟨ret_bool (by rw [H.out, h3]; simp [h]), rfl⟩
  · go_enter Tryz.func145, Tryz.ntmps145
    go_wp2
    go_ret
    exact ⟨ret_bool (by rw [H.out]; simp [show ¬ c < 32 by omega]), rfl⟩

set_option maxRecDepth 100000 in
set_option maxHeartbeats 2000000 in
theorem lower_any (c : Int) (w : World) : Calls Tryz.prog 161 #[.int .i64 c] w fun e w' => e = .returned (.int .i64 (lowerZ c)) ∧ w = w' := by
  have H : Hid (lowerZ c = if (65 ≤ c ∧ c ≤ 90) ∨ (192 ≤ c ∧ c ≤ 222 ∧ c ≠ 215) ∨ (913 ≤ c ∧ c ≤ 939 ∧ c ≠ 930) ∨ (1040 ≤ c ∧ c ≤ 1071) then c + 32 else if 1024 ≤ c ∧ c ≤ 1039 then c + 80 else c) := Lib.hid rfl
  generalize lowerZ c = b at *
  go_enter Tryz.func161, Tryz.ntmps161
  go_wp2
  all_goals
    go_ret
    refine ⟨ret_int ?_, rfl⟩
    rw [H.out]
    try simp only [beq_iff_eq, bne_iff_ne, beq_eq_false_iff_ne, bne_eq_false_iff_eq, ne_eq] at *
    (repeat' split) <;> omega

end Go.Proofs.YtpoafhgbhnblmaaGreatDoor
namespace Go.Proofs.YtpoafhgbhnblmaaGreatDoor
open Go.RowKit Go.Pub
/-- A code point that clean text can have. -/
def okPt (p : Nat × Nat) : Bool := !(p.1 == 65533 && p.2 == 1) && !uncleanB p.1
def validB (s : ByteArray) : Bool := (pts s).all okPt
set_option maxRecDepth 100000 in
set_option maxHeartbeats 4000000 in
theorem valid_any (s : ByteArray) (w : World) (hs : s.size < 9223372036854775800) : Calls Tryz.prog 90 #[.string s] w fun e w' => e = .returned (.bool (validB s)) ∧ Below w.heap.size w w' := by
  have HV : Hid (validB s = (pts s).all okPt) := Lib.hid rfl
  generalize validB s = V at *
  go_enter Tryz.func90, Tryz.ntmps90
  go_wp2
  go_loopw [3] (fun i wr => ∃ (pos f : Nat) (acc : List (Nat × Nat)), i = .int .i64 pos ∧ Below w.heap.size w wr ∧ acc ++ ptsFrom s f pos = pts s ∧ acc.all okPt = true ∧ s.size ≤ pos + f ∧ pos ≤ s.size) (fun i _ => s.size - (intOf i).toNat)
  case atStart =>
    exact ⟨0, s.size, [], rfl, Below.refl _ w, rfl, rfl, by omega, by omega⟩
  case round =>
    obtain ⟨pos, f, acc, rfl, hbw, hacc, hok, hf, hal⟩ := hrel
    have Hacc := Lib.hid hacc
    have Hok := Lib.hid hok
    clear hacc hok
    by_cases hp : pos < s.size
    · have hd := dec_bd s pos hp
      have HN : Hid (∀ W, Calls Tryz.prog 144 #[.string s, .int .i64 pos] W (PairQuiet (Utf8.decode s pos).1 (Utf8.decode s pos).2 W)) := Lib.hid fun W => by
        have h := next_any s pos W (by omega)
        rw [nextAt_in s pos hp] at h
        exact h
      have hall : Hid (pts s = (acc ++ [Utf8.decode s pos]) ++ ptsFrom s (f - 1) (pos + (Utf8.decode s pos).2)) := Lib.hid (by rw [← Hacc.out, ptsFrom_step s f pos hp hf]; simp)
      have hokp : Hid (okPt (Utf8.decode s pos) = (!((Utf8.decode s pos).1 == 65533 && (Utf8.decode s pos).2 == 1) && !uncleanB (Utf8.decode s pos).1)) := Lib.hid rfl
      generalize Utf8.decode s pos = D at *
      have fals : okPt D = false → V = false := fun h => by rw [HV.out, hall.out]; simp [h]
      have Hfals := Lib.hid fals
      clear fals
      by_cases c1 : ((D.1 : Int) == 65533) = true
      · by_cases c2 : ((D.2 : Int) == 1) = true
        · have hv : okPt D = false := by rw [hokp.out]; simp at c1 c2; simp; omega
          have Hv := Lib.hid hv
          clear hv
          go_wp2_with (go_at_call 144; refine (HN.out _).mono ?_; rintro e w' ⟨rfl, kq, rfl⟩)
          go_ret
          exact ⟨ret_bool (Hfals.out Hv.out).symm, below_drewN hbw _⟩
        · rw [Bool.not_eq_true] at c2
          by_cases c3 : uncleanB D.1 = true
          · have Hv : Hid (okPt D = false) := Lib.hid (by rw [hokp.out, c3]; simp)
            go_wp2_with (first | (go_at_call 144; refine (HN.out _).mono ?_; rintro e w' ⟨rfl, kq, rfl⟩) | (go_at_call 145; refine (unclean_any _ _).mono ?_; rintro e w' ⟨rfl, rfl⟩))
            go_ret
            exact ⟨ret_bool (Hfals.out Hv.out).symm, below_drewN hbw _⟩
          · rw [Bool.not_eq_true] at c3
            have Hv : Hid (okPt D = true) := Lib.hid (by rw [hokp.out, c3]; simp at c1 c2; simp; omega)
            go_wp2_with (first | (go_at_call 144; refine (HN.out _).mono ?_; rintro e w' ⟨rfl, kq, rfl⟩) | (go_at_call 145; refine (unclean_any _ _).mono ?_; rintro e w' ⟨rfl, rfl⟩))
            go_roundw
            case rel => exact ⟨pos + D.2, f - 1, acc ++ [D], by go_num, below_drewN hbw _, hall.out.symm, by rw [List.all_append, Hok.out]; simp [Hv.out], by omega, by omega⟩
            case measure => simp [intOf]; omega
      · rw [Bool.not_eq_true] at c1
        by_cases c3 : uncleanB D.1 = true
        · have Hv : Hid (okPt D = false) := Lib.hid (by rw [hokp.out, c3]; simp)
          go_wp2_with (first | (go_at_call 144; refine (HN.out _).mono ?_; rintro e w' ⟨rfl, kq, rfl⟩) | (go_at_call 145; refine (unclean_any _ _).mono ?_; rintro e w' ⟨rfl, rfl⟩))
          go_ret
          exact ⟨ret_bool (Hfals.out Hv.out).symm, below_drewN hbw _⟩
        · rw [Bool.not_eq_true] at c3
          have Hv : Hid (okPt D = true) := Lib.hid (by rw [hokp.out, c3]; simp at c1; simp; omega)
          go_wp2_with (first | (go_at_call 144; refine (HN.out _).mono ?_; rintro e w' ⟨rfl, kq, rfl⟩) | (go_at_call 145; refine (unclean_any _ _).mono ?_; rintro e w' ⟨rfl, rfl⟩))
          go_roundw
          case rel => exact ⟨pos + D.2, f - 1, acc ++ [D], by go_num, below_drewN hbw _, hall.out.symm, by rw [List.all_append, Hok.out]; simp [Hv.out], by omega, by omega⟩
          case measure => simp [intOf]; omega
    · have hv : V = true := by rw [HV.out, ← Hacc.out, ptsFrom_end s f pos hp, List.append_nil]; exact Hok.out
      have Hv := Lib.hid hv
      clear hv
      go_wp2
      go_ret
      exact ⟨ret_bool Hv.out.symm, hbw⟩

end Go.Proofs.YtpoafhgbhnblmaaGreatDoor
namespace Go.Pub
open Go.RowKit
def SliceOwn (e : TypeId) (size n : Nat) (xs : List Value) (w : World) (en : Ending) (w' : World) : Prop := ∃ v, en = .returned v ∧ w'.ownsRow w.heap.size e size v n xs ∧ Below w.heap.size w w'
end Go.Pub
namespace Go.Proofs.YtpoafhgbhnblmaaGreatDoor
open Go.RowKit Go.Pub
theorem ptInfo : (Tryz.prog.info? 59).map (fun i => (i.zero, i.size, i.bytes)) = some (some (.agg #[.int .i64 0, .int .i64 0]), 2, 16) := by kernel_rfl
set_option maxRecDepth 100000 in
set_option maxHeartbeats 4000000 in
theorem points_any (s : ByteArray) (w : World) (hs : s.size ≤ 1000000) : Calls Tryz.prog 28 #[.string s] w (SliceOwn 59 2 (pts s).length (ptCells (pts s)) w) := by
  obtain ⟨i0, hi0, hz0, hz1, hz2⟩ := info_parts ptInfo
  go_enter Tryz.func28, Tryz.ntmps28
  go_wp2
  go_loopw [3, 4] (fun v i wr => ∃ (pos f : Nat) (acc : List (Nat × Nat)), i = .int .i64 pos ∧ wr.ownsRow w.heap.size 59 2 v acc.length (ptCells acc) ∧ Below w.heap.size w wr ∧ acc ++ ptsFrom s f pos = pts s ∧ s.size ≤ pos + f ∧ pos ≤ s.size ∧ acc.length ≤ pos) (fun _ i _ => s.size - (intOf i).toNat)
  case atStart => exact ⟨0, s.size, [], rfl, World.ownsRow_nil _ _ _ _, Below.refl _ w, rfl, by omega, by omega, by simp⟩
  case round =>
    obtain ⟨pos, f, acc, rfl, hown, hbw, hacc, hf, hal, hacl⟩ := hrel
    have Hacc := Lib.hid hacc
    clear hacc
    by_cases hp : pos < s.size
    · have hd := dec_bd s pos hp
      have HN : Hid (∀ W, Calls Tryz.prog 37 #[.string s, .int .i64 pos] W (PointBelow (Utf8.decode s pos).1 (Utf8.decode s pos).2 W)) := Lib.hid fun W => at_any s pos W (by omega) hp
      have hall : Hid ((acc ++ [Utf8.decode s pos]) ++ ptsFrom s (f - 1) (pos + (Utf8.decode s pos).2) = pts s) := Lib.hid (by rw [← Hacc.out, ptsFrom_step s f pos hp hf]; simp)
      generalize Utf8.decode s pos = D at *
      go_wp2_with fail
      refine (HN.out _).mono ?_
      rintro e w1 ⟨rfl, hb1⟩
      have hbw1 : Below w.heap.size w w1 := hbw.trans (hb1.mono hbw.size)
      have hz := hb1.size
      have hzw := hbw.size
      have hown1 := own_below hown hb1
      go_wp2_with (at_builtin; refine wpList_append_own _ rfl _ _ 56 rfl w.heap.size 59 i0 _ 2 16 Tryz.underlying56 hi0 hz0 hz1 hz2 rfl (by decide) _ _ _ rfl ((hown1.alloc _).alloc _) ⟨w1.heap.size + 1, 0, none⟩ 1 1 [.int .i64 D.1, .int .i64 D.2] rfl rfl ?c1 ?c2 ?c3 ?c4 ?c5 ?_)
      case c1 =>
        intro j u hj
        match j, hj with
        | 0, hj => simp at hj; subst hj; simp [Addr.add]
        | 1, hj => simp at hj; subst hj; simp [Addr.add]
      case c2 => intro u hu; simp at hu; rcases hu with rfl | rfl <;> rfl
      case c3 => unfold maxLen; omega
      case c4 => omega
      case c5 => simp; omega
      intro v' w2 hown2 hgrow _
      have hnx : Below w.heap.size w w2 := ((hbw1.alloc (by omega) _).alloc (by simp; omega) _).grown hgrow (by simp; omega) (fun k hk => (hown1.lt k hk).1)
      have hc : w2.cell? ⟨w1.heap.size, 1, none⟩ = some (.int .i64 D.2) := by
        refine hgrow.cell ?_ ?_
        · simp
        · intro e
          have := (hown1.lt _ e.symm).2
          simp at this
      go_wp2
      go_roundw
      case rel =>
        refine ⟨pos + D.2, f - 1, acc ++ [D], by go_num, ?_, hnx, hall.out, by omega, by omega, by simp; omega⟩
        rw [ptCells_append, List.length_append]
        exact hown2
      case measure => simp [intOf]; omega
    · go_wp2
      go_ret
      rw [ptsFrom_end s f pos hp, List.append_nil] at Hacc
      exact ⟨_, rfl, by rw [← Hacc.out]; exact hown, hbw⟩

end Go.Proofs.YtpoafhgbhnblmaaGreatDoor
