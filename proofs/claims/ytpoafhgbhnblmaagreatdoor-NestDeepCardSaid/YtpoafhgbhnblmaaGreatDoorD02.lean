/-
  Texts of the proof, put together (what this law reaches): Next, Mem, CharsA, CharsB, PureC, LinkP.
-/
import Derived.Test.YtpoafhgbhnblmaaGreatDoorRows
import Derived.Test.YtpoafhgbhnblmaaGreatDoorD01
import Derived.WalkKit
import Derived.WalkSpells
import Derived.WalkLawsBesides
import Derived.Deep.QuietTactic
import Derived.BigQuiet
import Derived.Lib.Hide
import Derived.Below
import Derived.Laws.OwnMore
import Derived.Deep.AppendLies
import Derived.Deep.Draws
import Derived.Lib.RuneBytes
set_option linter.unusedVariables false
set_option linter.unusedSimpArgs false
namespace Go.Proofs.YtpoafhgbhnblmaaGreatDoor
open Go.RowKit Go.Pub
theorem i64_and_mask (a k : Nat) (ha : a < 256) (hk : k ≤ 7) : bits .and .i64 (a : Int) ((2 ^ k - 1 : Nat) : Int) = ((a % 2 ^ k : Nat) : Int) := by
  have hk' : (2 : Nat) ^ k ≤ 2 ^ 7 := Nat.pow_le_pow_right (by decide) hk
  have h := show bits .and .i64 (a : Int) ((2 ^ k - 1 : Nat) : Int) = ((a &&& (2 ^ k - 1) : Nat) : Int) by
    have o : ∀ x : Nat, x < 256 → (BitVec.ofInt 64 (x : Int)).toNat = x := fun x hx => by
      rw [BitVec.ofInt_natCast, BitVec.toNat_ofNat]; exact Nat.mod_eq_of_lt (by omega)
    show IntKind.i64.wrap ((BitVec.ofInt 64 (a : Int) &&& BitVec.ofInt 64 ((2 ^ k - 1 : Nat) : Int)).toNat : Int) = _
    have hx : a &&& (2 ^ k - 1) ≤ a := Nat.and_le_left
    rw [BitVec.toNat_and, o a ha, o _ (by omega), IntKind.wrap_i64]
    omega
  rw [h, Nat.and_two_pow_sub_one_eq_mod]
theorem byte_mod (b : Nat) : ((b : Int) % 64) = ((b % 64 : Nat) : Int) := by omega
theorem i64_or_low (a b : Nat) (ha : a < 8388608) (hb : b < 64) : bits .or .i64 ((a : Int) * 64) (b : Int) = ((a * 64 + b : Nat) : Int) := by
  have o : ∀ x : Nat, x < 9223372036854775808 → (BitVec.ofInt 64 (x : Int)).toNat = x := fun x hx => by
    rw [BitVec.ofInt_natCast, BitVec.toNat_ofNat]; exact Nat.mod_eq_of_lt (by omega)
  have e : ((a : Int) * 64) = ((a * 64 : Nat) : Int) := by omega
  rw [e]
  show IntKind.i64.wrap ((BitVec.ofInt 64 ((a * 64 : Nat) : Int) ||| BitVec.ofInt 64 (b : Int)).toNat : Int) = _
  have hor : a * 64 ||| b = a * 64 + b := by
    have := Nat.two_pow_add_eq_or_of_lt (i := 6) (b := b) (by simpa using hb) a
    rw [show (2 : Nat) ^ 6 = 64 from rfl, Nat.mul_comm 64 a] at this
    exact this.symm
  rw [BitVec.toNat_or, o _ (by omega), o b (by omega), hor, IntKind.wrap_i64]
  omega
set_option maxRecDepth 100000 in
set_option maxHeartbeats 1000000 in
theorem width_any (b : Nat) (hb : b < 256) (w : World) :
    Calls Tryz.prog 196 #[.int .u8 b] w fun e w' => e = .returned (.int .i64 (wd b)) ∧ w = w' := by
  have hb' : (b : Int) < 256 := by omega
  have HW : Hid (wd b = if b < 128 then 1 else if 194 ≤ b ∧ b ≤ 223 then 2 else if 224 ≤ b ∧ b ≤ 239 then 3 else if 240 ≤ b ∧ b ≤ 244 then 4 else 0) := Lib.hid rfl
  generalize wd b = z at *
  clear hb
  go_enter Tryz.func196, Tryz.ntmps196
  go_wp2
  all_goals
    go_ret
    have hz := HW.out
    (repeat' split at hz) <;> first | omega | (subst hz; exact ⟨rfl, rfl⟩)

set_option maxRecDepth 100000 in
set_option maxHeartbeats 1000000 in
theorem second_any (b : Nat) (hb : b < 256) (w : World) :
    Calls Tryz.prog 197 #[.int .u8 b] w fun e w' => e = .returned (.tuple #[.int .u8 (lo b), .int .u8 (hi b)]) ∧ w = w' := by
  have HW : Hid (lo b = if b = 224 then 160 else if b = 240 then 144 else 128) := Lib.hid rfl
  have HV : Hid (hi b = if b = 237 then 159 else if b = 244 then 143 else 191) := Lib.hid rfl
  generalize lo b = y at *
  generalize hi b = z at *
  go_enter Tryz.func197, Tryz.ntmps197
  go_wp2
  all_goals
    go_ret2
    have hz := HW.out
    have hy := HV.out
    refine ⟨?_, rfl⟩
    simp only [beq_iff_eq, beq_eq_false_iff_ne, ne_eq] at *
    (repeat' split at hz) <;> first | omega | ((repeat' split at hy) <;> first | omega | (subst hz hy; rfl))

def PairQuiet (c n : Int) (w : World) (e : Ending) (w' : World) : Prop := e = .returned (.tuple #[.int .i64 c, .int .i64 n]) ∧ ∃ k, w' = w.drewN k
set_option maxRecDepth 100000 in
set_option maxHeartbeats 1000000 in
theorem next_out (s : ByteArray) (i : Int) (w : World) (hs : s.size ≤ 9223372036854775807) (h : ¬ (0 ≤ i ∧ i < s.size)) :
    Calls Tryz.prog 144 #[.string s, .int .i64 i] w (PairQuiet (-1) 0 w) := by
  by_cases h0 : i < 0
  all_goals
    go_enter Tryz.func144, Tryz.ntmps144
    go_wp2
    go_ret2
    exact ⟨rfl, 0, rfl⟩

set_option maxRecDepth 100000 in
set_option maxHeartbeats 1000000 in
theorem next_bad (s : ByteArray) (i : Nat) (w : World) (hs : s.size ≤ 9223372036854775807) (hi : i < s.size) (h : wd (bt s i) = 0 ∨ s.size - i < wd (bt s i)) :
    Calls Tryz.prog 144 #[.string s, .int .i64 i] w (PairQuiet 65533 1 w) := by
  have hb := bt_lt s i
  have hbt := Lib.hid (get_bt s i hi)
  by_cases h0 : wd (bt s i) = 0
  · have hb0 : (((wd (bt s i) : Nat) : Int) == 0) = true := by rw [h0]; rfl
    clear h0 h
    go_enter Tryz.func144, Tryz.ntmps144
    go_wp2_with (go_at_call 196; rw [hbt.out]; refine (width_any _ hb _).mono ?_; rintro e w' ⟨rfl, rfl⟩)
    go_ret2
    exact ⟨rfl, 0, rfl⟩
  · have hb0 : (((wd (bt s i) : Nat) : Int) == 0) = false := by simpa using h0
    have h' : (s.size : Int) - i < (wd (bt s i) : Nat) := by omega
    clear h0 h
    go_enter Tryz.func144, Tryz.ntmps144
    go_wp2_with (go_at_call 196; rw [hbt.out]; refine (width_any _ hb _).mono ?_; rintro e w' ⟨rfl, rfl⟩)
    go_ret2
    exact ⟨rfl, 0, rfl⟩

theorem pair_mk {c n c' n' : Int} {w : World} {k : Nat} (hc : c = c') (hn : n = n') : PairQuiet c' n' w (.returned (.tuple #[.int .i64 c, .int .i64 n])) (w.drewN k) := by
  subst hc hn; exact ⟨rfl, k, rfl⟩
set_option maxRecDepth 100000 in
set_option maxHeartbeats 1000000 in
theorem next_one (s : ByteArray) (i : Nat) (w : World) (hs : s.size ≤ 9223372036854775807) (hi : i < s.size) (h : bt s i < 128) :
    Calls Tryz.prog 144 #[.string s, .int .i64 i] w (PairQuiet (bt s i) 1 w) := by
  have hb := bt_lt s i
  have hlt : ((s[i].toNat : Nat) : Int) < 256 := by rw [get_bt s i hi]; omega
  have hbt := Lib.hid (get_bt s i hi)
  have hw : wd (bt s i) = 1 := by unfold wd; rw [if_pos h]
  have hw' := Lib.hid hw
  clear hw
  go_enter Tryz.func144, Tryz.ntmps144
  go_wp2_with (go_at_call 196; rw [hbt.out]; refine (width_any _ hb _).mono ?_; rw [hw'.out]; rintro e w' ⟨rfl, rfl⟩)
  go_ret2
  exact pair_mk (k := 0) (by rw [hbt.out]) rfl

theorem bt_int (s : ByteArray) (k : Nat) (h : k < s.size) : ((s[k].toNat : Nat) : Int) = (bt s k : Int) := by rw [get_bt s k h]
set_option maxRecDepth 100000 in
set_option maxHeartbeats 1000000 in
theorem next_second (s : ByteArray) (i : Nat) (w : World) (hs : s.size ≤ 9223372036854775807) (hi : i < s.size) (h2 : 2 ≤ wd (bt s i)) (hn : wd (bt s i) ≤ s.size - i) (h : bt s (i + 1) < lo (bt s i) ∨ Pub.hi (bt s i) < bt s (i + 1)) :
    Calls Tryz.prog 144 #[.string s, .int .i64 i] w (PairQuiet 65533 1 w) := by
  have hb := bt_lt s i
  have hi1 : i + 1 < s.size := by omega
  have hlt : ((s[i].toNat : Nat) : Int) < 256 := by rw [get_bt s i hi]; omega
  have hlt1 : ((s[i + 1].toNat : Nat) : Int) < 256 := by rw [get_bt s (i + 1) hi1]; have := bt_lt s (i + 1); omega
  have e1 := bt_int s (i + 1) hi1
  have hbt := Lib.hid (get_bt s i hi)
  have hn' : ((wd (bt s i) : Nat) : Int) ≤ (s.size : Int) - i := by omega
  have z0 : (((wd (bt s i) : Nat) : Int) == 0) = false := by simp; omega
  have z1 : (((wd (bt s i) : Nat) : Int) == 1) = false := by simp; omega
  rcases h with h | h
  · have h' : ((s[i + 1].toNat : Nat) : Int) < (lo (bt s i) : Nat) := by omega
    clear h e1 hn
    go_enter Tryz.func144, Tryz.ntmps144
    go_wp2_with (first | (go_at_call 196; rw [hbt.out]; refine (width_any _ hb _).mono ?_; rintro e w' ⟨rfl, rfl⟩) | (go_at_call 197; rw [hbt.out]; refine (second_any _ hb _).mono ?_; rintro e w' ⟨rfl, rfl⟩))
    go_ret2
    exact pair_mk (k := 0) rfl rfl
  · have h' : ((Pub.hi (bt s i) : Nat) : Int) < ((s[i + 1].toNat : Nat) : Int) := by omega
    have hle : ((lo (bt s i) : Nat) : Int) ≤ ((s[i + 1].toNat : Nat) : Int) := by
      have : lo (bt s i) ≤ Pub.hi (bt s i) := by unfold lo Pub.hi; (repeat' split) <;> omega
      omega
    clear h e1 hn
    go_enter Tryz.func144, Tryz.ntmps144
    go_wp2_with (first | (go_at_call 196; rw [hbt.out]; refine (width_any _ hb _).mono ?_; rintro e w' ⟨rfl, rfl⟩) | (go_at_call 197; rw [hbt.out]; refine (second_any _ hb _).mono ?_; rintro e w' ⟨rfl, rfl⟩))
    go_ret2
    exact pair_mk (k := 0) rfl rfl

set_option maxRecDepth 100000 in
set_option maxHeartbeats 8000000 in
theorem next_more (s : ByteArray) (i sz : Nat) (w : World) (hs : s.size ≤ 9223372036854775807) (hi : i < s.size) (hw : wd (bt s i) = sz) (h2 : sz = 2 ∨ sz = 3 ∨ sz = 4) (hn : sz ≤ s.size - i) (hl : lo (bt s i) ≤ bt s (i + 1)) (hh : bt s (i + 1) ≤ Pub.hi (bt s i)) :
    Calls Tryz.prog 144 #[.string s, .int .i64 i] w (PairQuiet (Utf8.decode s i).1 (Utf8.decode s i).2 w) := by
  have hb := bt_lt s i
  have hi1 : i + 1 < s.size := by omega
  have hlt : ((s[i].toNat : Nat) : Int) < 256 := by rw [get_bt s i hi]; omega
  have hlt1 : ((s[i + 1].toNat : Nat) : Int) < 256 := by rw [get_bt s (i + 1) hi1]; have := bt_lt s (i + 1); omega
  have e1 := bt_int s (i + 1) hi1
  have hbt := Lib.hid (get_bt s i hi)
  have h1 : ((lo (bt s i) : Nat) : Int) ≤ ((s[i + 1].toNat : Nat) : Int) := by omega
  have h3 : ((s[i + 1].toNat : Nat) : Int) ≤ ((Pub.hi (bt s i) : Nat) : Int) := by omega
  have hbad : ∀ j, j + 1 < sz → bt s (i + 1 + j) < 128 ∨ 191 < bt s (i + 1 + j) → Utf8.decode s i = (65533, 1) := fun j hj h => dec_cont s i j (by rw [hw]; exact hj) h
  have hgood : ContTo s i (sz - 1) → Utf8.decode s i = (acc s i (2 ^ (7 - sz)) (sz - 1), sz) := dec_whole s i sz hi hw (by omega) hn hl hh
  have Hbad := Lib.hid hbad
  have Hgood := Lib.hid hgood
  have hw' := Lib.hid hw
  clear hbad hgood hl hh e1 hw
  generalize Utf8.decode s i = D at *
  have d0 : decide ((i : Int) < 0) = false := by simp
  have d2 : decide (s[i + 1].toNat < lo (bt s i)) = false := by simp; omega
  have d3 : decide (Pub.hi (bt s i) < s[i + 1].toNat) = false := by simp; omega
  rcases h2 with rfl | rfl | rfl
  · have hn' : (2 : Int) ≤ (s.size : Int) - i := by omega
    have d1 : decide ((s.size : Int) - i < 2) = false := by simp; omega
    go_enter Tryz.func144, Tryz.ntmps144
    go_wp2_with (first | (go_at_call 196; rw [hbt.out]; refine (width_any _ hb _).mono ?_; rw [hw'.out]; rintro e w' ⟨rfl, rfl⟩) | (go_at_call 197; rw [hbt.out]; refine (second_any _ hb _).mono ?_; rintro e w' ⟨rfl, rfl⟩))
    go_quiet (fail)
    go_wp2
    go_loop [4, 71] (fun c k => ∃ j : Nat, j ≤ 2 - 1 ∧ k = .int .i64 j ∧ c = .int .i64 (acc s i (2 ^ (7 - 2)) j) ∧ ContTo s i j) (fun _ k => 2 - 1 - (intOf k).toNat)
    case atStart => exact ⟨0, by omega, rfl, congrArg (Value.int .i64) (by rw [hbt.out]; exact i64_and_mask _ 5 hb (by decide)), fun k hk => absurd hk (by omega)⟩
    case round =>
      obtain ⟨j, hj, rfl, rfl, hc⟩ := hrel
      have ha := acc_lt s i (2 ^ (7 - 2)) j (by decide) (by decide) (by omega)
      generalize hacc : acc s i (2 ^ (7 - 2)) j = a at *
      have Hacc := Lib.hid hacc
      clear hacc
      by_cases hlast : j < 2 - 1
      · have hij : i + 1 + j < s.size := by omega
        have hlj : ((s[i + 1 + j].toNat : Nat) : Int) < 256 := by rw [get_bt s _ hij]; have := bt_lt s (i + 1 + j); omega
        by_cases hcont : 128 ≤ bt s (i + 1 + j) ∧ bt s (i + 1 + j) ≤ 191
        · have q1 : decide (((s[i + 1 + j].toNat : Nat) : Int) < 128) = false := by rw [get_bt s _ hij]; simp; omega
          have q2 : decide (191 < ((s[i + 1 + j].toNat : Nat) : Int)) = false := by rw [get_bt s _ hij]; simp; omega
          go_wp2
          go_round
          case rel =>
            refine ⟨j + 1, by omega, by go_num, congrArg (Value.int .i64) ?_, fun k hk => ?_⟩
            · rw [bt_int s _ hij, byte_mod, i64_or_low _ _ ha (Nat.mod_lt _ (by decide)), ← Hacc.out]
              rfl
            · by_cases hk' : k < j
              · exact hc k hk'
              · obtain rfl : k = j := by omega
                exact hcont
          case measure => simp [intOf]; omega
        · have hb' := Hbad.out j (by omega) (by omega)
          by_cases q1 : bt s (i + 1 + j) < 128
          · have q1' : ((s[i + 1 + j].toNat : Nat) : Int) < 128 := by rw [get_bt s _ hij]; omega
            clear hb' q1 hcont
            go_wp2
            go_ret2
            exact pair_mk (by rw [Hbad.out j (by omega) (by have := get_bt s _ hij; omega)]; rfl) (by rw [Hbad.out j (by omega) (by have := get_bt s _ hij; omega)]; rfl)
          · have q1' : 128 ≤ ((s[i + 1 + j].toNat : Nat) : Int) := by rw [get_bt s _ hij]; omega
            have q2' : 191 < ((s[i + 1 + j].toNat : Nat) : Int) := by rw [get_bt s _ hij]; omega
            clear hb' q1 hcont
            go_wp2
            go_ret2
            exact pair_mk (by rw [Hbad.out j (by omega) (by have := get_bt s _ hij; omega)]; rfl) (by rw [Hbad.out j (by omega) (by have := get_bt s _ hij; omega)]; rfl)
      · obtain rfl : j = 2 - 1 := by omega
        go_wp2
        go_ret2
        exact pair_mk (by rw [Hgood.out hc, Hacc.out]) (by rw [Hgood.out hc]; rfl)
  · have hn' : (3 : Int) ≤ (s.size : Int) - i := by omega
    have d1 : decide ((s.size : Int) - i < 3) = false := by simp; omega
    go_enter Tryz.func144, Tryz.ntmps144
    go_wp2_with (first | (go_at_call 196; rw [hbt.out]; refine (width_any _ hb _).mono ?_; rw [hw'.out]; rintro e w' ⟨rfl, rfl⟩) | (go_at_call 197; rw [hbt.out]; refine (second_any _ hb _).mono ?_; rintro e w' ⟨rfl, rfl⟩))
    go_quiet (fail)
    go_wp2
    go_loop [4, 71] (fun c k => ∃ j : Nat, j ≤ 3 - 1 ∧ k = .int .i64 j ∧ c = .int .i64 (acc s i (2 ^ (7 - 3)) j) ∧ ContTo s i j) (fun _ k => 3 - 1 - (intOf k).toNat)
    case atStart => exact ⟨0, by omega, rfl, congrArg (Value.int .i64) (by rw [hbt.out]; exact i64_and_mask _ 4 hb (by decide)), fun k hk => absurd hk (by omega)⟩
    case round =>
      obtain ⟨j, hj, rfl, rfl, hc⟩ := hrel
      have ha := acc_lt s i (2 ^ (7 - 3)) j (by decide) (by decide) (by omega)
      generalize hacc : acc s i (2 ^ (7 - 3)) j = a at *
      have Hacc := Lib.hid hacc
      clear hacc
      by_cases hlast : j < 3 - 1
      · have hij : i + 1 + j < s.size := by omega
        have hlj : ((s[i + 1 + j].toNat : Nat) : Int) < 256 := by rw [get_bt s _ hij]; have := bt_lt s (i + 1 + j); omega
        by_cases hcont : 128 ≤ bt s (i + 1 + j) ∧ bt s (i + 1 + j) ≤ 191
        · have q1 : decide (((s[i + 1 + j].toNat : Nat) : Int) < 128) = false := by rw [get_bt s _ hij]; simp; omega
          have q2 : decide (191 < ((s[i + 1 + j].toNat : Nat) : Int)) = false := by rw [get_bt s _ hij]; simp; omega
          go_wp2
          go_round
          case rel =>
            refine ⟨j + 1, by omega, by go_num, congrArg (Value.int .i64) ?_, fun k hk => ?_⟩
            · rw [bt_int s _ hij, byte_mod, i64_or_low _ _ ha (Nat.mod_lt _ (by decide)), ← Hacc.out]
              rfl
            · by_cases hk' : k < j
              · exact hc k hk'
              · obtain rfl : k = j := by omega
                exact hcont
          case measure => simp [intOf]; omega
        · have hb' := Hbad.out j (by omega) (by omega)
          by_cases q1 : bt s (i + 1 + j) < 128
          · have q1' : ((s[i + 1 + j].toNat : Nat) : Int) < 128 := by rw [get_bt s _ hij]; omega
            clear hb' q1 hcont
            go_wp2
            go_ret2
            exact pair_mk (by rw [Hbad.out j (by omega) (by have := get_bt s _ hij; omega)]; rfl) (by rw [Hbad.out j (by omega) (by have := get_bt s _ hij; omega)]; rfl)
          · have q1' : 128 ≤ ((s[i + 1 + j].toNat : Nat) : Int) := by rw [get_bt s _ hij]; omega
            have q2' : 191 < ((s[i + 1 + j].toNat : Nat) : Int) := by rw [get_bt s _ hij]; omega
            clear hb' q1 hcont
            go_wp2
            go_ret2
            exact pair_mk (by rw [Hbad.out j (by omega) (by have := get_bt s _ hij; omega)]; rfl) (by rw [Hbad.out j (by omega) (by have := get_bt s _ hij; omega)]; rfl)
      · obtain rfl : j = 3 - 1 := by omega
        go_wp2
        go_ret2
        exact pair_mk (by rw [Hgood.out hc, Hacc.out]) (by rw [Hgood.out hc]; rfl)
  · have hn' : (4 : Int) ≤ (s.size : Int) - i := by omega
    have d1 : decide ((s.size : Int) - i < 4) = false := by simp; omega
    go_enter Tryz.func144, Tryz.ntmps144
    go_wp2_with (first | (go_at_call 196; rw [hbt.out]; refine (width_any _ hb _).mono ?_; rw [hw'.out]; rintro e w' ⟨rfl, rfl⟩) | (go_at_call 197; rw [hbt.out]; refine (second_any _ hb _).mono ?_; rintro e w' ⟨rfl, rfl⟩))
    go_quiet (fail)
    go_wp2
    go_loop [4, 71] (fun c k => ∃ j : Nat, j ≤ 4 - 1 ∧ k = .int .i64 j ∧ c = .int .i64 (acc s i (2 ^ (7 - 4)) j) ∧ ContTo s i j) (fun _ k => 4 - 1 - (intOf k).toNat)
    case atStart => exact ⟨0, by omega, rfl, congrArg (Value.int .i64) (by rw [hbt.out]; exact i64_and_mask _ 3 hb (by decide)), fun k hk => absurd hk (by omega)⟩
    case round =>
      obtain ⟨j, hj, rfl, rfl, hc⟩ := hrel
      have ha := acc_lt s i (2 ^ (7 - 4)) j (by decide) (by decide) (by omega)
      generalize hacc : acc s i (2 ^ (7 - 4)) j = a at *
      have Hacc := Lib.hid hacc
      clear hacc
      by_cases hlast : j < 4 - 1
      · have hij : i + 1 + j < s.size := by omega
        have hlj : ((s[i + 1 + j].toNat : Nat) : Int) < 256 := by rw [get_bt s _ hij]; have := bt_lt s (i + 1 + j); omega
        by_cases hcont : 128 ≤ bt s (i + 1 + j) ∧ bt s (i + 1 + j) ≤ 191
        · have q1 : decide (((s[i + 1 + j].toNat : Nat) : Int) < 128) = false := by rw [get_bt s _ hij]; simp; omega
          have q2 : decide (191 < ((s[i + 1 + j].toNat : Nat) : Int)) = false := by rw [get_bt s _ hij]; simp; omega
          go_wp2
          go_round
          case rel =>
            refine ⟨j + 1, by omega, by go_num, congrArg (Value.int .i64) ?_, fun k hk => ?_⟩
            · rw [bt_int s _ hij, byte_mod, i64_or_low _ _ ha (Nat.mod_lt _ (by decide)), ← Hacc.out]
              rfl
            · by_cases hk' : k < j
              · exact hc k hk'
              · obtain rfl : k = j := by omega
                exact hcont
          case measure => simp [intOf]; omega
        · have hb' := Hbad.out j (by omega) (by omega)
          by_cases q1 : bt s (i + 1 + j) < 128
          · have q1' : ((s[i + 1 + j].toNat : Nat) : Int) < 128 := by rw [get_bt s _ hij]; omega
            clear hb' q1 hcont
            go_wp2
            go_ret2
            exact pair_mk (by rw [Hbad.out j (by omega) (by have := get_bt s _ hij; omega)]; rfl) (by rw [Hbad.out j (by omega) (by have := get_bt s _ hij; omega)]; rfl)
          · have q1' : 128 ≤ ((s[i + 1 + j].toNat : Nat) : Int) := by rw [get_bt s _ hij]; omega
            have q2' : 191 < ((s[i + 1 + j].toNat : Nat) : Int) := by rw [get_bt s _ hij]; omega
            clear hb' q1 hcont
            go_wp2
            go_ret2
            exact pair_mk (by rw [Hbad.out j (by omega) (by have := get_bt s _ hij; omega)]; rfl) (by rw [Hbad.out j (by omega) (by have := get_bt s _ hij; omega)]; rfl)
      · obtain rfl : j = 4 - 1 := by omega
        go_wp2
        go_ret2
        exact pair_mk (by rw [Hgood.out hc, Hacc.out]) (by rw [Hgood.out hc]; rfl)

end Go.Proofs.YtpoafhgbhnblmaaGreatDoor
namespace Go.Pub
open Go.RowKit
theorem ret_int {k : IntKind} {a b : Int} (h : a = b) : Ending.returned (.int k a) = .returned (.int k b) := by rw [h]
theorem ret_bool {a b : Bool} (h : a = b) : Ending.returned (.bool a) = .returned (.bool b) := by rw [h]
theorem ret_str {a b : ByteArray} (h : a = b) : Ending.returned (.string a) = .returned (.string b) := by rw [h]
theorem block_of_add (a : Addr) (n : Nat) : (a.add n).block = a.block := by unfold Addr.add; split <;> rfl
/-- The slice at A of n elements holds the cells xs and lies below block B. -/
def Reads (w : World) (B size : Nat) (A : Option Addr) (n : Nat) (xs : List Value) : Prop :=
  xs.length = n * size ∧ (0 < n → ∃ ad, A = some ad ∧ ad.block < B ∧ ∀ j u, xs[j]? = some u → w.cell? (ad.add j) = some u)
section
variable {w w' : World} {B B' size n : Nat} {A : Option Addr} {xs : List Value}
theorem Reads.none_ : Reads w B size A 0 [] := ⟨by simp, fun h => absurd h (by omega)⟩
theorem Reads.keep (h : Reads w B size A n xs) (hk : ∀ p : Addr, p.block < B → w'.cell? p = w.cell? p) : Reads w' B size A n xs :=
  ⟨h.1, fun hn => by
    obtain ⟨ad, e, hb, hc⟩ := h.2 hn
    exact ⟨ad, e, hb, fun j u hu => (hk _ (by rw [block_of_add]; exact hb)).trans (hc j u hu)⟩⟩
theorem Reads.more (h : Reads w B size A n xs) (hB : B ≤ B') : Reads w B' size A n xs :=
  ⟨h.1, fun hn => by
    obtain ⟨ad, e, hb, hc⟩ := h.2 hn
    exact ⟨ad, e, by omega, hc⟩⟩
theorem Reads.below (h : Reads w B size A n xs) (hb : Below B w w') : Reads w' B size A n xs := h.keep fun _ hp => hb.cell hp
theorem Reads.drewN (h : Reads w B size A n xs) (k : Nat) : Reads (w.drewN k) B size A n xs := h
theorem Reads.alloc (h : Reads w B size A n xs) (hB : B ≤ w.heap.size) (o : Obj) : Reads (w.alloc o) B size A n xs := h.keep fun p hp => World.cell?_alloc_lt w o p (by omega)
theorem Reads.setCell (h : Reads w B size A n xs) {p : Addr} (hB : B ≤ p.block) (u : Value) : Reads (w.setCell p u) B size A n xs :=
  h.keep fun q hq => World.cell?_setCell_other w p q u (fun e => by subst e; omega)
theorem Reads.grown (h : Reads w B size A n xs) {row : Option Nat} (hg : w.grownBy w' row) (hB : B ≤ w.heap.size) (hr : ∀ g, row = some g → B ≤ g) : Reads w' B size A n xs :=
  h.keep fun p hp => World.cell?_of_block (hg.block p.block (by omega) (fun e => by have := hr _ e.symm; omega))
theorem Reads.of_own {base : Nat} {e : TypeId} {c : Nat} (h : w.ownsRow base e size (.slice A n c) n xs) : Reads w w.heap.size size A n xs := by
  refine ⟨h.1, fun hn => ?_⟩
  obtain ⟨g, cap, hv, _, hlt⟩ := h.form hn
  have hA : A = some ⟨g, 0, none⟩ := by injection hv
  subst hA
  exact ⟨_, rfl, hlt, h.cells (g := g) rfl⟩
end
/-- An owned row's value is a slice. -/
theorem own_slice {w : World} {base size n : Nat} {e : TypeId} {v : Value} {xs : List Value} (h : w.ownsRow base e size v n xs) : ∃ A c, v = .slice A n c := by
  rcases h.2 with ⟨rfl, rfl⟩ | ⟨g, cap, cur, rfl, _⟩
  · exact ⟨none, 0, by have := h.1; rfl⟩
  · exact ⟨_, _, rfl⟩
theorem below_drewN {B : Nat} {a w : World} (h : Below B a w) (n : Nat) : Below B a (w.drewN n) := ⟨h.os, h.tape, h.output, h.size, h.block⟩
theorem grown_of_below {a w : World} (h : Below a.heap.size a w) (row : Option Nat) : a.grownBy w row := ⟨h.os, h.tape, h.output, h.size, fun i hi _ => h.block i hi⟩
theorem own_below {w w' : World} {base size n : Nat} {e : TypeId} {v : Value} {xs : List Value} (h : w.ownsRow base e size v n xs) (hb : Below w.heap.size w w') : w'.ownsRow base e size v n xs := by
  by_cases hv : v.ownBlock = none
  · exact h.kept (grown_of_below hb none) (.inl hv)
  · exact h.kept (grown_of_below hb none) (.inr hv)
end Go.Pub
namespace Go.Pub
def digitB (c : Int) : Bool := decide (48 ≤ c) && decide (c ≤ 57)
def inB (c : Int) (l : List (Int × Int)) : Bool := l.any fun r => decide (r.1 ≤ c) && decide (c ≤ r.2)
def punctL : List (Int × Int) := [(33, 47), (58, 64), (91, 96), (123, 126), (161, 169), (171, 180), (182, 185), (187, 191), (215, 215), (247, 247), (8208, 8231), (8240, 8286), (12289, 12291)]
def letterL : List (Int × Int) := [(65, 90), (97, 122), (170, 170), (181, 181), (186, 186), (192, 214), (216, 246), (248, 687), (880, 1327), (4256, 4351), (7680, 8191), (12353, 12538), (19968, 40959), (44032, 55203)]
end Go.Pub
namespace Go.Proofs.YtpoafhgbhnblmaaGreatDoor
open Go.RowKit Go.Pub
theorem wd_cases (b : Nat) : wd b = 0 ∨ (wd b = 1 ∧ b < 128) ∨ wd b = 2 ∨ wd b = 3 ∨ wd b = 4 := by
  unfold wd; (repeat' split) <;> simp_all
theorem next_any (s : ByteArray) (i : Int) (w : World) (hs : s.size ≤ 9223372036854775807) :
    Calls Tryz.prog 144 #[.string s, .int .i64 i] w (PairQuiet (nextAt s i).1 (nextAt s i).2 w) := by
  by_cases h : 0 ≤ i ∧ i < s.size
  · obtain ⟨k, rfl⟩ := Int.eq_ofNat_of_zero_le h.1
    have hk : k < s.size := by omega
    rw [nextAt_in s k hk]
    by_cases c0 : wd (bt s k) = 0
    · rw [dec_bad_width s k c0]; exact next_bad s k w hs hk (.inl c0)
    by_cases c1 : bt s k < 128
    · rw [dec_one s k c1]; exact next_one s k w hs hk c1
    have hw : wd (bt s k) = 2 ∨ wd (bt s k) = 3 ∨ wd (bt s k) = 4 := by
      rcases wd_cases (bt s k) with h | h | h
      · exact absurd h c0
      · exact absurd h.2 c1
      · exact h
    by_cases c2 : s.size - k < wd (bt s k)
    · rw [dec_short s k hk (by omega) c2]; exact next_bad s k w hs hk (.inr c2)
    by_cases c3 : bt s (k + 1) < lo (bt s k) ∨ Pub.hi (bt s k) < bt s (k + 1)
    · rw [dec_second s k (by omega) c3]; exact next_second s k w hs hk (by omega) (by omega) c3
    · exact next_more s k (wd (bt s k)) w hs hk rfl hw (by omega) (by omega) (by omega)
  · rw [nextAt_out s i h]; exact next_out s i w hs h
set_option maxRecDepth 100000 in
set_option maxHeartbeats 400000 in
theorem space_any (c : Int) (w : World) : Calls Tryz.prog 157 #[.int .i64 c] w fun e w' => e = .returned (.bool (spaceB c)) ∧ w = w' := by
  have H : Hid (spaceB c = (c == 32 || c == 10)) := Lib.hid rfl
  generalize spaceB c = b at *
  go_enter Tryz.func157, Tryz.ntmps157
  go_wp2
  all_goals
    go_ret
    exact ⟨ret_bool (by rw [H.out] <;> simp_all), rfl⟩

set_option maxRecDepth 100000 in
set_option maxHeartbeats 400000 in
theorem digit_any (c : Int) (w : World) : Calls Tryz.prog 101 #[.int .i64 c] w fun e w' => e = .returned (.bool (digitB c)) ∧ w = w' := by
  have H : Hid (digitB c = (decide (48 ≤ c) && decide (c ≤ 57))) := Lib.hid rfl
  generalize digitB c = b at *
  by_cases h : 48 ≤ c
  all_goals
    go_enter Tryz.func101, Tryz.ntmps101
    go_wp2
  all_goals
    go_ret
    exact ⟨ret_bool (by rw [H.out]; first | rfl | (simp; omega)), rfl⟩

set_option maxRecDepth 100000 in
set_option maxHeartbeats 400000 in
theorem unclean_any (c : Int) (w : World) : Calls Tryz.prog 145 #[.int .i64 c] w fun e w' => e = .returned (.bool (uncleanB c)) ∧ w = w' := by
  have H : Hid (uncleanB c = ((decide (c < 32) && c != 10) || c == 127)) := Lib.hid rfl
  generalize uncleanB c = b at *
  by_cases h : c < 32
  · by_cases h2 : c = 10
    · subst h2
      go_enter Tryz.func145, Tryz.ntmps145
      go_wp2
      go_ret
      exact ⟨ret_bool (by rw [H.out]; rfl), rfl⟩
    · have h3 : (c != 10) = true := by simpa using h2
      clear h2
      go_enter Tryz.func145, Tryz.ntmps145
      go_wp2
      go_ret
      exact ⟨ret_bool (by rw [H.out, h3]; simp [h]), rfl⟩
  · go_enter Tryz.func145, Tryz.ntmps145
    go_wp2
    go_ret
    exact ⟨ret_bool (by rw [H.out]; simp [show ¬ c < 32 by omega]), rfl⟩

set_option maxRecDepth 100000 in
set_option maxHeartbeats 2000000 in
theorem lower_any (c : Int) (w : World) : Calls Tryz.prog 161 #[.int .i64 c] w fun e w' => e = .returned (.int .i64 (lowerZ c)) ∧ w = w' := by
  have H : Hid (lowerZ c = if (65 ≤ c ∧ c ≤ 90) ∨ (192 ≤ c ∧ c ≤ 222 ∧ c ≠ 215) ∨ (913 ≤ c ∧ c ≤ 939 ∧ c ≠ 930) ∨ (1040 ≤ c ∧ c ≤ 1071) then c + 32 else if 1024 ≤ c ∧ c ≤ 1039 then c + 80 else c) := Lib.hid rfl
  generalize lowerZ c = b at *
  go_enter Tryz.func161, Tryz.ntmps161
  go_wp2
  all_goals
    go_ret
    refine ⟨ret_int ?_, rfl⟩
    rw [H.out]
    try simp only [beq_iff_eq, bne_iff_ne, beq_eq_false_iff_ne, bne_eq_false_iff_eq, ne_eq] at *
    (repeat' split) <;> omega

end Go.Proofs.YtpoafhgbhnblmaaGreatDoor
namespace Go.Proofs.YtpoafhgbhnblmaaGreatDoor
open Go.RowKit Go.Pub
/-- A code point that clean text can have. -/
def okPt (p : Nat × Nat) : Bool := !(p.1 == 65533 && p.2 == 1) && !uncleanB p.1
def validB (s : ByteArray) : Bool := (pts s).all okPt
set_option maxRecDepth 100000 in
set_option maxHeartbeats 4000000 in
theorem valid_any (s : ByteArray) (w : World) (hs : s.size < 9223372036854775800) : Calls Tryz.prog 90 #[.string s] w fun e w' => e = .returned (.bool (validB s)) ∧ Below w.heap.size w w' := by
  have HV : Hid (validB s = (pts s).all okPt) := Lib.hid rfl
  generalize validB s = V at *
  go_enter Tryz.func90, Tryz.ntmps90
  go_wp2
  go_loopw [3] (fun i wr => ∃ (pos f : Nat) (acc : List (Nat × Nat)), i = .int .i64 pos ∧ Below w.heap.size w wr ∧ acc ++ ptsFrom s f pos = pts s ∧ acc.all okPt = true ∧ s.size ≤ pos + f ∧ pos ≤ s.size) (fun i _ => s.size - (intOf i).toNat)
  case atStart =>
    exact ⟨0, s.size, [], rfl, Below.refl _ w, rfl, rfl, by omega, by omega⟩
  case round =>
    obtain ⟨pos, f, acc, rfl, hbw, hacc, hok, hf, hal⟩ := hrel
    have Hacc := Lib.hid hacc
    have Hok := Lib.hid hok
    clear hacc hok
    by_cases hp : pos < s.size
    · have hd := dec_bd s pos hp
      have HN : Hid (∀ W, Calls Tryz.prog 144 #[.string s, .int .i64 pos] W (PairQuiet (Utf8.decode s pos).1 (Utf8.decode s pos).2 W)) := Lib.hid fun W => by
        have h := next_any s pos W (by omega)
        rw [nextAt_in s pos hp] at h
        exact h
      have hall : Hid (pts s = (acc ++ [Utf8.decode s pos]) ++ ptsFrom s (f - 1) (pos + (Utf8.decode s pos).2)) := Lib.hid (by rw [← Hacc.out, ptsFrom_step s f pos hp hf]; simp)
      have hokp : Hid (okPt (Utf8.decode s pos) = (!((Utf8.decode s pos).1 == 65533 && (Utf8.decode s pos).2 == 1) && !uncleanB (Utf8.decode s pos).1)) := Lib.hid rfl
      generalize Utf8.decode s pos = D at *
      have fals : okPt D = false → V = false := fun h => by rw [HV.out, hall.out]; simp [h]
      have Hfals := Lib.hid fals
      clear fals
      by_cases c1 : ((D.1 : Int) == 65533) = true
      · by_cases c2 : ((D.2 : Int) == 1) = true
        · have hv : okPt D = false := by rw [hokp.out]; simp at c1 c2; simp; omega
          have Hv := Lib.hid hv
          clear hv
          go_wp2_with (go_at_call 144; refine (HN.out _).mono ?_; rintro e w' ⟨rfl, kq, rfl⟩)
          go_ret
          exact ⟨ret_bool (Hfals.out Hv.out).symm, below_drewN hbw _⟩
        · rw [Bool.not_eq_true] at c2
          by_cases c3 : uncleanB D.1 = true
          · have Hv : Hid (okPt D = false) := Lib.hid (by rw [hokp.out, c3]; simp)
            go_wp2_with (first | (go_at_call 144; refine (HN.out _).mono ?_; rintro e w' ⟨rfl, kq, rfl⟩) | (go_at_call 145; refine (unclean_any _ _).mono ?_; rintro e w' ⟨rfl, rfl⟩))
            go_ret
            exact ⟨ret_bool (Hfals.out Hv.out).symm, below_drewN hbw _⟩
          · rw [Bool.not_eq_true] at c3
            have Hv : Hid (okPt D = true) := Lib.hid (by rw [hokp.out, c3]; simp at c1 c2; simp; omega)
            go_wp2_with (first | (go_at_call 144; refine (HN.out _).mono ?_; rintro e w' ⟨rfl, kq, rfl⟩) | (go_at_call 145; refine (unclean_any _ _).mono ?_; rintro e w' ⟨rfl, rfl⟩))
            go_roundw
            case rel => exact ⟨pos + D.2, f - 1, acc ++ [D], by go_num, below_drewN hbw _, hall.out.symm, by rw [List.all_append, Hok.out]; simp [Hv.out], by omega, by omega⟩
            case measure => simp [intOf]; omega
      · rw [Bool.not_eq_true] at c1
        by_cases c3 : uncleanB D.1 = true
        · have Hv : Hid (okPt D = false) := Lib.hid (by rw [hokp.out, c3]; simp)
          go_wp2_with (first | (go_at_call 144; refine (HN.out _).mono ?_; rintro e w' ⟨rfl, kq, rfl⟩) | (go_at_call 145; refine (unclean_any _ _).mono ?_; rintro e w' ⟨rfl, rfl⟩))
          go_ret
          exact ⟨ret_bool (Hfals.out Hv.out).symm, below_drewN hbw _⟩
        · rw [Bool.not_eq_true] at c3
          have Hv : Hid (okPt D = true) := Lib.hid (by rw [hokp.out, c3]; simp at c1; simp; omega)
          go_wp2_with (first | (go_at_call 144; refine (HN.out _).mono ?_; rintro e w' ⟨rfl, kq, rfl⟩) | (go_at_call 145; refine (unclean_any _ _).mono ?_; rintro e w' ⟨rfl, rfl⟩))
          go_roundw
          case rel => exact ⟨pos + D.2, f - 1, acc ++ [D], by go_num, below_drewN hbw _, hall.out.symm, by rw [List.all_append, Hok.out]; simp [Hv.out], by omega, by omega⟩
          case measure => simp [intOf]; omega
    · have hv : V = true := by rw [HV.out, ← Hacc.out, ptsFrom_end s f pos hp, List.append_nil]; exact Hok.out
      have Hv := Lib.hid hv
      clear hv
      go_wp2
      go_ret
      exact ⟨ret_bool Hv.out.symm, hbw⟩

end Go.Proofs.YtpoafhgbhnblmaaGreatDoor
namespace Go.Pub
open Go.Proofs.YtpoafhgbhnblmaaGreatDoor
def enc (c : Nat) : List UInt8 := encL (c : Int)
/-- The code points that Fold writes, if a gap is pending and something has been written. -/
def low (c : Nat) : Nat := (lowerZ c).toNat
/-- The code points, put together. -/
def again (s : ByteArray) : ByteArray := mk (((pts s).map (·.1)).flatMap enc)
end Go.Pub
namespace Go.Pub
/-- ASCII punctuation. -/
def puncB (b : UInt8) : Bool := decide (b.toNat < 128) && inB (b.toNat : Int) punctL
/-- An escape begins at the list's head. -/
def escH : List UInt8 → Bool
  | [] => false
  | [_] => false
  | c :: d :: _ => c == 92 && puncB d
/-- The text without its escapes' backslashes. -/
def unescL : List UInt8 → List UInt8
  | [] => []
  | c :: l => if escH (c :: l) then (match l with | [] => [] | d :: l' => d :: unescL l') else c :: unescL l
/-- The offset of the first unescaped byte 'stop', if neither an unescaped 'wo' nor a line feed stands ahead of it. -/
def scanL (stop wo : UInt8) : List UInt8 → Option Nat
  | [] => none
  | c :: l => if c = stop then some 0 else if c = wo ∨ c = 10 then none
      else if escH (c :: l) then (match l with | [] => none | _ :: l' => (scanL stop wo l').map (· + 2))
      else (scanL stop wo l).map (· + 1)
/-- The length of a plain destination, of which some parentheses are open. -/
def destL : Nat → List UInt8 → Option Nat
  | o, [] => if o = 0 then some 0 else none
  | o, c :: l => if c = 32 ∨ c = 10 ∨ (c = 41 ∧ o = 0) then (if o = 0 then some 0 else none)
      else if escH (c :: l) then (match l with | [] => none | _ :: l' => (destL o l').map (· + 2))
      else if c = 40 then (if 8 ≤ o then none else (destL (o + 1) l).map (· + 1))
      else if c = 41 then (destL (o - 1) l).map (· + 1)
      else (destL o l).map (· + 1)
/-- An escape begins at the byte k. -/
def escAt (s : ByteArray) (k : Nat) : Bool := escH (sfx s k)
theorem escAt_end (s : ByteArray) (k : Nat) (h : s.size ≤ k + 1) : escAt s k = false := by
  unfold escAt
  by_cases hk : k < s.size
  · rw [sfx_cons s k hk, sfx_nil s (k + 1) h]; rfl
  · rw [sfx_nil s k (by omega)]; rfl
theorem escAt_in (s : ByteArray) (k : Nat) (h : k + 1 < s.size) : escAt s k = (decide (bt s k = 92) && (decide (bt s (k + 1) < 128) && inB (bt s (k + 1) : Int) punctL)) := by
  unfold escAt
  rw [sfx_cons s k (by omega), sfx_cons s (k + 1) h]
  show (s.get! k == 92 && puncB (s.get! (k + 1))) = _
  have e : (s.get! k == (92 : UInt8)) = decide (bt s k = 92) := by
    rw [Bool.eq_iff_iff]; simp only [beq_iff_eq, decide_eq_true_eq]
    exact u8_nat (s.get! k) 92 (by decide)
  rw [e]; rfl
theorem escAt_lt {s : ByteArray} {k : Nat} (h : escAt s k = true) : k + 1 < s.size ∧ bt s k = 92 := by
  by_cases hk : k + 1 < s.size
  · rw [escAt_in s k hk] at h
    simp only [Bool.and_eq_true, decide_eq_true_eq] at h
    exact ⟨hk, h.1⟩
  · rw [escAt_end s k (by omega)] at h; simp at h
/-- Where the scan from the byte k ends. -/
def scanA (s : ByteArray) (stop wo : Nat) (k : Nat) : Option Nat := (scanL (UInt8.ofNat stop) (UInt8.ofNat wo) (sfx s k)).map (· + k)
theorem scanA_end (s : ByteArray) (a b k : Nat) (h : s.size ≤ k) : scanA s a b k = none := by unfold scanA; rw [sfx_nil s k h]; rfl
theorem scanL_cons (a b c : UInt8) (l : List UInt8) : scanL a b (c :: l) = if c = a then some 0 else if c = b ∨ c = 10 then none
      else if escH (c :: l) then (match l with | [] => none | _ :: l' => (scanL a b l').map (· + 2))
      else (scanL a b l).map (· + 1) := by cases l <;> rfl
theorem g40 (s : ByteArray) (k : Nat) : s.get! k = 40 ↔ bt s k = 40 := bt_u8 s k 40 (by decide)
theorem g41 (s : ByteArray) (k : Nat) : s.get! k = 41 ↔ bt s k = 41 := bt_u8 s k 41 (by decide)
theorem scanA_stop (s : ByteArray) (a b k : Nat) (h : k < s.size) (ha : a < 256) (hc : bt s k = a) : scanA s a b k = some k := by
  unfold scanA
  rw [sfx_cons s k h, scanL_cons, if_pos ((bt_u8 s k a ha).2 hc)]; simp
theorem scanA_bad (s : ByteArray) (a b k : Nat) (h : k < s.size) (ha : a < 256) (hb : b < 256) (hc : bt s k ≠ a) (hd : bt s k = b ∨ bt s k = 10) : scanA s a b k = none := by
  unfold scanA
  rw [sfx_cons s k h, scanL_cons, if_neg (fun e => hc ((bt_u8 s k a ha).1 e)), if_pos (hd.imp (bt_u8 s k b hb).2 (g10 s k).2)]; rfl
theorem scanA_esc (s : ByteArray) (a b k : Nat) (ha : a < 256) (hb : b < 256) (ha' : a ≠ 92) (hb' : b ≠ 92) (he : escAt s k = true) : scanA s a b k = scanA s a b (k + 2) := by
  obtain ⟨h1, h2⟩ := escAt_lt he
  unfold escAt at he
  unfold scanA
  rw [sfx_cons s k (by omega), sfx_cons s (k + 1) h1] at he ⊢
  rw [scanL_cons, if_neg (fun e => by have := (bt_u8 s k a ha).1 e; omega), if_neg, if_pos he]
  · simp only [Option.map_map]; congr 1; funext x; simp; omega
  · rintro (e | e)
    · have := (bt_u8 s k b hb).1 e; omega
    · have := (g10 s k).1 e; omega
theorem scanA_step (s : ByteArray) (a b k : Nat) (h : k < s.size) (ha : a < 256) (hb : b < 256) (hc : bt s k ≠ a) (hd : bt s k ≠ b) (hl : bt s k ≠ 10) (he : escAt s k = false) : scanA s a b k = scanA s a b (k + 1) := by
  unfold escAt at he
  unfold scanA
  rw [sfx_cons s k h] at he ⊢
  rw [scanL_cons, if_neg (fun e => hc ((bt_u8 s k a ha).1 e)), if_neg, if_neg (by rw [he]; simp)]
  · simp only [Option.map_map]; congr 1; funext x; simp; omega
  · rintro (e | e)
    · exact hd ((bt_u8 s k b hb).1 e)
    · exact hl ((g10 s k).1 e)
/-- Where the plain destination ends, if it does. -/
def destA (s : ByteArray) (o k : Nat) : Option Nat := (destL o (sfx s k)).map (· + k)
theorem destL_cons (o : Nat) (c : UInt8) (l : List UInt8) : destL o (c :: l) = if c = 32 ∨ c = 10 ∨ (c = 41 ∧ o = 0) then (if o = 0 then some 0 else none)
      else if escH (c :: l) then (match l with | [] => none | _ :: l' => (destL o l').map (· + 2))
      else if c = 40 then (if 8 ≤ o then none else (destL (o + 1) l).map (· + 1))
      else if c = 41 then (destL (o - 1) l).map (· + 1)
      else (destL o l).map (· + 1) := by cases l <;> rfl
theorem destA_end (s : ByteArray) (o k : Nat) (h : s.size ≤ k) : destA s o k = if o = 0 then some k else none := by
  unfold destA; rw [sfx_nil s k h]; unfold destL; split <;> simp
/-- The byte at k ends a plain destination. -/
def dstop (s : ByteArray) (o k : Nat) : Prop := bt s k = 32 ∨ bt s k = 10 ∨ (bt s k = 41 ∧ o = 0)
theorem dstop_iff (s : ByteArray) (o k : Nat) : (s.get! k = 32 ∨ s.get! k = 10 ∨ (s.get! k = 41 ∧ o = 0)) ↔ dstop s o k := by
  have h1 : s.get! k = 32 ↔ bt s k = 32 := bt_u8 s k 32 (by decide)
  have h2 := g10 s k
  have h3 := g41 s k
  unfold dstop
  rw [h1, h2, h3]
theorem destA_stop (s : ByteArray) (o k : Nat) (h : k < s.size) (hc : dstop s o k) : destA s o k = if o = 0 then some k else none := by
  unfold destA
  rw [sfx_cons s k h, destL_cons, if_pos ((dstop_iff s o k).2 hc)]; split <;> simp
theorem destA_esc (s : ByteArray) (o k : Nat) (he : escAt s k = true) : destA s o k = destA s o (k + 2) := by
  obtain ⟨h1, h2⟩ := escAt_lt he
  unfold escAt at he
  unfold destA
  have hn : ¬ dstop s o k := by unfold dstop; omega
  rw [← dstop_iff] at hn
  rw [sfx_cons s k (by omega), sfx_cons s (k + 1) h1] at he ⊢
  rw [destL_cons, if_neg hn, if_pos he]
  simp only [Option.map_map]; congr 1; funext x; simp; omega
theorem destA_open (s : ByteArray) (o k : Nat) (h : k < s.size) (hc : bt s k = 40) : destA s o k = if 8 ≤ o then none else destA s (o + 1) (k + 1) := by
  have he : escAt s k = false := by
    rw [Bool.eq_false_iff]; intro e; have := (escAt_lt e).2; omega
  have hn : ¬ dstop s o k := by unfold dstop; omega
  rw [← dstop_iff] at hn
  unfold escAt at he
  unfold destA
  rw [sfx_cons s k h] at he ⊢
  rw [destL_cons, if_neg hn, if_neg (by rw [he]; simp), if_pos ((g40 s k).2 hc)]
  split
  · rfl
  · simp only [Option.map_map]; congr 1; funext x; simp; omega
theorem destA_close (s : ByteArray) (o k : Nat) (h : k < s.size) (hc : bt s k = 41) (ho : 0 < o) : destA s o k = destA s (o - 1) (k + 1) := by
  have he : escAt s k = false := by
    rw [Bool.eq_false_iff]; intro e; have := (escAt_lt e).2; omega
  have hn : ¬ dstop s o k := by unfold dstop; omega
  rw [← dstop_iff] at hn
  unfold escAt at he
  unfold destA
  rw [sfx_cons s k h] at he ⊢
  rw [destL_cons, if_neg hn, if_neg (by rw [he]; simp), if_neg (fun e => by have := (g40 s k).1 e; omega), if_pos ((g41 s k).2 hc)]
  simp only [Option.map_map]; congr 1; funext x; simp; omega
theorem destA_step (s : ByteArray) (o k : Nat) (h : k < s.size) (hs : ¬ dstop s o k) (he : escAt s k = false) (h0 : bt s k ≠ 40) (h1 : bt s k ≠ 41) : destA s o k = destA s o (k + 1) := by
  rw [← dstop_iff] at hs
  unfold escAt at he
  unfold destA
  rw [sfx_cons s k h] at he ⊢
  rw [destL_cons, if_neg hs, if_neg (by rw [he]; simp), if_neg (fun e => h0 ((g40 s k).1 e)), if_neg (fun e => h1 ((g41 s k).1 e))]
  simp only [Option.map_map]; congr 1; funext x; simp; omega
/-- What is read between two bytes: the text and the byte after it. -/
def betw (s : ByteArray) (i stop wo : Nat) : Option (List UInt8 × Nat) := (scanA s stop wo (i + 1)).map fun k => (unescL (sub s (i + 1) k), k + 1)
/-- The destination at a byte. -/
def destR (s : ByteArray) (i : Int) : Option (List UInt8 × Nat) :=
  if 0 ≤ i ∧ i < s.size then
    if bt s i.toNat = 60 then betw s i.toNat 62 60
    else (destA s 0 i.toNat).bind fun k => if k = i.toNat then none else some (unescL (sub s i.toNat k), k)
  else none
/-- The title at a byte. -/
def titleR (s : ByteArray) (i : Int) : Option (List UInt8 × Nat) :=
  if 0 ≤ i ∧ i < s.size then
    if bt s i.toNat = 34 then betw s i.toNat 34 34 else if bt s i.toNat = 39 then betw s i.toNat 39 39 else none
  else none
theorem unescL_len : ∀ (n : Nat) (l : List UInt8), l.length ≤ n → (unescL l).length ≤ l.length
  | 0, l, h => by cases l with
    | nil => simp [unescL]
    | cons c l => simp at h
  | n + 1, [], _ => by simp [unescL]
  | n + 1, c :: l, h => by
    unfold unescL
    split
    · cases l with
      | nil => simp
      | cons d l' =>
        have := unescL_len n l' (by simp at h; omega)
        simp; omega
    · have := unescL_len n l (by simp at h; omega)
      simp; omega
theorem scanL_lt (a b : UInt8) : ∀ (n : Nat) (l : List UInt8), l.length ≤ n → ∀ k, scanL a b l = some k → k < l.length
  | 0, l, h, k, hk => by cases l with
    | nil => simp [scanL] at hk
    | cons c l => simp at h
  | n + 1, [], _, k, hk => by simp [scanL] at hk
  | n + 1, c :: l, h, k, hk => by
    rw [scanL_cons] at hk
    split at hk
    · simp at hk; subst hk; simp
    · split at hk
      · simp at hk
      · split at hk
        · cases l with
          | nil => simp at hk
          | cons d l' =>
            simp only [Option.map_eq_some_iff] at hk
            obtain ⟨j, hj, rfl⟩ := hk
            have := scanL_lt a b n l' (by simp at h; omega) j hj
            simp; omega
        · simp only [Option.map_eq_some_iff] at hk
          obtain ⟨j, hj, rfl⟩ := hk
          have := scanL_lt a b n l (by simp at h; omega) j hj
          simp; omega
theorem scanA_lt {s : ByteArray} {a b i k : Nat} (h : scanA s a b i = some k) : i ≤ k ∧ k < s.size := by
  unfold scanA at h
  simp only [Option.map_eq_some_iff] at h
  obtain ⟨j, hj, rfl⟩ := h
  have := scanL_lt _ _ _ _ (Nat.le_refl _) j hj
  rw [sfx_len] at this
  omega
theorem destL_le : ∀ (n : Nat) (o : Nat) (l : List UInt8), l.length ≤ n → ∀ k, destL o l = some k → k ≤ l.length
  | 0, o, l, h, k, hk => by cases l with
    | nil => unfold destL at hk; split at hk <;> simp_all
    | cons c l => simp at h
  | n + 1, o, [], _, k, hk => by unfold destL at hk; split at hk <;> simp_all
  | n + 1, o, c :: l, h, k, hk => by
    have hl : l.length ≤ n := by simp at h; omega
    rw [destL_cons] at hk
    split at hk
    · split at hk
      · simp only [Option.some.injEq] at hk; omega
      · simp at hk
    · split at hk
      · cases l with
        | nil => simp at hk
        | cons d l' =>
          simp only [Option.map_eq_some_iff] at hk
          obtain ⟨j, hj, rfl⟩ := hk
          have := destL_le n o l' (by simp at h; omega) j hj
          simp; omega
      · split at hk
        · split at hk
          · simp at hk
          · simp only [Option.map_eq_some_iff] at hk
            obtain ⟨j, hj, rfl⟩ := hk
            have := destL_le n _ l hl j hj
            simp; omega
        · split at hk
          · simp only [Option.map_eq_some_iff] at hk
            obtain ⟨j, hj, rfl⟩ := hk
            have := destL_le n _ l hl j hj
            simp; omega
          · simp only [Option.map_eq_some_iff] at hk
            obtain ⟨j, hj, rfl⟩ := hk
            have := destL_le n _ l hl j hj
            simp; omega
theorem destA_le {s : ByteArray} {o i k : Nat} (hi : i ≤ s.size) (h : destA s o i = some k) : i ≤ k ∧ k ≤ s.size := by
  unfold destA at h
  simp only [Option.map_eq_some_iff] at h
  obtain ⟨j, hj, rfl⟩ := h
  have := destL_le _ o _ (Nat.le_refl _) j hj
  rw [sfx_len] at this
  omega
theorem betw_le {s : ByteArray} {i a b : Nat} {r : List UInt8 × Nat} (h : betw s i a b = some r) : i + 1 < r.2 ∧ r.2 ≤ s.size ∧ r.1.length ≤ s.size := by
  unfold betw at h
  simp only [Option.map_eq_some_iff] at h
  obtain ⟨k, hk, rfl⟩ := h
  have := scanA_lt hk
  have h2 := unescL_len _ (sub s (i + 1) k) (Nat.le_refl _)
  have h3 := sub_len s (i + 1) k
  exact ⟨by show i + 1 < k + 1; omega, by show k + 1 ≤ _; omega, by show (unescL _).length ≤ _; omega⟩
theorem destR_le {s : ByteArray} {i : Int} {r : List UInt8 × Nat} (h : destR s i = some r) : i < r.2 ∧ r.2 ≤ s.size ∧ r.1.length ≤ s.size := by
  unfold destR at h
  split at h
  · split at h
    · have := betw_le h; omega
    · rename_i hi _
      rw [Option.bind_eq_some_iff] at h
      obtain ⟨k, hk, h⟩ := h
      have := destA_le (by omega) hk
      split at h
      · simp at h
      · simp only [Option.some.injEq] at h
        subst h
        have h2 := unescL_len _ (sub s i.toNat k) (Nat.le_refl _)
        have h3 := sub_len s i.toNat k
        exact ⟨by show i < (k : Nat); omega, by show k ≤ _; omega, by show (unescL _).length ≤ _; omega⟩
  · simp at h
theorem titleR_le {s : ByteArray} {i : Int} {r : List UInt8 × Nat} (h : titleR s i = some r) : i + 1 < r.2 ∧ r.2 ≤ s.size ∧ r.1.length ≤ s.size := by
  unfold titleR at h
  split at h
  · split at h
    · have := betw_le h; omega
    · split at h
      · have := betw_le h; omega
      · simp at h
  · simp at h
/-- A code point that labels can have. -/
def labB (c : Int) : Bool := inB c letterL || digitB c || c == 32 || c == 45 || c == 95 || c == 46 || c == 58
/-- The label that a text is, or nothing. -/
def labelL (l : List UInt8) : List UInt8 :=
  if 60 < (foldL (mk l)).length then [] else if (pts (mk (foldL (mk l)))).all fun p => labB p.1 then foldL (mk l) else []
/-- The offset of the first byte 93. -/
def brk (l : List UInt8) : Nat := l.findIdx (· == 93)
end Go.Pub
