/-
  Texts of the proof, put together: Next, Mem.
-/
import Derived.Test.YthfienjmigidbaaGreatDoorRows
import Derived.Test.YthfienjmigidbaaGreatDoorB01
import Derived.WalkKit
import Derived.WalkSpells
import Derived.WalkLawsBesides
import Derived.Deep.QuietTactic
import Derived.BigQuiet
import Derived.Lib.Hide
import Derived.Below
import Derived.Laws.OwnMore
import Derived.Deep.AppendLies
import Derived.Deep.Draws
set_option linter.unusedVariables false
set_option linter.unusedSimpArgs false
namespace Go.Proofs.YthfienjmigidbaaGreatDoor
open Go.RowKit Go.Pub

theorem i64_and_mask (a k : Nat) (ha : a < 256) (hk : k ≤ 7) : bits .and .i64 (a : Int) ((2 ^ k - 1 : Nat) : Int) = ((a % 2 ^ k : Nat) : Int) := by
  have hk' : (2 : Nat) ^ k ≤ 2 ^ 7 := Nat.pow_le_pow_right (by decide) hk
  have h := show bits .and .i64 (a : Int) ((2 ^ k - 1 : Nat) : Int) = ((a &&& (2 ^ k - 1) : Nat) : Int) by
    have o : ∀ x : Nat, x < 256 → (BitVec.ofInt 64 (x : Int)).toNat = x := fun x hx => by
      rw [BitVec.ofInt_natCast, BitVec.toNat_ofNat]; exact Nat.mod_eq_of_lt (by omega)
    show IntKind.i64.wrap ((BitVec.ofInt 64 (a : Int) &&& BitVec.ofInt 64 ((2 ^ k - 1 : Nat) : Int)).toNat : Int) = _
    have hx : a &&& (2 ^ k - 1) ≤ a := Nat.and_le_left
    rw [BitVec.toNat_and, o a ha, o _ (by omega), IntKind.wrap_i64]
    omega
  rw [h, Nat.and_two_pow_sub_one_eq_mod]

theorem byte_mod (b : Nat) : ((b : Int) % 64) = ((b % 64 : Nat) : Int) := by omega

theorem i64_or_low (a b : Nat) (ha : a < 8388608) (hb : b < 64) : bits .or .i64 ((a : Int) * 64) (b : Int) = ((a * 64 + b : Nat) : Int) := by
  have o : ∀ x : Nat, x < 9223372036854775808 → (BitVec.ofInt 64 (x : Int)).toNat = x := fun x hx => by
    rw [BitVec.ofInt_natCast, BitVec.toNat_ofNat]; exact Nat.mod_eq_of_lt (by omega)
  have e : ((a : Int) * 64) = ((a * 64 : Nat) : Int) := by omega
  rw [e]
  show IntKind.i64.wrap ((BitVec.ofInt 64 ((a * 64 : Nat) : Int) ||| BitVec.ofInt 64 (b : Int)).toNat : Int) = _
  have hor : a * 64 ||| b = a * 64 + b := by
    have := Nat.two_pow_add_eq_or_of_lt (i := 6) (b := b) (by simpa using hb) a
    rw [show (2 : Nat) ^ 6 = 64 from rfl, Nat.mul_comm 64 a] at this
    exact this.symm
  rw [BitVec.toNat_or, o _ (by omega), o b (by omega), hor, IntKind.wrap_i64]
  omega

set_option maxRecDepth 100000 in
set_option maxHeartbeats 1000000 in
theorem width_any (b : Nat) (hb : b < 256) (w : World) :
    Calls Tryz.prog 171 #[.int .u8 b] w fun e w' => e = .returned (.int .i64 (wd b)) ∧ w = w' := by
  have hb' : (b : Int) < 256 := by omega
  have HW : Hid (wd b = if b < 128 then 1 else if 194 ≤ b ∧ b ≤ 223 then 2 else if 224 ≤ b ∧ b ≤ 239 then 3 else if 240 ≤ b ∧ b ≤ 244 then 4 else 0) := Lib.hid rfl
  generalize wd b = z at *
  clear hb
  go_enter Tryz.func171, Tryz.ntmps171
  go_wp2
  all_goals
    go_ret
    have hz := HW.out
    (repeat' split at hz) <;> first | omega | (subst hz; exact ⟨rfl, rfl⟩)

set_option maxRecDepth 100000 in
set_option maxHeartbeats 1000000 in
theorem second_any (b : Nat) (hb : b < 256) (w : World) :
    Calls Tryz.prog 172 #[.int .u8 b] w fun e w' => e = .returned (.tuple #[.int .u8 (lo b), .int .u8 (hi b)]) ∧ w = w' := by
  have HW : Hid (lo b = if b = 224 then 160 else if b = 240 then 144 else 128) := Lib.hid rfl
  have HV : Hid (hi b = if b = 237 then 159 else if b = 244 then 143 else 191) := Lib.hid rfl
  generalize lo b = y at *
  generalize hi b = z at *
  go_enter Tryz.func172, Tryz.ntmps172
  go_wp2
  all_goals
    go_ret2
    have hz := HW.out
    have hy := HV.out
    refine ⟨?_, rfl⟩
    simp only [beq_iff_eq, beq_eq_false_iff_ne, ne_eq] at *
    (repeat' split at hz) <;> first | omega | ((repeat' split at hy) <;> first | omega | (subst hz hy; rfl))

def PairQuiet (c n : Int) (w : World) (e : Ending) (w' : World) : Prop := e = .returned (.tuple #[.int .i64 c, .int .i64 n]) ∧ ∃ k, w' = w.drewN k

set_option maxRecDepth 100000 in
set_option maxHeartbeats 1000000 in
theorem next_out (s : ByteArray) (i : Int) (w : World) (hs : s.size ≤ 9223372036854775807) (h : ¬ (0 ≤ i ∧ i < s.size)) :
    Calls Tryz.prog 168 #[.string s, .int .i64 i] w (PairQuiet (-1) 0 w) := by
  by_cases h0 : i < 0
  all_goals
    go_enter Tryz.func168, Tryz.ntmps168
    go_wp2
    go_ret2
    exact ⟨rfl, 0, rfl⟩

set_option maxRecDepth 100000 in
set_option maxHeartbeats 1000000 in
theorem next_bad (s : ByteArray) (i : Nat) (w : World) (hs : s.size ≤ 9223372036854775807) (hi : i < s.size) (h : wd (bt s i) = 0 ∨ s.size - i < wd (bt s i)) :
    Calls Tryz.prog 168 #[.string s, .int .i64 i] w (PairQuiet 65533 1 w) := by
  have hb := bt_lt s i
  have hbt := Lib.hid (get_bt s i hi)
  by_cases h0 : wd (bt s i) = 0
  · have hb0 : (((wd (bt s i) : Nat) : Int) == 0) = true := by rw [h0]; rfl
    clear h0 h
    go_enter Tryz.func168, Tryz.ntmps168
    go_wp2_with (go_at_call 171; rw [hbt.out]; refine (width_any _ hb _).mono ?_; rintro e w' ⟨rfl, rfl⟩)
    go_ret2
    exact ⟨rfl, 0, rfl⟩
  · have hb0 : (((wd (bt s i) : Nat) : Int) == 0) = false := by simpa using h0
    have h' : (s.size : Int) - i < (wd (bt s i) : Nat) := by omega
    clear h0 h
    go_enter Tryz.func168, Tryz.ntmps168
    go_wp2_with (go_at_call 171; rw [hbt.out]; refine (width_any _ hb _).mono ?_; rintro e w' ⟨rfl, rfl⟩)
    go_ret2
    exact ⟨rfl, 0, rfl⟩

theorem pair_mk {c n c' n' : Int} {w : World} {k : Nat} (hc : c = c') (hn : n = n') : PairQuiet c' n' w (.returned (.tuple #[.int .i64 c, .int .i64 n])) (w.drewN k) := by
  subst hc hn; exact ⟨rfl, k, rfl⟩

set_option maxRecDepth 100000 in
set_option maxHeartbeats 1000000 in
theorem next_one (s : ByteArray) (i : Nat) (w : World) (hs : s.size ≤ 9223372036854775807) (hi : i < s.size) (h : bt s i < 128) :
    Calls Tryz.prog 168 #[.string s, .int .i64 i] w (PairQuiet (bt s i) 1 w) := by
  have hb := bt_lt s i
  have hlt : ((s[i].toNat : Nat) : Int) < 256 := by rw [get_bt s i hi]; omega
  have hbt := Lib.hid (get_bt s i hi)
  have hw : wd (bt s i) = 1 := by unfold wd; rw [if_pos h]
  have hw' := Lib.hid hw
  clear hw
  go_enter Tryz.func168, Tryz.ntmps168
  go_wp2_with (go_at_call 171; rw [hbt.out]; refine (width_any _ hb _).mono ?_; rw [hw'.out]; rintro e w' ⟨rfl, rfl⟩)
  go_ret2
  exact pair_mk (k := 0) (by rw [hbt.out]) rfl

theorem bt_int (s : ByteArray) (k : Nat) (h : k < s.size) : ((s[k].toNat : Nat) : Int) = (bt s k : Int) := by rw [get_bt s k h]

set_option maxRecDepth 100000 in
set_option maxHeartbeats 1000000 in
theorem next_second (s : ByteArray) (i : Nat) (w : World) (hs : s.size ≤ 9223372036854775807) (hi : i < s.size) (h2 : 2 ≤ wd (bt s i)) (hn : wd (bt s i) ≤ s.size - i) (h : bt s (i + 1) < lo (bt s i) ∨ Pub.hi (bt s i) < bt s (i + 1)) :
    Calls Tryz.prog 168 #[.string s, .int .i64 i] w (PairQuiet 65533 1 w) := by
  have hb := bt_lt s i
  have hi1 : i + 1 < s.size := by omega
  have hlt : ((s[i].toNat : Nat) : Int) < 256 := by rw [get_bt s i hi]; omega
  have hlt1 : ((s[i + 1].toNat : Nat) : Int) < 256 := by rw [get_bt s (i + 1) hi1]; have := bt_lt s (i + 1); omega
  have e1 := bt_int s (i + 1) hi1
  have hbt := Lib.hid (get_bt s i hi)
  have hn' : ((wd (bt s i) : Nat) : Int) ≤ (s.size : Int) - i := by omega
  have z0 : (((wd (bt s i) : Nat) : Int) == 0) = false := by simp; omega
  have z1 : (((wd (bt s i) : Nat) : Int) == 1) = false := by simp; omega
  rcases h with h | h
  · have h' : ((s[i + 1].toNat : Nat) : Int) < (lo (bt s i) : Nat) := by omega
    clear h e1 hn
    go_enter Tryz.func168, Tryz.ntmps168
    go_wp2_with (first | (go_at_call 171; rw [hbt.out]; refine (width_any _ hb _).mono ?_; rintro e w' ⟨rfl, rfl⟩) | (go_at_call 172; rw [hbt.out]; refine (second_any _ hb _).mono ?_; rintro e w' ⟨rfl, rfl⟩))
    go_ret2
    exact pair_mk (k := 0) rfl rfl
  · have h' : ((Pub.hi (bt s i) : Nat) : Int) < ((s[i + 1].toNat : Nat) : Int) := by omega
    have hle : ((lo (bt s i) : Nat) : Int) ≤ ((s[i + 1].toNat : Nat) : Int) := by
      have : lo (bt s i) ≤ Pub.hi (bt s i) := by unfold lo Pub.hi; (repeat' split) <;> omega
      omega
    clear h e1 hn
    go_enter Tryz.func168, Tryz.ntmps168
    go_wp2_with (first | (go_at_call 171; rw [hbt.out]; refine (width_any _ hb _).mono ?_; rintro e w' ⟨rfl, rfl⟩) | (go_at_call 172; rw [hbt.out]; refine (second_any _ hb _).mono ?_; rintro e w' ⟨rfl, rfl⟩))
    go_ret2
    exact pair_mk (k := 0) rfl rfl

set_option maxRecDepth 100000 in
set_option maxHeartbeats 8000000 in
theorem next_more (s : ByteArray) (i sz : Nat) (w : World) (hs : s.size ≤ 9223372036854775807) (hi : i < s.size) (hw : wd (bt s i) = sz) (h2 : sz = 2 ∨ sz = 3 ∨ sz = 4) (hn : sz ≤ s.size - i) (hl : lo (bt s i) ≤ bt s (i + 1)) (hh : bt s (i + 1) ≤ Pub.hi (bt s i)) :
    Calls Tryz.prog 168 #[.string s, .int .i64 i] w (PairQuiet (Utf8.decode s i).1 (Utf8.decode s i).2 w) := by
  have hb := bt_lt s i
  have hi1 : i + 1 < s.size := by omega
  have hlt : ((s[i].toNat : Nat) : Int) < 256 := by rw [get_bt s i hi]; omega
  have hlt1 : ((s[i + 1].toNat : Nat) : Int) < 256 := by rw [get_bt s (i + 1) hi1]; have := bt_lt s (i + 1); omega
  have e1 := bt_int s (i + 1) hi1
  have hbt := Lib.hid (get_bt s i hi)
  have h1 : ((lo (bt s i) : Nat) : Int) ≤ ((s[i + 1].toNat : Nat) : Int) := by omega
  have h3 : ((s[i + 1].toNat : Nat) : Int) ≤ ((Pub.hi (bt s i) : Nat) : Int) := by omega
  have hbad : ∀ j, j + 1 < sz → bt s (i + 1 + j) < 128 ∨ 191 < bt s (i + 1 + j) → Utf8.decode s i = (65533, 1) := fun j hj h => dec_cont s i j (by rw [hw]; exact hj) h
  have hgood : ContTo s i (sz - 1) → Utf8.decode s i = (acc s i (2 ^ (7 - sz)) (sz - 1), sz) := dec_whole s i sz hi hw (by omega) hn hl hh
  have Hbad := Lib.hid hbad
  have Hgood := Lib.hid hgood
  have hw' := Lib.hid hw
  clear hbad hgood hl hh e1 hw
  generalize Utf8.decode s i = D at *
  have d0 : decide ((i : Int) < 0) = false := by simp
  have d2 : decide (s[i + 1].toNat < lo (bt s i)) = false := by simp; omega
  have d3 : decide (Pub.hi (bt s i) < s[i + 1].toNat) = false := by simp; omega
  rcases h2 with rfl | rfl | rfl
  · have hn' : (2 : Int) ≤ (s.size : Int) - i := by omega
    have d1 : decide ((s.size : Int) - i < 2) = false := by simp; omega
    go_enter Tryz.func168, Tryz.ntmps168
    go_wp2_with (first | (go_at_call 171; rw [hbt.out]; refine (width_any _ hb _).mono ?_; rw [hw'.out]; rintro e w' ⟨rfl, rfl⟩) | (go_at_call 172; rw [hbt.out]; refine (second_any _ hb _).mono ?_; rintro e w' ⟨rfl, rfl⟩))
    go_quiet (fail)
    go_wp2
    go_loop [4, 71] (fun c k => ∃ j : Nat, j ≤ 2 - 1 ∧ k = .int .i64 j ∧ c = .int .i64 (acc s i (2 ^ (7 - 2)) j) ∧ ContTo s i j) (fun _ k => 2 - 1 - (intOf k).toNat)
    case atStart => exact ⟨0, by omega, rfl, congrArg (Value.int .i64) (by rw [hbt.out]; exact i64_and_mask _ 5 hb (by decide)), fun k hk => absurd hk (by omega)⟩
    case round =>
      obtain ⟨j, hj, rfl, rfl, hc⟩ := hrel
      have ha := acc_lt s i (2 ^ (7 - 2)) j (by decide) (by decide) (by omega)
      generalize hacc : acc s i (2 ^ (7 - 2)) j = a at *
      have Hacc := Lib.hid hacc
      clear hacc
      by_cases hlast : j < 2 - 1
      · have hij : i + 1 + j < s.size := by omega
        have hlj : ((s[i + 1 + j].toNat : Nat) : Int) < 256 := by rw [get_bt s _ hij]; have := bt_lt s (i + 1 + j); omega
        by_cases hcont : 128 ≤ bt s (i + 1 + j) ∧ bt s (i + 1 + j) ≤ 191
        · have q1 : decide (((s[i + 1 + j].toNat : Nat) : Int) < 128) = false := by rw [get_bt s _ hij]; simp; omega
          have q2 : decide (191 < ((s[i + 1 + j].toNat : Nat) : Int)) = false := by rw [get_bt s _ hij]; simp; omega
          go_wp2
          go_round
          case rel =>
            refine ⟨j + 1, by omega, by go_num, congrArg (Value.int .i64) ?_, fun k hk => ?_⟩
            · rw [bt_int s _ hij, byte_mod, i64_or_low _ _ ha (Nat.mod_lt _ (by decide)), ← Hacc.out]
              rfl
            · by_cases hk' : k < j
              · exact hc k hk'
              · obtain rfl : k = j := by omega
                exact hcont
          case measure => simp [intOf]; omega
        · have hb' := Hbad.out j (by omega) (by omega)
          by_cases q1 : bt s (i + 1 + j) < 128
          · have q1' : ((s[i + 1 + j].toNat : Nat) : Int) < 128 := by rw [get_bt s _ hij]; omega
            clear hb' q1 hcont
            go_wp2
            go_ret2
            exact pair_mk (by rw [Hbad.out j (by omega) (by have := get_bt s _ hij; omega)]; rfl) (by rw [Hbad.out j (by omega) (by have := get_bt s _ hij; omega)]; rfl)
          · have q1' : 128 ≤ ((s[i + 1 + j].toNat : Nat) : Int) := by rw [get_bt s _ hij]; omega
            have q2' : 191 < ((s[i + 1 + j].toNat : Nat) : Int) := by rw [get_bt s _ hij]; omega
            clear hb' q1 hcont
            go_wp2
            go_ret2
            exact pair_mk (by rw [Hbad.out j (by omega) (by have := get_bt s _ hij; omega)]; rfl) (by rw [Hbad.out j (by omega) (by have := get_bt s _ hij; omega)]; rfl)
      · obtain rfl : j = 2 - 1 := by omega
        go_wp2
        go_ret2
        exact pair_mk (by rw [Hgood.out hc, Hacc.out]) (by rw [Hgood.out hc]; rfl)
  · have hn' : (3 : Int) ≤ (s.size : Int) - i := by omega
    have d1 : decide ((s.size : Int) - i < 3) = false := by simp; omega
    go_enter Tryz.func168, Tryz.ntmps168
    go_wp2_with (first | (go_at_call 171; rw [hbt.out]; refine (width_any _ hb _).mono ?_; rw [hw'.out]; rintro e w' ⟨rfl, rfl⟩) | (go_at_call 172; rw [hbt.out]; refine (second_any _ hb _).mono ?_; rintro e w' ⟨rfl, rfl⟩))
    go_quiet (fail)
    go_wp2
    go_loop [4, 71] (fun c k => ∃ j : Nat, j ≤ 3 - 1 ∧ k = .int .i64 j ∧ c = .int .i64 (acc s i (2 ^ (7 - 3)) j) ∧ ContTo s i j) (fun _ k => 3 - 1 - (intOf k).toNat)
    case atStart => exact ⟨0, by omega, rfl, congrArg (Value.int .i64) (by rw [hbt.out]; exact i64_and_mask _ 4 hb (by decide)), fun k hk => absurd hk (by omega)⟩
    case round =>
      obtain ⟨j, hj, rfl, rfl, hc⟩ := hrel
      have ha := acc_lt s i (2 ^ (7 - 3)) j (by decide) (by decide) (by omega)
      generalize hacc : acc s i (2 ^ (7 - 3)) j = a at *
      have Hacc := Lib.hid hacc
      clear hacc
      by_cases hlast : j < 3 - 1
      · have hij : i + 1 + j < s.size := by omega
        have hlj : ((s[i + 1 + j].toNat : Nat) : Int) < 256 := by rw [get_bt s _ hij]; have := bt_lt s (i + 1 + j); omega
        by_cases hcont : 128 ≤ bt s (i + 1 + j) ∧ bt s (i + 1 + j) ≤ 191
        · have q1 : decide (((s[i + 1 + j].toNat : Nat) : Int) < 128) = false := by rw [get_bt s _ hij]; simp; omega
          have q2 : decide (191 < ((s[i + 1 + j].toNat : Nat) : Int)) = false := by rw [get_bt s _ hij]; simp; omega
          go_wp2
          go_round
          case rel =>
            refine ⟨j + 1, by omega, by go_num, congrArg (Value.int .i64) ?_, fun k hk => ?_⟩
            · rw [bt_int s _ hij, byte_mod, i64_or_low _ _ ha (Nat.mod_lt _ (by decide)), ← Hacc.out]
              rfl
            · by_cases hk' : k < j
              · exact hc k hk'
              · obtain rfl : k = j := by omega
                exact hcont
          case measure => simp [intOf]; omega
        · have hb' := Hbad.out j (by omega) (by omega)
          by_cases q1 : bt s (i + 1 + j) < 128
          · have q1' : ((s[i + 1 + j].toNat : Nat) : Int) < 128 := by rw [get_bt s _ hij]; omega
            clear hb' q1 hcont
            go_wp2
            go_ret2
            exact pair_mk (by rw [Hbad.out j (by omega) (by have := get_bt s _ hij; omega)]; rfl) (by rw [Hbad.out j (by omega) (by have := get_bt s _ hij; omega)]; rfl)
          · have q1' : 128 ≤ ((s[i + 1 + j].toNat : Nat) : Int) := by rw [get_bt s _ hij]; omega
            have q2' : 191 < ((s[i + 1 + j].toNat : Nat) : Int) := by rw [get_bt s _ hij]; omega
            clear hb' q1 hcont
            go_wp2
            go_ret2
            exact pair_mk (by rw [Hbad.out j (by omega) (by have := get_bt s _ hij; omega)]; rfl) (by rw [Hbad.out j (by omega) (by have := get_bt s _ hij; omega)]; rfl)
      · obtain rfl : j = 3 - 1 := by omega
        go_wp2
        go_ret2
        exact pair_mk (by rw [Hgood.out hc, Hacc.out]) (by rw [Hgood.out hc]; rfl)
  · have hn' : (4 : Int) ≤ (s.size : Int) - i := by omega
    have d1 : decide ((s.size : Int) - i < 4) = false := by simp; omega
    go_enter Tryz.func168, Tryz.ntmps168
    go_wp2_with (first | (go_at_call 171; rw [hbt.out]; refine (width_any _ hb _).mono ?_; rw [hw'.out]; rintro e w' ⟨rfl, rfl⟩) | (go_at_call 172; rw [hbt.out]; refine (second_any _ hb _).mono ?_; rintro e w' ⟨rfl, rfl⟩))
    go_quiet (fail)
    go_wp2
    go_loop [4, 71] (fun c k => ∃ j : Nat, j ≤ 4 - 1 ∧ k = .int .i64 j ∧ c = .int .i64 (acc s i (2 ^ (7 - 4)) j) ∧ ContTo s i j) (fun _ k => 4 - 1 - (intOf k).toNat)
    case atStart => exact ⟨0, by omega, rfl, congrArg (Value.int .i64) (by rw [hbt.out]; exact i64_and_mask _ 3 hb (by decide)), fun k hk => absurd hk (by omega)⟩
    case round =>
      obtain ⟨j, hj, rfl, rfl, hc⟩ := hrel
      have ha := acc_lt s i (2 ^ (7 - 4)) j (by decide) (by decide) (by omega)
      generalize hacc : acc s i (2 ^ (7 - 4)) j = a at *
      have Hacc := Lib.hid hacc
      clear hacc
      by_cases hlast : j < 4 - 1
      · have hij : i + 1 + j < s.size := by omega
        have hlj : ((s[i + 1 + j].toNat : Nat) : Int) < 256 := by rw [get_bt s _ hij]; have := bt_lt s (i + 1 + j); omega
        by_cases hcont : 128 ≤ bt s (i + 1 + j) ∧ bt s (i + 1 + j) ≤ 191
        · have q1 : decide (((s[i + 1 + j].toNat : Nat) : Int) < 128) = false := by rw [get_bt s _ hij]; simp; omega
          have q2 : decide (191 < ((s[i + 1 + j].toNat : Nat) : Int)) = false := by rw [get_bt s _ hij]; simp; omega
          go_wp2
          go_round
          case rel =>
            refine ⟨j + 1, by omega, by go_num, congrArg (Value.int .i64) ?_, fun k hk => ?_⟩
            · rw [bt_int s _ hij, byte_mod, i64_or_low _ _ ha (Nat.mod_lt _ (by decide)), ← Hacc.out]
              rfl
            · by_cases hk' : k < j
              · exact hc k hk'
              · obtain rfl : k = j := by omega
                exact hcont
          case measure => simp [intOf]; omega
        · have hb' := Hbad.out j (by omega) (by omega)
          by_cases q1 : bt s (i + 1 + j) < 128
          · have q1' : ((s[i + 1 + j].toNat : Nat) : Int) < 128 := by rw [get_bt s _ hij]; omega
            clear hb' q1 hcont
            go_wp2
            go_ret2
            exact pair_mk (by rw [Hbad.out j (by omega) (by have := get_bt s _ hij; omega)]; rfl) (by rw [Hbad.out j (by omega) (by have := get_bt s _ hij; omega)]; rfl)
          · have q1' : 128 ≤ ((s[i + 1 + j].toNat : Nat) : Int) := by rw [get_bt s _ hij]; omega
            have q2' : 191 < ((s[i + 1 + j].toNat : Nat) : Int) := by rw [get_bt s _ hij]; omega
            clear hb' q1 hcont
            go_wp2
            go_ret2
            exact pair_mk (by rw [Hbad.out j (by omega) (by have := get_bt s _ hij; omega)]; rfl) (by rw [Hbad.out j (by omega) (by have := get_bt s _ hij; omega)]; rfl)
      · obtain rfl : j = 4 - 1 := by omega
        go_wp2
        go_ret2
        exact pair_mk (by rw [Hgood.out hc, Hacc.out]) (by rw [Hgood.out hc]; rfl)
end Go.Proofs.YthfienjmigidbaaGreatDoor
namespace Go.Pub
open Go.RowKit

theorem ret_int {k : IntKind} {a b : Int} (h : a = b) : Ending.returned (.int k a) = .returned (.int k b) := by rw [h]
theorem ret_bool {a b : Bool} (h : a = b) : Ending.returned (.bool a) = .returned (.bool b) := by rw [h]
theorem ret_str {a b : ByteArray} (h : a = b) : Ending.returned (.string a) = .returned (.string b) := by rw [h]

theorem block_of_add (a : Addr) (n : Nat) : (a.add n).block = a.block := by unfold Addr.add; split <;> rfl
theorem add_of_add (a : Addr) (i j : Nat) : (a.add i).add j = a.add (i + j) := by
  unfold Addr.add
  by_cases hi : i = 0 <;> by_cases hj : j = 0 <;> simp [hi, hj, Nat.add_assoc]

/-- The slice at A of n elements holds the cells xs and lies below block B. -/
def Reads (w : World) (B size : Nat) (A : Option Addr) (n : Nat) (xs : List Value) : Prop :=
  xs.length = n * size ∧ (0 < n → ∃ ad, A = some ad ∧ ad.block < B ∧ ∀ j u, xs[j]? = some u → w.cell? (ad.add j) = some u)

section
variable {w w' : World} {B B' size n : Nat} {A : Option Addr} {xs : List Value}
theorem Reads.none_ : Reads w B size A 0 [] := ⟨by simp, fun h => absurd h (by omega)⟩
theorem Reads.keep (h : Reads w B size A n xs) (hk : ∀ p : Addr, p.block < B → w'.cell? p = w.cell? p) : Reads w' B size A n xs :=
  ⟨h.1, fun hn => by
    obtain ⟨ad, e, hb, hc⟩ := h.2 hn
    exact ⟨ad, e, hb, fun j u hu => (hk _ (by rw [block_of_add]; exact hb)).trans (hc j u hu)⟩⟩
theorem Reads.more (h : Reads w B size A n xs) (hB : B ≤ B') : Reads w B' size A n xs :=
  ⟨h.1, fun hn => by
    obtain ⟨ad, e, hb, hc⟩ := h.2 hn
    exact ⟨ad, e, by omega, hc⟩⟩
theorem Reads.below (h : Reads w B size A n xs) (hb : Below B w w') : Reads w' B size A n xs := h.keep fun _ hp => hb.cell hp
theorem Reads.drewN (h : Reads w B size A n xs) (k : Nat) : Reads (w.drewN k) B size A n xs := h
theorem Reads.alloc (h : Reads w B size A n xs) (hB : B ≤ w.heap.size) (o : Obj) : Reads (w.alloc o) B size A n xs := h.keep fun p hp => World.cell?_alloc_lt w o p (by omega)
theorem Reads.setCell (h : Reads w B size A n xs) {p : Addr} (hB : B ≤ p.block) (u : Value) : Reads (w.setCell p u) B size A n xs :=
  h.keep fun q hq => World.cell?_setCell_other w p q u (fun e => by subst e; omega)
theorem Reads.grown (h : Reads w B size A n xs) {row : Option Nat} (hg : w.grownBy w' row) (hB : B ≤ w.heap.size) (hr : ∀ g, row = some g → B ≤ g) : Reads w' B size A n xs :=
  h.keep fun p hp => World.cell?_of_block (hg.block p.block (by omega) (fun e => by have := hr _ e.symm; omega))
theorem Reads.of_own {base : Nat} {e : TypeId} {c : Nat} (h : w.ownsRow base e size (.slice A n c) n xs) : Reads w w.heap.size size A n xs := by
  refine ⟨h.1, fun hn => ?_⟩
  obtain ⟨g, cap, hv, _, hlt⟩ := h.form hn
  have hA : A = some ⟨g, 0, none⟩ := by injection hv
  subst hA
  exact ⟨_, rfl, hlt, h.cells (g := g) rfl⟩
end

/-- An owned row's value is a slice. -/
theorem own_slice {w : World} {base size n : Nat} {e : TypeId} {v : Value} {xs : List Value} (h : w.ownsRow base e size v n xs) : ∃ A c, v = .slice A n c := by
  rcases h.2 with ⟨rfl, rfl⟩ | ⟨g, cap, cur, rfl, _⟩
  · exact ⟨none, 0, by have := h.1; rfl⟩
  · exact ⟨_, _, rfl⟩

theorem below_drewN {B : Nat} {a w : World} (h : Below B a w) (n : Nat) : Below B a (w.drewN n) := ⟨h.os, h.tape, h.output, h.size, h.block⟩
theorem grown_of_below {a w : World} (h : Below a.heap.size a w) (row : Option Nat) : a.grownBy w row := ⟨h.os, h.tape, h.output, h.size, fun i hi _ => h.block i hi⟩
theorem own_below {w w' : World} {base size n : Nat} {e : TypeId} {v : Value} {xs : List Value} (h : w.ownsRow base e size v n xs) (hb : Below w.heap.size w w') : w'.ownsRow base e size v n xs := by
  by_cases hv : v.ownBlock = none
  · exact h.kept (grown_of_below hb none) (.inl hv)
  · exact h.kept (grown_of_below hb none) (.inr hv)
end Go.Pub
