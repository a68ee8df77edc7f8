/-
  The law LinkBack, walked.
-/
import Derived.Test.YtepeaenbjgbnfaaDoorLinkU
import Derived.Test.YtepeaenbjgbnfaaDoorLinkM
set_option linter.unusedVariables false
set_option linter.unusedSimpArgs false
namespace Go.Pub
def feedB (l : List UInt8) : Bool := l.any (· == 10)
theorem feed_end (s : ByteArray) (k : Nat) (h : s.size ≤ k) : feedB (sfx s k) = false := by rw [sfx_nil s k h]; rfl
theorem feed_yes (s : ByteArray) (k : Nat) (h : k < s.size) (hc : bt s k = 10) : feedB (sfx s k) = true := by
  rw [sfx_cons s k h]; unfold feedB; rw [List.any_cons, (g10 s k).2 hc]; rfl
theorem feed_no (s : ByteArray) (k : Nat) (h : k < s.size) (hc : bt s k ≠ 10) : feedB (sfx s k) = feedB (sfx s (k + 1)) := by
  rw [sfx_cons s k h]; unfold feedB; rw [List.any_cons, beq_eq_false_iff_ne.2 (fun e => hc ((g10 s k).1 e)), Bool.false_or]
theorem feed_all {l : List UInt8} (h : feedB l = false) : ∀ c ∈ l, c ≠ 10 := by
  intro c hc e
  unfold feedB at h
  rw [List.any_eq_false] at h
  exact h c hc (by rw [e]; rfl)
theorem bytesL_app (a b : ByteArray) : bytesL (a ++ b) = bytesL a ++ bytesL b := by
  unfold bytesL; rw [ByteArray.data_append, Array.toList_append]
end Go.Pub
namespace Go.Proofs.YtepeaenbjgbnfaaDoor
open Go.RowKit Go.Pub

set_option maxRecDepth 100000 in
set_option maxHeartbeats 1000000 in
theorem feed_any (s : ByteArray) (w : World) (hs : s.size ≤ 1000000) : Calls Tryd.prog 16 #[.string s] w fun e w' => e = .returned (.bool (feedB (bytesL s))) ∧ w = w' := by
  have HX : Hid (feedB (sfx s 0) = feedB (bytesL s)) := Lib.hid rfl
  generalize feedB (bytesL s) = R at *
  go_enter Tryd.func16, Tryd.ntmps16
  go_wp2
  go_loop [3] (fun v => ∃ k : Nat, k ≤ s.size ∧ v = .int .i64 k ∧ Hid (feedB (sfx s k) = R)) (fun v => s.size - (intOf v).toNat)
  case atStart => exact ⟨0, by omega, rfl, HX⟩
  case round =>
    obtain ⟨k, hk, rfl, Hk⟩ := hrel
    by_cases hlt : k < s.size
    · have hlt2 : ((s[k].toNat : Nat) : Int) < 256 := by rw [get_bt s k hlt]; have := bt_lt s k; omega
      by_cases hc : bt s k = 10
      · have z : (((s[k].toNat : Nat) : Int) == 10) = true := by rw [get_bt s k hlt, hc]; rfl
        have HF : Hid (R = true) := Lib.hid (by rw [← Hk.out]; exact feed_yes s k hlt hc)
        clear hc
        go_wp2_with fail
        go_ret
        exact ⟨ret_bool (by rw [HF.out]), rfl⟩
      · have z : (((s[k].toNat : Nat) : Int) == 10) = false := by rw [get_bt s k hlt, beq_eq_false_iff_ne]; omega
        have hst := Lib.hid (feed_no s k hlt hc)
        clear hc
        go_wp2_with fail
        go_round
        case rel => exact ⟨k + 1, by omega, by go_num, Lib.hid (by rw [← hst.out]; exact Hk.out)⟩
        case measure => simp [intOf]; omega
    · have HF : Hid (R = false) := Lib.hid (by rw [← Hk.out]; exact feed_end s k (by omega))
      go_wp2_with fail
      go_ret
      exact ⟨ret_bool (by rw [HF.out]), rfl⟩

set_option maxRecDepth 100000 in
set_option maxHeartbeats 4000000 in
theorem lawBack_any (d t r : ByteArray) (w : World) (hd : d.size ≤ 9223372036854775807) (ht : t.size ≤ 9223372036854775807) (hr : r.size ≤ 9223372036854775807) : Calls Tryd.prog 6 #[.string d, .string t, .string r] w fun e w' => e = .returned (.bool true) ∧ Below w.heap.size w w' := by
  have HA := Lib.hid awake_any
  by_cases h1 : 400 < d.size
  · have d1 : decide (400 < d.size) = true := decide_eq_true h1
    go_enter Tryd.func6, Tryd.ntmps6
    go_wp2_with fail
    ((with_reducible refine (HA.out _).mono ?_))
    rintro e w1 ⟨rfl, b1⟩
    go_wp2_with fail
    go_ret
    exact ⟨rfl, b1⟩
  have d1 : decide (400 < d.size) = false := decide_eq_false h1
  by_cases h2 : 400 < t.size
  · have d2 : decide (400 < t.size) = true := decide_eq_true h2
    go_enter Tryd.func6, Tryd.ntmps6
    go_wp2_with fail
    ((with_reducible refine (HA.out _).mono ?_))
    rintro e w1 ⟨rfl, b1⟩
    go_wp2_with fail
    go_ret
    exact ⟨rfl, b1⟩
  have d2 : decide (400 < t.size) = false := decide_eq_false h2
  by_cases h3 : 400 < r.size
  · have d3 : decide (400 < r.size) = true := decide_eq_true h3
    go_enter Tryd.func6, Tryd.ntmps6
    go_wp2_with fail
    ((with_reducible refine (HA.out _).mono ?_))
    rintro e w1 ⟨rfl, b1⟩
    go_wp2_with fail
    go_ret
    exact ⟨rfl, b1⟩
  have d3 : decide (400 < r.size) = false := decide_eq_false h3
  have F1 := Lib.hid fun W => feed_any d W (by omega)
  have F2 := Lib.hid fun W => feed_any t W (by omega)
  cases f1 : feedB (bytesL d)
  rotate_left
  · rw [f1] at F1
    clear f1
    go_enter Tryd.func6, Tryd.ntmps6
    go_wp2_with fail
    ((with_reducible refine (F1.out _).mono ?_))
    rintro e w0 ⟨rfl, rfl⟩
    go_wp2_with fail
    ((with_reducible refine (HA.out _).mono ?_))
    rintro e w1 ⟨rfl, b1⟩
    go_wp2_with fail
    go_ret
    exact ⟨rfl, b1⟩
  cases f2 : feedB (bytesL t)
  rotate_left
  · rw [f1] at F1
    rw [f2] at F2
    clear f1 f2
    go_enter Tryd.func6, Tryd.ntmps6
    go_wp2_with fail
    ((with_reducible refine (F1.out _).mono ?_))
    rintro e w0 ⟨rfl, rfl⟩
    go_wp2_with fail
    ((with_reducible refine (F2.out _).mono ?_))
    rintro e w0 ⟨rfl, rfl⟩
    go_wp2_with fail
    ((with_reducible refine (HA.out _).mono ?_))
    rintro e w1 ⟨rfl, b1⟩
    go_wp2_with fail
    go_ret
    exact ⟨rfl, b1⟩
  have H1 := Lib.hid fun W => l_inside d t W (by omega) (by omega)
  have hil : (insideL (bytesL d) (bytesL t)).length ≤ 2000 := by
    have e1 := escS_len (bytesL d)
    have e2 := escS_len (bytesL t)
    rw [bytesL_length] at e1 e2
    unfold insideL
    split
    · simp
    · rw [List.length_append]
      have a1 : (if bytesL d = [] ∨ gapB (bytesL d) = true then [60] ++ escS (bytesL d) ++ [62] else escS (bytesL d)).length ≤ 900 := by
        split
        · simp; omega
        · omega
      have a2 : (if bytesL t = [] then [] else [32, 34] ++ escS (bytesL t) ++ [34]).length ≤ 900 := by split <;> simp <;> omega
      omega
  obtain ⟨S, hS⟩ : ∃ S : ByteArray, S = ⟨#[40]⟩ ++ mk (insideL (bytesL d) (bytesL t)) ++ ⟨#[41]⟩ := ⟨_, rfl⟩
  have hSL : bytesL S = 40 :: (insideL (bytesL d) (bytesL t) ++ [41]) := by
    rw [hS, bytesL_app, bytesL_app, bytesL_mk']; rfl
  have hSz : S.size = (insideL (bytesL d) (bytesL t)).length + 2 := by rw [← bytesL_length, hSL]; simp
  have H2 : Hid (∀ W, Calls Tryd.prog 12 #[.string (S ++ r), .int .i64 0] W fun e w' => e = .returned (.tuple #[.string d, .string t, .string ⟨#[]⟩, .int .i64 S.size, .bool true]) ∧ Below W.heap.size W w') := Lib.hid fun W => by
    have h := l_tail (S ++ r) 0 W (by rw [ByteArray.size_append]; omega)
    rw [tail_back (bytesL d) (bytesL t) (bytesL r) (feed_all f1) (feed_all f2) (by
      show bytesL (S ++ r) = _
      rw [bytesL_app, hSL]; simp)] at h
    refine h.mono ?_
    rintro e w' ⟨rfl, hb⟩
    refine ⟨?_, hb⟩
    unfold tlVal
    simp only [mk_bytesL, hSz]
    rfl
  rw [f1] at F1
  rw [f2] at F2
  have hsz2 : S.size ≤ 3000 := by omega
  have hisz : (mk (insideL (bytesL d) (bytesL t))).size ≤ 2000 := by rw [mk_size]; omega
  clear f1 f2 hil hSL hSz
  generalize mk (insideL (bytesL d) (bytesL t)) = I at *
  have HS : Hid (({ data := #[40] } : ByteArray) ++ I ++ { data := #[41] } = S) := Lib.hid hS.symm
  have q1 : (d.toList == d.toList) = true := beq_self_eq_true _
  have q2 : (t.toList == t.toList) = true := beq_self_eq_true _
  have q3 : ((S.size : Int) == (S.size : Int)) = true := beq_self_eq_true _
  have q4 : (S.size == S.size) = true := beq_self_eq_true _
  clear hS
  go_enter Tryd.func6, Tryd.ntmps6
  go_wp2_with fail
  ((with_reducible refine (F1.out _).mono ?_))
  rintro e w0 ⟨rfl, rfl⟩
  go_wp2_with fail
  ((with_reducible refine (F2.out _).mono ?_))
  rintro e w0 ⟨rfl, rfl⟩
  go_wp2_with fail
  ((with_reducible refine (H1.out _).mono ?_))
  rintro e w1 ⟨rfl, b1⟩
  go_wp2_with fail
  rw [HS.out]
  ((with_reducible refine (H2.out _).mono ?_))
  rintro e w2 ⟨rfl, b2⟩
  go_wp2_with fail
  ((with_reducible refine (HA.out _).mono ?_))
  rintro e w3 ⟨rfl, b3⟩
  go_wp2_with fail
  go_ret
  have c2 := b1.trans (b2.mono b1.size)
  exact ⟨rfl, c2.trans (b3.mono c2.size)⟩
end Go.Proofs.YtepeaenbjgbnfaaDoor
