/-
  chars.Next for every string and index; the classes; sequence, Append; Count; Valid.
-/
import Derived.Test.YtkcfcdnchlmekaaNext
import Derived.Test.YtkcfcdnchlmekaaPts
import Derived.Test.YtkcfcdnchlmekaaFold
import Derived.Test.YtkcfcdnchlmekaaMem
set_option linter.unusedVariables false
set_option linter.unusedSimpArgs false
namespace Go.Pub
def digitB (c : Int) : Bool := decide (48 ≤ c) && decide (c ≤ 57)
def inB (c : Int) (l : List (Int × Int)) : Bool := l.any fun r => decide (r.1 ≤ c) && decide (c ≤ r.2)
def punctL : List (Int × Int) := [(33, 47), (58, 64), (91, 96), (123, 126), (161, 169), (171, 180), (182, 185), (187, 191), (215, 215), (247, 247), (8208, 8231), (8240, 8286), (12289, 12291)]
def letterL : List (Int × Int) := [(65, 90), (97, 122), (170, 170), (181, 181), (186, 186), (192, 214), (216, 246), (248, 687), (880, 1327), (4256, 4351), (7680, 8191), (12353, 12538), (19968, 40959), (44032, 55203)]
end Go.Pub
namespace Go.Proofs.Ytkcfcdnchlmekaa
open Go.RowKit Go.Pub

theorem wd_cases (b : Nat) : wd b = 0 ∨ (wd b = 1 ∧ b < 128) ∨ wd b = 2 ∨ wd b = 3 ∨ wd b = 4 := by
  unfold wd; (repeat' split) <;> simp_all

theorem next_any (s : ByteArray) (i : Int) (w : World) (hs : s.size ≤ 9223372036854775807) :
    Calls Try.prog 61 #[.string s, .int .i64 i] w (PairQuiet (nextAt s i).1 (nextAt s i).2 w) := by
  by_cases h : 0 ≤ i ∧ i < s.size
  · obtain ⟨k, rfl⟩ := Int.eq_ofNat_of_zero_le h.1
    have hk : k < s.size := by omega
    rw [nextAt_in s k hk]
    by_cases c0 : wd (bt s k) = 0
    · rw [dec_bad_width s k c0]; exact next_bad s k w hs hk (.inl c0)
    by_cases c1 : bt s k < 128
    · rw [dec_one s k c1]; exact next_one s k w hs hk c1
    have hw : wd (bt s k) = 2 ∨ wd (bt s k) = 3 ∨ wd (bt s k) = 4 := by
      rcases wd_cases (bt s k) with h | h | h
      · exact absurd h c0
      · exact absurd h.2 c1
      · exact h
    by_cases c2 : s.size - k < wd (bt s k)
    · rw [dec_short s k hk (by omega) c2]; exact next_bad s k w hs hk (.inr c2)
    by_cases c3 : bt s (k + 1) < lo (bt s k) ∨ Pub.hi (bt s k) < bt s (k + 1)
    · rw [dec_second s k (by omega) c3]; exact next_second s k w hs hk (by omega) (by omega) c3
    · exact next_more s k (wd (bt s k)) w hs hk rfl hw (by omega) (by omega) (by omega)
  · rw [nextAt_out s i h]; exact next_out s i w hs h



set_option maxRecDepth 100000 in
set_option maxHeartbeats 400000 in
theorem unclean_any (c : Int) (w : World) : Calls Try.prog 62 #[.int .i64 c] w fun e w' => e = .returned (.bool (uncleanB c)) ∧ w = w' := by
  have H : Hid (uncleanB c = ((decide (c < 32) && c != 10) || c == 127)) := Lib.hid rfl
  generalize uncleanB c = b at *
  by_cases h : c < 32
  · by_cases h2 : c = 10
    · subst h2
      go_enter Try.func62, Try.ntmps62
      go_wp2
      go_ret
      exact ⟨ret_bool (by rw [H.out]; rfl), rfl⟩
    · have h3 : (c != 10) = true := by simpa using h2
      clear h2
      go_enter Try.func62, Try.ntmps62
      go_wp2
      go_ret
      exact ⟨ret_bool (by rw [H.out, h3]; simp [h]), rfl⟩
  · go_enter Try.func62, Try.ntmps62
    go_wp2
    go_ret
    exact ⟨ret_bool (by rw [H.out]; simp [show ¬ c < 32 by omega]), rfl⟩


end Go.Proofs.Ytkcfcdnchlmekaa
