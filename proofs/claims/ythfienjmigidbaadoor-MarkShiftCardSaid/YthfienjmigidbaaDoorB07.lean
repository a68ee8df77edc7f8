/-
  Texts of the proof, put together: AttrA, MkB.
-/
import Derived.Test.YthfienjmigidbaaDoorB02
import Derived.Test.YthfienjmigidbaaDoorB06
import Derived.Outline
set_option linter.unusedVariables false
set_option linter.unusedSimpArgs false
namespace Go.Pub
def letterN (b : Nat) : Bool := (decide (97 ≤ b) && decide (b ≤ 122)) || (decide (65 ≤ b) && decide (b ≤ 90))
def partN (b : Nat) : Bool := letterN b || (decide (48 ≤ b) && decide (b ≤ 57)) || b == 45 || b == 95 || b == 46 || b == 58
def wEnd (s : ByteArray) : Nat → Nat → Nat
  | 0, i => i
  | f + 1, i => if i < s.size ∧ partN (bt s i) = true then wEnd s f (i + 1) else i
def wordAt (s : ByteArray) (i : Nat) : Nat := wEnd s (s.size - i) i
theorem wEnd_step (s : ByteArray) (f i : Nat) (h : i < s.size) (hp : partN (bt s i) = true) (hf : s.size - i ≤ f) : wEnd s f i = wEnd s (f - 1) (i + 1) := by
  obtain ⟨g, rfl⟩ : ∃ g, f = g + 1 := ⟨f - 1, by omega⟩
  simp [wEnd, h, hp]
theorem wEnd_stop (s : ByteArray) (f i : Nat) (h : ¬ (i < s.size ∧ partN (bt s i) = true)) : wEnd s f i = i := by
  cases f with
  | zero => rfl
  | succ f => simp only [wEnd]; rw [if_neg h]
theorem wEnd_bd (s : ByteArray) : ∀ f i, i ≤ wEnd s f i ∧ (i ≤ s.size → wEnd s f i ≤ s.size)
  | 0, i => ⟨Nat.le_refl _, fun h => h⟩
  | f + 1, i => by
    unfold wEnd
    split
    · rename_i h
      have := wEnd_bd s f (i + 1)
      exact ⟨by omega, fun _ => this.2 (by omega)⟩
    · exact ⟨Nat.le_refl _, fun h => h⟩
def nameB (s : ByteArray) : Bool := decide (1 ≤ s.size) && decide (s.size ≤ 60) && letterN (bt s 0) && (wordAt s 0 == s.size)
end Go.Pub
namespace Go.Proofs.YthfienjmigidbaaDoor
open Go.RowKit Go.Pub

set_option maxRecDepth 100000 in
set_option maxHeartbeats 1000000 in
theorem aletter_any (b : Nat) (hb : b < 256) (w : World) : Calls Tryd.prog 44 #[.int .u8 b] w fun e w' => e = .returned (.bool (letterN b)) ∧ w = w' := by
  have H : Hid (letterN b = ((decide (97 ≤ b) && decide (b ≤ 122)) || (decide (65 ≤ b) && decide (b ≤ 90)))) := Lib.hid rfl
  generalize letterN b = r at *
  by_cases h1 : 97 ≤ b
  · by_cases h2 : b ≤ 122
    all_goals
      go_enter Tryd.func44, Tryd.ntmps44
      go_wp2
      go_ret
      exact ⟨ret_bool (by rw [H.out]; first | rfl | (rw [Bool.eq_iff_iff]; simp; omega)), rfl⟩
  · by_cases h2 : 65 ≤ b
    all_goals
      go_enter Tryd.func44, Tryd.ntmps44
      go_wp2
      go_ret
      exact ⟨ret_bool (by rw [H.out]; first | rfl | (rw [Bool.eq_iff_iff]; simp; omega)), rfl⟩

set_option maxRecDepth 100000 in
set_option maxHeartbeats 2000000 in
theorem inName_any (b : Nat) (hb : b < 256) (w : World) : Calls Tryd.prog 61 #[.int .u8 b] w fun e w' => e = .returned (.bool (partN b)) ∧ w = w' := by
  have H : Hid (partN b = (letterN b || (decide (48 ≤ b) && decide (b ≤ 57)) || b == 45 || b == 95 || b == 46 || b == 58)) := Lib.hid rfl
  have HL := Lib.hid (aletter_any b hb)
  generalize partN b = r at *
  generalize letterN b = l at *
  by_cases c1 : b = 45
  · subst c1
    go_enter Tryd.func61, Tryd.ntmps61
    go_wp2_with fail
    go_ret
    exact ⟨ret_bool (by rw [H.out]; simp), rfl⟩
  have z1 : ((b : Int) == 45) = false := by simp; omega
  by_cases c2 : b = 95
  · subst c2
    go_enter Tryd.func61, Tryd.ntmps61
    go_wp2_with fail
    go_ret
    exact ⟨ret_bool (by rw [H.out]; simp), rfl⟩
  have z2 : ((b : Int) == 95) = false := by simp; omega
  by_cases c3 : b = 46
  · subst c3
    go_enter Tryd.func61, Tryd.ntmps61
    go_wp2_with fail
    go_ret
    exact ⟨ret_bool (by rw [H.out]; simp), rfl⟩
  have z3 : ((b : Int) == 46) = false := by simp; omega
  by_cases c4 : b = 58
  · subst c4
    go_enter Tryd.func61, Tryd.ntmps61
    go_wp2_with fail
    go_ret
    exact ⟨ret_bool (by rw [H.out]; simp), rfl⟩
  have z4 : ((b : Int) == 58) = false := by simp; omega
  have H2 : Hid (r = (l || (decide (48 ≤ b) && decide (b ≤ 57)))) := Lib.hid (by
    have b1 : (b == 45) = false := by simpa using c1
    have b2 : (b == 95) = false := by simpa using c2
    have b3 : (b == 46) = false := by simpa using c3
    have b4 : (b == 58) = false := by simpa using c4
    rw [H.out, b1, b2, b3, b4]; simp only [Bool.or_false])
  clear c1 c2 c3 c4
  cases l
  · by_cases h1 : 48 ≤ b
    all_goals
      go_enter Tryd.func61, Tryd.ntmps61
      go_wp2_with fail
      refine (HL.out _).mono ?_
      rintro e w1 ⟨rfl, rfl⟩
      go_wp2
      go_ret
      exact ⟨ret_bool (by rw [H2.out]; first | rfl | (simp [show ¬ 48 ≤ b by omega]; done) | (rw [Bool.eq_iff_iff, Bool.or_eq_true, Bool.and_eq_true]; simp only [decide_eq_true_eq, Bool.false_eq_true, false_or]; omega)), rfl⟩
  · go_enter Tryd.func61, Tryd.ntmps61
    go_wp2_with fail
    refine (HL.out _).mono ?_
    rintro e w1 ⟨rfl, rfl⟩
    go_wp2
    go_ret
    exact ⟨ret_bool (by rw [H2.out]; rfl), rfl⟩

set_option maxRecDepth 100000 in
set_option maxHeartbeats 2000000 in
theorem wordEnd_any (s : ByteArray) (i : Nat) (w : World) (hs : s.size < 9223372036854775807) : Calls Tryd.prog 45 #[.string s, .int .i64 i] w fun e w' => e = .returned (.int .i64 (wordAt s i)) ∧ w = w' := by
  have HW : Hid (wEnd s (s.size - i) i = wordAt s i) := Lib.hid rfl
  generalize wordAt s i = R at *
  go_enter Tryd.func45, Tryd.ntmps45
  go_wp2
  go_loop [1] (fun v => ∃ k f : Nat, v = .int .i64 k ∧ wEnd s f k = R ∧ s.size - k ≤ f) (fun v => s.size - (intOf v).toNat)
  case atStart => exact ⟨i, s.size - i, rfl, HW.out, Nat.le_refl _⟩
  case round =>
    obtain ⟨k, f, rfl, hR, hf⟩ := hrel
    have HR := Lib.hid hR
    clear hR
    by_cases hk : k < s.size
    · have hb := bt_lt s k
      have hbt := Lib.hid (get_bt s k hk)
      have hst := Lib.hid (wEnd_step s f k hk)
      have hsp := Lib.hid (wEnd_stop s f k)
      have HP : Hid (∀ W, Calls Tryd.prog 61 #[.int .u8 s[k].toNat] W fun e w' => e = .returned (.bool (partN (bt s k))) ∧ W = w') := Lib.hid fun W => by rw [get_bt s k hk]; exact inName_any _ hb W
      generalize partN (bt s k) = p at *
      cases p
      · go_wp2_with fail
        refine (HP.out _).mono ?_
        rintro e w1 ⟨rfl, rfl⟩
        go_wp2
        go_ret
        exact ⟨ret_int (by rw [← HR.out, hsp.out (by simp)]), rfl⟩
      · go_wp2_with fail
        refine (HP.out _).mono ?_
        rintro e w1 ⟨rfl, rfl⟩
        go_wp2
        go_round
        case rel => exact ⟨k + 1, f - 1, by go_num, by rw [← HR.out, hst.out (by first | rfl | trivial) hf], by omega⟩
        case measure => simp [intOf]; omega
    · have hsp := Lib.hid (wEnd_stop s f k (by omega))
      go_wp2
      go_ret
      exact ⟨ret_int (by rw [← HR.out, hsp.out]), rfl⟩

set_option maxRecDepth 100000 in
set_option maxHeartbeats 2000000 in
theorem name_any (s : ByteArray) (w : World) (hs : s.size < 9223372036854775807) : Calls Tryd.prog 34 #[.string s] w fun e w' => e = .returned (.bool (nameB s)) ∧ w = w' := by
  have H : Hid (nameB s = (decide (1 ≤ s.size) && decide (s.size ≤ 60) && letterN (bt s 0) && (wordAt s 0 == s.size))) := Lib.hid rfl
  have HW := Lib.hid (wordEnd_any s 0)
  generalize nameB s = R at *
  by_cases h0 : s.size = 0
  · have z0 : ((s.size : Int) == 0) = true := by rw [h0]; rfl
    have hR : Hid (R = false) := Lib.hid (by rw [H.out, h0]; rfl)
    clear h0
    go_enter Tryd.func34, Tryd.ntmps34
    go_wp2_with fail
    go_ret
    exact ⟨ret_bool hR.out.symm, rfl⟩
  have hp : 0 < s.size := by omega
  have z0 : ((s.size : Int) == 0) = false := by rw [beq_eq_false_iff_ne]; omega
  clear h0
  by_cases h1 : 60 < s.size
  · have hR : Hid (R = false) := Lib.hid (by rw [H.out, show decide (s.size ≤ 60) = false by simpa using h1]; simp)
    go_enter Tryd.func34, Tryd.ntmps34
    go_wp2_with fail
    go_ret
    exact ⟨ret_bool hR.out.symm, rfl⟩
  have hb := bt_lt s 0
  have HL : Hid (∀ W, Calls Tryd.prog 44 #[.int .u8 s[0].toNat] W fun e w' => e = .returned (.bool (letterN (bt s 0))) ∧ W = w') := Lib.hid fun W => by rw [get_bt s 0 hp]; exact aletter_any _ hb W
  have H2 : Hid (R = (letterN (bt s 0) && (wordAt s 0 == s.size))) := Lib.hid (by rw [H.out]; simp [show 1 ≤ s.size by omega, show s.size ≤ 60 by omega])
  have d1 : decide (60 < s.size) = false := by simpa using h1
  generalize letterN (bt s 0) = l at *
  generalize wordAt s 0 = e0 at *
  cases l
  · go_enter Tryd.func34, Tryd.ntmps34
    go_wp2_with fail
    refine (HL.out _).mono ?_
    rintro e w1 ⟨rfl, rfl⟩
    go_wp2_with fail
    go_ret
    exact ⟨ret_bool (by rw [H2.out]; rfl), rfl⟩
  · go_enter Tryd.func34, Tryd.ntmps34
    go_wp2_with fail
    refine (HL.out _).mono ?_
    rintro e w1 ⟨rfl, rfl⟩
    go_wp2_with fail
    refine (HW.out _ hs).mono ?_
    rintro e w1 ⟨rfl, rfl⟩
    go_wp2
    go_ret
    exact ⟨ret_bool (by rw [H2.out, Bool.eq_iff_iff]; simp; try omega), rfl⟩

end Go.Proofs.YthfienjmigidbaaDoor
namespace Go.Pub
/-- The first byte of a kind, or the end. -/
def firstN (s : ByteArray) (p : Nat → Bool) : Nat := (bytesL s).findIdx fun b => p b.toNat
theorem bytesL_at (s : ByteArray) (k : Nat) (h : k < s.size) : (bytesL s)[k]? = some (s.get! k) := by
  have := sfx_cons s k h
  unfold sfx at this
  rw [← List.head?_drop, this]; rfl
theorem firstN_eq (s : ByteArray) (p : Nat → Bool) (k : Nat) (h : k ≤ s.size) (h1 : ∀ j, j < k → p (bt s j) = false) (h2 : k < s.size → p (bt s k) = true) : firstN s p = k := by
  unfold firstN
  rcases Nat.lt_or_ge k s.size with hk | hk
  · have hkl : k < (bytesL s).length := by rw [bytesL_length]; exact hk
    rw [List.findIdx_eq hkl]
    have hat : ∀ j (hj : j < (bytesL s).length), (bytesL s)[j] = s.get! j := fun j hj => by
      have := bytesL_at s j (by rw [bytesL_length] at hj; exact hj)
      rw [List.getElem?_eq_getElem hj] at this
      injection this
    refine ⟨by rw [hat k hkl]; exact h2 hk, fun j hj => ?_⟩
    rw [hat j (by omega)]
    exact h1 j hj
  · have hke : k = (bytesL s).length := by rw [bytesL_length]; omega
    rw [hke, List.findIdx_eq_length]
    intro b hb
    obtain ⟨j, hj, rfl⟩ := List.mem_iff_getElem.1 hb
    have := bytesL_at s j (by rw [bytesL_length] at hj; exact hj)
    rw [List.getElem?_eq_getElem hj] at this
    injection this with this
    rw [this]
    exact h1 j (by omega)
theorem firstN_le (s : ByteArray) (p : Nat → Bool) : firstN s p ≤ s.size := by
  unfold firstN
  rw [← bytesL_length]
  exact List.findIdx_le_length
theorem range_pre {k n : Nat} (h : k < n) : List.range k ++ [k] <+: List.range n := by
  rw [← List.range_succ]
  have := List.take_prefix (k + 1) (List.range n)
  rw [List.take_range, Nat.min_eq_left (by omega)] at this
  exact this
theorem range_pre' {k n : Nat} (h : k ≤ n) : List.range k <+: List.range n := by
  have := List.take_prefix k (List.range n)
  rw [List.take_range, Nat.min_eq_left h] at this
  exact this
theorem pre_range {l : List Nat} {n : Nat} (h : l <+: List.range n) : l = List.range l.length ∧ l.length ≤ n := by
  have h1 := h.length_le
  rw [List.length_range] at h1
  have := List.prefix_iff_eq_take.1 h
  rw [List.take_range, Nat.min_eq_left h1] at this
  exact ⟨this, h1⟩
theorem pre_snoc {l : List Nat} {x n : Nat} (h : l ++ [x] <+: List.range n) : l = List.range x ∧ x < n := by
  obtain ⟨h1, h2⟩ := pre_range h
  rw [List.length_append, List.length_singleton] at h1 h2
  rw [List.range_succ] at h1
  obtain ⟨h3, h4⟩ := List.append_inj' h1 rfl
  injection h4 with h4
  subst h4
  exact ⟨h3, by omega⟩
def lastF {n : Nat} (l : List (Fin n)) : Int := match l.getLast? with | some x => ((x.1 : Nat) : Int) | none => 0
theorem lastF_snoc {n : Nat} (l : List (Fin n)) (x : Fin n) : lastF (l ++ [x]) = ((x.1 : Nat) : Int) := by unfold lastF; rw [List.getLast?_concat]
end Go.Pub
namespace Go.Proofs.YthfienjmigidbaaDoor
open Go.RowKit Go.Pub Go.Shelf
attribute [local go_sem] Oper.semAt_some

theorem characters_any (s : ByteArray) (w : World) : Calls Tryd.prog 30 #[.string s] w fun e w' =>
    e = .returned (.func (.func 42) #[] #[.pointer (some ⟨w.heap.size, 0, none⟩)]) ∧ w' = w.alloc (.cells #[.string s] 9) := by
  go_enter Tryd.func30, Tryd.ntmps30
  go_wp2
  go_ret
  exact ⟨rfl, rfl⟩

set_option maxRecDepth 100000 in
set_option maxHeartbeats 2000000 in
theorem chars_stops (n : Nat) (hn : 1 ≤ n) (Bn : Nat) (s : ByteArray) (hs : s.size ≤ 1000000) (w : World) (hB : w.heap[Bn]? = some (.cells #[.string s] 9 (0, 0))) :
    SeqStopsK Fence.wide n Tryd.prog 42 #[.pointer (some ⟨Bn, 0, none⟩)] (fun x : Fin s.size => #[Value.int .i64 (x.1 : Nat), Value.int .u8 (bt s x.1)]) (KpB Bn) (fun ys => ys.map Fin.val = List.range s.size) (fun pre => pre.map Fin.val <+: List.range s.size) s.size w := fun l J Jx W hW _ _ hY h0 => by
  have hlt : Bn < w.heap.size := by
    rcases Nat.lt_or_ge Bn w.heap.size with h | h
    · exact h
    · rw [Array.getElem?_eq_none h] at hB; cases hB
  have hBW : W.heap[Bn]? = some (.cells #[.string s] 9 (0, 0)) := (hW.block Bn hlt).trans hB
  have hcW : W.cell? ⟨Bn, 0, none⟩ = some (.string s) := cell_of_row W Bn 0 _ _ _ hBW
  refine callsIn_of_wp Tryd.func42 rfl trivial ?_ rfl
  simp only [Tryd.ntmps42, List.size_toArray, List.length_cons, List.length_nil, Nat.reduceAdd, Nat.reduceSub, Array.replicate_succ, Array.replicate_zero, List.push_toArray, List.append_toArray, List.nil_append, List.cons_append]
  gi_wp2
  gi_loopw [6] (fun v6 wr => ∃ (i : Nat) (pre : List (Fin s.size)), v6 = .int .i64 i ∧ i ≤ s.size ∧ wr.heap[Bn]? = some (.cells #[.string s] 9 (0, 0)) ∧ Hid (pre.map Fin.val = List.range i) ∧ J pre wr)
    (fun v6 _ => s.size - (intOf v6).toNat)
  case atStart => exact ⟨0, [], rfl, by omega, hBW, Lib.hid rfl, h0⟩
  case round =>
    clear hcW hBW h0
    obtain ⟨i, pre, rfl, hi, hBr, HPre, hJs⟩ := hrel
    have hc : wr.cell? ⟨Bn, 0, none⟩ = some (.string s) := cell_of_row wr Bn 0 _ _ _ hBr
    have hpl : pre.length = i := by
      have := congrArg List.length HPre.out
      rwa [List.length_map, List.length_range] at this
    by_cases hlt2 : i < s.size
    · have hg := get_bt s i hlt2
      have HN : Hid ((pre ++ [(⟨i, hlt2⟩ : Fin s.size)]).map Fin.val = List.range (i + 1)) := Lib.hid (by rw [List.map_append, HPre.out, List.range_succ]; rfl)
      obtain ⟨fn, tmps, assign, body, hy, hR⟩ := hY pre ⟨i, hlt2⟩ wr hJs (by omega)
      clear hpl
      gi_wp2_with fail
      refine hR.mono ?_
      rintro e W3 (⟨rfl, hJ3, hk3⟩ | ⟨rfl, hJx3⟩)
      · have hB3 : W3.heap[Bn]? = some (.cells #[.string s] 9 (0, 0)) := hk3.trans hBr
        gi_wp2_with fail
        go_roundw
        case rel => exact ⟨i + 1, _, by go_num, by omega, hB3, HN, hJ3⟩
        case measure => simp [intOf]; omega
      · gi_wp2_with fail
        refine bodyPost_ret (results_none rfl _ _ _) rfl ?_
        exact ⟨⟨_, rfl⟩, .inr ⟨_, by rw [HN.out]; exact range_pre' (by omega), hJx3⟩⟩
    · obtain rfl : i = s.size := by omega
      gi_wp2_with fail
      go_end0
      exact ⟨⟨_, rfl⟩, .inl ⟨_, HPre.out, hJs⟩⟩

set_option maxRecDepth 100000 in
set_option maxHeartbeats 4000000 in
theorem m_run (s : ByteArray) (c : Nat) (hc : c < 256) (w : World) (hs : s.size ≤ 1000000) : Calls Tryd.prog 24 #[.string s, .int .u8 c] w fun e w' => e = .returned (.int .i64 (firstN s (· != c))) ∧ Below w.heap.size w w' := by
  have HP := Lib.hid fun W => characters_any s W
  refine (callsIn_wide (n := 5)).1 ?_
  refine callsIn_of_wp_marks Tryd.func24 rfl trivial ?_ rfl
  simp only [Tryd.ntmps24, List.size_toArray, List.length_cons, List.length_nil, Nat.reduceAdd, Nat.reduceSub, Array.replicate_succ, Array.replicate_zero, List.push_toArray, List.append_toArray, List.nil_append, List.cons_append]
  gi_wp2_with fail
  refine ⟨trivial, ?_⟩
  ((with_reducible refine (callsIn_wide.2 (HP.out _)).mono ?_))
  rintro e w' ⟨rfl, rfl⟩
  gi_wp2_with fail
  have bC := Boxed.new w 5 (.int .u8 c)
  have bR := Boxed.new (w.alloc (.cells #[.int .u8 c] 5)) 3 (.int .i64 0)
  rw [World.size_alloc] at bR
  have bS := Boxed.new ((w.alloc (.cells #[.int .u8 c] 5)).alloc (.cells #[.int .i64 0] 3)) 9 (.string s)
  rw [World.size_alloc, World.size_alloc] at bS
  have hB0 : Below w.heap.size w (((w.alloc (.cells #[.int .u8 c] 5)).alloc (.cells #[.int .i64 0] 3)).alloc (.cells #[.string s] 9)) := (((Below.refl _ w).alloc (Nat.le_refl _) _).alloc (by simp) _).alloc (by simp; omega) _
  have bC' := (bC.alloc (.cells #[.int .i64 0] 3)).alloc (.cells #[.string s] 9)
  have bR' := bR.alloc (.cells #[.string s] 9)
  have hzW : (((w.alloc (.cells #[.int .u8 c] 5)).alloc (.cells #[.int .i64 0] 3)).alloc (.cells #[.string s] 9)).heap.size = w.heap.size + 3 := by simp
  generalize (((w.alloc (.cells #[.int .u8 c] 5)).alloc (.cells #[.int .i64 0] 3)).alloc (.cells #[.string s] 9)) = W0 at *
  clear bC bR
  refine wpIn_rangeFunc_ownG rfl (by omega) (gf := 42) (lb := #[.pointer (some ⟨w.heap.size + 1 + 1, 0, none⟩)]) rfl trivial (enters_of Tryd.func42 (by kernel_rfl) rfl)
    (chars_stops 4 (by omega) (w.heap.size + 1 + 1) s hs _ bS) (Kp := KpB (w.heap.size + 1 + 1)) (fun h1 h2 => h2.trans h1) (fun W l o o' hl ho hc _ => World.putObj_heap_other (fun e => by omega)) (Below.refl _ _) (fun _ => rfl)
    (fun (pre : List (Fin s.size)) W => (Boxed W w.heap.size 5 (.int .u8 c) ∧ Boxed W (w.heap.size + 1 + 1) 9 (.string s)) ∧ Boxed W (w.heap.size + 1) 3 (.int .i64 0) ∧ (∀ j ∈ pre, bt s j.1 = c) ∧ Below w.heap.size w W)
    (fun q (pre : List (Fin s.size)) W => (q = Code.ret ∧ ∃ pr x, pre = pr ++ [x] ∧ (∀ j ∈ pr, bt s j.1 = c) ∧ bt s x.1 ≠ c) ∧ Boxed W (w.heap.size + 1) 3 (.int .i64 (lastF pre)) ∧ Below w.heap.size w W)
    (OwnFrom.and (OwnFrom.and (Own.from (boxed_own _ _ (fun _ => .int .u8 c)) _) (Own.from (boxed_own _ _ (fun _ => .string s)) _)) (OwnFrom.and (Own.from (boxed_own _ _ (fun _ => .int .i64 0)) _) (OwnFrom.and (ownFrom_pure _ _) (ownFrom_below (Nat.le_refl _) (by omega)))))
    (fun q => OwnFrom.and (ownFrom_pure _ _) (OwnFrom.and (Own.from (boxed_own _ _ (fun pre => .int .i64 (lastF pre))) _) (ownFrom_below (Nat.le_refl _) (by omega))))
    ⟨⟨bC', bS⟩, bR', fun j h => absurd h (by simp), hB0⟩
    (fun (x : Fin s.size) => { tmps := #[.string s, .int .u8 c, undef, .pointer (some ⟨w.heap.size, 0, none⟩), .pointer (some ⟨w.heap.size + 1, 0, none⟩), .int .i64 (x.1 : Nat), .int .u8 (bt s x.1), .string s, .func (.func 42) #[] #[.pointer (some ⟨w.heap.size + 1 + 1, 0, none⟩)], .int .i64 (x.1 : Nat), .int .u8 (bt s x.1), undef, undef, undef, undef, undef, undef], defers := [] }) ?assign ?body ?done ?stop
  case assign =>
    intro l x W K hK
    gi_wp2_with fail
    exact hK
  case body =>
    rintro l pre x W ⟨⟨hC, hsB⟩, hR, hg, hB⟩ hlt
    have HG := Lib.hid hg
    clear hg
    have k1 := hC.cell
    have k2 := hR.cell
    have k3 := hR.frozen
    by_cases hx : bt s x.1 = c
    · have d1 : (((bt s x.1 : Nat) : Int) != (c : Int)) = false := by rw [hx]; simp
      have HN : Hid (∀ j ∈ pre ++ [x], bt s j.1 = c) := Lib.hid fun j hj => by
        rcases List.mem_append.1 hj with hj | hj
        · exact HG.out j hj
        · rw [List.mem_singleton] at hj; rw [hj]; exact hx
      clear hx
      gi_wp2_with fail
      exact ⟨(KeepsOthers.refl _).from _, rfl, ⟨hC, hsB⟩, hR, HN.out, hB⟩
    · have d1 : (((bt s x.1 : Nat) : Int) != (c : Int)) = true := by rw [bne_iff_ne]; omega
      have HX := Lib.hid hx
      clear hx
      gi_wp2_with fail
      exact ⟨(KeepsOthers.setCell _ _ _).from _, ⟨rfl, pre, x, rfl, HG.out, HX.out⟩, by rw [lastF_snoc]; exact hR.set _, hB.setCell (p := ⟨w.heap.size + 1, 0, none⟩) (by show w.heap.size ≤ w.heap.size + 1; omega) _⟩
  case done =>
    rintro D ys W hD hys ⟨⟨hC, hsB⟩, hR, hg, hB⟩ hK
    have HE : Hid (firstN s (· != c) = s.size) := Lib.hid (firstN_eq s _ _ (Nat.le_refl _) (fun j hj => by
      rw [bne_eq_false_iff_eq]
      have : j ∈ ys.map Fin.val := by rw [hys]; exact List.mem_range.2 hj
      obtain ⟨y, hy, rfl⟩ := List.mem_map.1 this
      exact hg y hy) (fun h => absurd h (by omega)))
    clear hg hys
    have k2 := hR.cell
    have k3 := hR.frozen
    have q1 := hR.set (.int .i64 s.size)
    have q3 : Below w.heap.size w (W.setCell ⟨w.heap.size + 1, 0, none⟩ (.int .i64 s.size)) := hB.setCell (p := ⟨w.heap.size + 1, 0, none⟩) (by show w.heap.size ≤ w.heap.size + 1; omega) _
    have hK' := (KeepsOthers.setCell W ⟨w.heap.size + 1, 0, none⟩ (.int .i64 s.size)).same D _ hK rfl
    gi_wp2_with fail
    refine ⟨by simp, .inl ⟨_, _, rfl, run_takeDeferred hK', ?_⟩⟩
    have c1 := cell_kept q1.cell (grownBy_putObj' _ D (.deferred none)) (fun r e => by cases e; exact ⟨_, hK', rfl⟩)
    refine ⟨.int .i64 s.size, by simp [results, Tryd.results24, go_sem, c1], ?_, q3.trans (belowK_b (w := w) (Nat.le_refl _) _ D _ _ (by omega) hK' rfl rfl)⟩
    rw [HE.out]
  case stop =>
    rintro D q pre W hD hpre ⟨⟨rfl, pr, x, rfl, hg, hx⟩, hR, hB⟩ hK
    rw [List.map_append] at hpre
    obtain ⟨hp1, hp2⟩ := pre_snoc hpre
    have HE : Hid (firstN s (· != c) = x.1) := Lib.hid (firstN_eq s _ _ (Nat.le_of_lt hp2) (fun j hj => by
      rw [bne_eq_false_iff_eq]
      have : j ∈ pr.map Fin.val := by rw [hp1]; exact List.mem_range.2 hj
      obtain ⟨y, hy, rfl⟩ := List.mem_map.1 this
      exact hg y hy) (fun _ => by rw [bne_iff_ne]; exact hx))
    rw [lastF_snoc] at hR
    clear hg hx hpre hp1
    gi_wp2_with fail
    refine ⟨by simp, .inl ⟨_, _, rfl, run_takeDeferred hK, ?_⟩⟩
    have c1 := cell_kept hR.cell (grownBy_putObj' _ D (.deferred none)) (fun r e => by cases e; exact ⟨_, hK, rfl⟩)
    refine ⟨.int .i64 x.1, by simp [results, Tryd.results24, go_sem, c1], ?_, hB.trans (belowK_b (w := w) (Nat.le_refl _) _ D _ _ (by omega) hK rfl rfl)⟩
    rw [HE.out]
end Go.Proofs.YthfienjmigidbaaDoor
