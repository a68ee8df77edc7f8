/-
  Texts of the proof, put together (what this law reaches): ScI.
-/
import Derived.Test.YtfnloonmeilhlaaGreatDoorT26
import Derived.Test.YtfnloonmeilhlaaGreatDoorT24
set_option linter.unusedVariables false
set_option linter.unusedSimpArgs false
namespace Go.Pub
theorem any_enc (p : UInt8 → Bool) (hp : ∀ b, 128 ≤ b.toNat → p b = false) (c : Nat) (h : Scalar c) : (encL (c : Int)).any p = (decide (c < 128) && p (UInt8.ofNat c)) := by
  rw [encL_scalar c h]
  unfold Scalar at h
  by_cases h1 : c < 128
  · rw [encN_one c h1, decide_eq_true h1, Bool.true_and]
    show ([UInt8.ofNat c].any p) = _
    simp
  · rw [decide_eq_false h1, Bool.false_and]
    by_cases h2 : c < 2048
    · rw [encN_two c h1 h2]
      show ([UInt8.ofNat (192 + c / 64), UInt8.ofNat (128 + c % 64)].any p) = _
      simp only [List.any_cons, List.any_nil, Bool.or_false]
      rw [hp _ (by rw [ofNat_toNat _ (by omega)]; omega), hp _ (by rw [ofNat_toNat _ (by omega)]; omega)]; rfl
    · by_cases h3 : c < 65536
      · rw [encN_three c h1 h2 h3]
        show ([UInt8.ofNat (224 + c / 4096), UInt8.ofNat (128 + c / 64 % 64), UInt8.ofNat (128 + c % 64)].any p) = _
        simp only [List.any_cons, List.any_nil, Bool.or_false]
        rw [hp _ (by rw [ofNat_toNat _ (by omega)]; omega), hp _ (by rw [ofNat_toNat _ (by omega)]; omega), hp _ (by rw [ofNat_toNat _ (by omega)]; omega)]; rfl
      · rw [encN_four c h1 h2 h3]
        show ([UInt8.ofNat (240 + c / 262144), UInt8.ofNat (128 + c / 4096 % 64), UInt8.ofNat (128 + c / 64 % 64), UInt8.ofNat (128 + c % 64)].any p) = _
        simp only [List.any_cons, List.any_nil, Bool.or_false]
        rw [hp _ (by rw [ofNat_toNat _ (by omega)]; omega), hp _ (by rw [ofNat_toNat _ (by omega)]; omega), hp _ (by rw [ofNat_toNat _ (by omega)]; omega), hp _ (by rw [ofNat_toNat _ (by omega)]; omega)]; rfl
theorem any_dec (p : UInt8 → Bool) (hp : ∀ b, 128 ≤ b.toNat → p b = false) (l : List UInt8) (h : l ≠ []) : (l.take (decL l).2).any p = (decide ((decL l).1 < 128) && p (UInt8.ofNat (decL l).1)) := by
  by_cases hg : decL l = (65533, 1)
  · rw [hg]
    cases l with
    | nil => exact absurd rfl h
    | cons x l =>
      by_cases hx : x.toNat < 128
      · rw [dec_ascii_head x l hx] at hg
        injection hg with h1 _
        omega
      · show ([x].any p) = _
        simp only [List.any_cons, List.any_nil, Bool.or_false]
        rw [hp _ (by omega)]; rfl
  · rw [← enc_decL l h hg]
    exact any_enc p hp _ (decL_scalar l h)
theorem dec_high (s : ByteArray) (i : Nat) (h : 128 ≤ bt s i) : 128 ≤ (Utf8.decode s i).1 := by
  rw [decode_decL]
  have h0 : 128 ≤ atL ((bytesL s).drop i) 0 := by rw [← bt_atL]; exact h
  unfold decL
  rcases decodeN_cases ((bytesL s).drop i).length (atL ((bytesL s).drop i) 0) (atL ((bytesL s).drop i) 1) (atL ((bytesL s).drop i) 2) (atL ((bytesL s).drop i) 3) with e | ⟨c, e⟩ | ⟨c, e⟩ | ⟨c, e⟩ | ⟨c, e⟩ <;> rw [e]
  all_goals (simp only [] at *; omega)
/-- The first byte of a set, by counting. -/
theorem index_cnt (cs : List UInt8) : ∀ l : List UInt8, Lib.indexAny l cs = if cntW (fun b => !cs.contains (UInt8.ofNat b)) l < l.length then (cntW (fun b => !cs.contains (UInt8.ofNat b)) l : Int) else -1
  | [] => rfl
  | b :: l => by
    have hb : UInt8.ofNat b.toNat = b := by simp
    have hl := cntW_le (fun b => !cs.contains (UInt8.ofNat b)) l
    unfold Lib.indexAny cntW
    rw [index_cnt cs l, hb]
    cases hc : cs.contains b
    · simp only [Bool.not_false, if_true, Bool.false_eq_true, if_false, List.length_cons]
      by_cases h : cntW (fun b => !cs.contains (UInt8.ofNat b)) l < l.length
      · rw [if_pos h, if_neg (by simp), if_pos (by omega)]; omega
      · rw [if_neg h, if_neg (show ¬ (cntW (fun b => !cs.contains (UInt8.ofNat b)) l + 1 < l.length + 1) by omega)]; rfl
    · simp
theorem index_hit (cs : List UInt8) : ∀ (l : List UInt8) (k : Nat) (x : UInt8), (l.take k).any (cs.contains ·) = false → l[k]? = some x → cs.contains x = true → Lib.indexAny l cs = k
  | [], k, x, _, h, _ => by simp at h
  | b :: l, 0, x, _, h, hc => by simp at h; subst h; unfold Lib.indexAny; rw [if_pos hc]; rfl
  | b :: l, k + 1, x, h1, h, hc => by
    rw [List.take_succ_cons, List.any_cons, Bool.or_eq_false_iff] at h1
    unfold Lib.indexAny
    rw [h1.1, index_hit cs l k x h1.2 (by simpa using h) hc]
    simp only [Bool.false_eq_true, if_false]
    rw [if_neg (by simp)]; omega
theorem index_no (cs : List UInt8) : ∀ l : List UInt8, l.any (cs.contains ·) = false → Lib.indexAny l cs = -1
  | [], _ => rfl
  | b :: l, h => by
    rw [List.any_cons, Bool.or_eq_false_iff] at h
    unfold Lib.indexAny
    rw [h.1, index_no cs l h.2]; rfl
theorem index_any (cs : List UInt8) (l : List UInt8) : decide (0 ≤ Lib.indexAny l cs) = l.any (cs.contains ·) := by
  induction l with
  | nil => rfl
  | cons b l ih =>
    have hg := Lib.indexAny_ge cs l
    unfold Lib.indexAny
    rw [List.any_cons, ← ih]
    cases hc : cs.contains b
    · simp only [Bool.false_eq_true, if_false, Bool.false_or]
      by_cases h : Lib.indexAny l cs = -1
      · rw [h]; rfl
      · rw [if_neg (by simpa using h)]
        congr 1; apply propext; omega
    · simp
theorem byte_no (c : UInt8) : ∀ l : List UInt8, (∀ b ∈ l, b ≠ c) → Lib.indexByte l c = -1
  | [], _ => rfl
  | b :: l, h => by
    unfold Lib.indexByte
    rw [if_neg (by simpa using h b List.mem_cons_self), byte_no c l fun x hx => h x (List.mem_cons_of_mem _ hx)]; rfl
theorem byte_has (c : UInt8) : ∀ l : List UInt8, (0 ≤ Lib.indexByte l c ↔ l.contains c = true)
  | [] => by simp [Lib.indexByte]
  | b :: l => by
    have ih := byte_has c l
    have hg := Lib.indexByte_ge l c
    unfold Lib.indexByte
    by_cases h : b = c
    · subst h; simp
    · rw [if_neg (by simpa using h), List.contains_cons, show (c == b) = false by simpa using Ne.symm h, Bool.false_or, ← ih]
      by_cases h2 : Lib.indexByte l c = -1
      · rw [h2]; simp
      · rw [if_neg (by simpa using h2)]; omega
end Go.Pub
namespace Go.Proofs.YtfnloonmeilhlaaGreatDoor
open Go.RowKit Go.Pub
/-- A set of ASCII bytes. -/
def Asc (cs : ByteArray) : Prop := ∀ b ∈ bytesL cs, b.toNat < 128
theorem Asc.bt {cs : ByteArray} (h : Asc cs) {k : Nat} (hk : k < cs.size) : bt cs k < 128 := by
  have := h (cs.get! k) (by
    unfold bytesL
    rw [show cs.get! k = cs.data[k]'hk from getElem!_pos cs.data k hk]
    exact Array.mem_toList_iff.2 (Array.getElem_mem _))
  exact this
set_option maxRecDepth 1000000 in
set_option maxHeartbeats 4000000 in
theorem runeX_err (cs : ByteArray) (hcs : Asc cs) (w : World) : Calls Tryz.prog 79 #[.string cs, .int .i32 65533] w fun e w' => e = .returned (.int .i64 (-1)) ∧ Below w.heap.size w w' := by
  have HA := Lib.hid hcs
  clear hcs
  go_enter Tryz.func79, Tryz.ntmps79
  go_wp2_with fail
  go_loopw [] (fun wr => ∃ pos, wr.heap[w.heap.size]? = some (.stringIter cs pos) ∧ Below w.heap.size w wr ∧ pos ≤ cs.size) (fun wr => cs.size - wr.iterPos w.heap.size)
  case atStart => exact ⟨0, World.iter_heap w cs 0, (Below.refl _ w).alloc (Nat.le_refl _) _, Nat.zero_le _⟩
  case round =>
    obtain ⟨pos, hit, hbw, hps⟩ := hrel
    by_cases hp : pos < cs.size
    · have hd := dec_one cs pos (HA.out.bt hp)
      have hnx : ∀ ty, (Instr.next (.pointer (some ⟨w.heap.size, 0, none⟩)) true ty).run Tryz.prog wr = _ := fun ty => Lib.run_next_any_at wr w.heap.size cs pos ty hit hp
      simp only [hd] at hnx
      have hne : ((bt cs pos : Int) == 65533) = false := beq_eq_false_iff_ne.2 (by have := HA.out.bt hp; omega)
      have hit2 := Lib.hid (Lib.iterAt_heap wr w.heap.size cs pos (pos + 1) hit)
      have hbw2 := Lib.hid (Lib.below_iterAt hbw (k := w.heap.size) (Nat.le_refl _) cs (pos + 1))
      have hitk := Lib.hid hit
      clear hit hd
      go_wp2_with fail
      go_roundw
      case rel => exact ⟨pos + 1, hit2.out, hbw2.out, hp⟩
      case measure =>
        simp only [World.iterPos, hit2.out, hitk.out]
        omega
    · have hnx : ∀ ty, (Instr.next (.pointer (some ⟨w.heap.size, 0, none⟩)) true ty).run Tryz.prog wr = _ := fun ty => Lib.run_next_end_at wr w.heap.size cs pos ty hit hp
      go_wp2_with fail
      go_ret
      exact ⟨rfl, hbw⟩

set_option maxRecDepth 1000000 in
set_option maxHeartbeats 4000000 in
theorem runeX_more (cs : ByteArray) (hcs : Asc cs) (hN : cs.size ≤ 1000) (r : Nat) (w : World) (h1 : 128 ≤ r) (h2 : r ≠ 65533) (h3 : r < 55296 ∨ (57343 < r ∧ r ≤ 1114111)) :
    Calls Tryz.prog 79 #[.string cs, .int .i32 r] w fun e w' => e = .returned (.int .i64 (-1)) ∧ Below w.heap.size w w' := by
  have h0 : (0 : Int) ≤ r := by omega
  have z1 : ((r : Int) == 65533) = false := by rw [beq_eq_false_iff_ne]; omega
  have z2 : 128 ≤ (r : Int) := by omega
  have HV : Hid (∀ W, Calls Tryz.prog 101 #[.int .i32 r] W fun e w' => e = .returned (.bool true) ∧ W = w') := Lib.hid fun W => by
    refine (Tryz.utf8_ValidRune r W).mono ?_
    rintro e w' ⟨rfl, rfl⟩
    exact ⟨ret_bool (by unfold Lib.validRune; simp; omega), rfl⟩
  have HA := Lib.hid hcs
  have HI : Hid (∀ (k : Nat) (c : UInt8) (W : World), 128 ≤ c.toNat → Calls Tryz.prog 100 #[.string (cs.extract k cs.size), .int .u8 c.toNat] W fun e w' => e = .returned (.int .i64 (-1)) ∧ W = w') := Lib.hid fun k c W h => by
    refine (Tryz.strings_IndexByte (cs.extract k cs.size) c.toNat W).mono ?_
    rintro e w' ⟨rfl, rfl⟩
    refine ⟨ret_int ?_, rfl⟩
    have e1 : ((c.toNat : Int).toNat.toUInt8) = c := by simp
    rw [e1]
    refine byte_no c _ fun b hb e => ?_
    subst e
    have hb' : b ∈ bytesL cs := by
      have h2 : b ∈ sub cs k cs.size := by rw [← bytesL_sub]; exact hb
      exact List.mem_of_mem_drop (List.mem_of_mem_take h2)
    have := hcs b hb'
    omega
  have hE : (∃ a b : UInt8, Utf8.encode (r : Int) = ⟨#[a, b]⟩ ∧ 128 ≤ b.toNat) ∨ (∃ a b c : UInt8, Utf8.encode (r : Int) = ⟨#[a, b, c]⟩ ∧ 128 ≤ c.toNat) ∨ (∃ a b c d : UInt8, Utf8.encode (r : Int) = ⟨#[a, b, c, d]⟩ ∧ 128 ≤ d.toNat) := by
    rw [enc_nat r (valid_of r (by omega))]
    by_cases h : r < 2048
    · left; rw [encN_two r (by omega) h]; exact ⟨_, _, rfl, by rw [ofNat_toNat _ (by omega)]; omega⟩
    · right
      by_cases h : r < 65536
      · left; rw [encN_three r (by omega) (by omega) h]; exact ⟨_, _, _, rfl, by rw [ofNat_toNat _ (by omega)]; omega⟩
      · right; rw [encN_four r (by omega) (by omega) h]; exact ⟨_, _, _, _, rfl, by rw [ofNat_toNat _ (by omega)]; omega⟩
  clear h1 h2 h3 hcs
  have go : ∀ (R : ByteArray) (L : Nat), Utf8.encode (r : Int) = R → R.size = L + 1 → L ≤ 3 → 128 ≤ bt R L → Calls Tryz.prog 79 #[.string cs, .int .i32 r] w fun e w' => e = .returned (.int .i64 (-1)) ∧ Below w.heap.size w w' := by
    intro R L hR hl hL hb
    have HI2 : Hid (∀ W, Calls Tryz.prog 100 #[.string (cs.extract (L + 1) cs.size), .int .u8 (bt R L)] W fun e w' => e = .returned (.int .i64 (-1)) ∧ W = w') := Lib.hid fun W => HI.out (L + 1) (R.get! L) W hb
    clear HI
    have hLz : ((R.size : Int) - 1) = (L : Int) := by omega
    have hbi : ∀ h : L < R.size, ((R[L]'h).toNat : Int) = (bt R L : Int) := fun h => by rw [get_bt R L h]
    by_cases hc : L < cs.size
    · have hci : ((cs[L]'hc).toNat : Int) = (bt cs L : Int) := by rw [get_bt cs L hc]
      have hne : ((bt cs L : Int) != (bt R L : Int)) = true := by have := HA.out.bt hc; simp; omega
      go_enter Tryz.func79, Tryz.ntmps79
      go_wp2_with fail
      ((with_reducible refine (HV.out _).mono ?_))
      rintro e w1 ⟨rfl, rfl⟩
      go_wp2_with fail
      go_step3
      go_wp2_with fail
      refine wp_loop_rounds 1 ?_
      rw [rounds_succ]
      go_wp2_with fail
      go_step3
      go_wp2_with fail
      go_quiet (fail)
      have hb1 := Lib.hid (below_drewN (Below.refl w.heap.size w) nq)
      generalize w.drewN nq = W1 at *
      go_wp2_with fail
      go_quiet ((go_at_call 100; exact quietLeft (HI2.out _)))
      have hb2 := Lib.hid (below_drewN hb1.out nq)
      generalize W1.drewN nq = W2 at *
      go_wp2_with fail
      rw [Exit.noGoto_ret]
      go_wp2_with fail
      rw [Exit.noGoto_ret]
      go_wp2_with fail
      go_ret
      exact ⟨rfl, hb2.out⟩
    · go_enter Tryz.func79, Tryz.ntmps79
      go_wp2_with fail
      ((with_reducible refine (HV.out _).mono ?_))
      rintro e w1 ⟨rfl, rfl⟩
      go_wp2_with fail
      go_step3
      go_wp2_with fail
      refine wp_loop_rounds 1 ?_
      rw [rounds_succ]
      go_wp2_with fail
      rw [Exit.noGoto_ret]
      go_wp2_with fail
      go_ret
      exact ⟨rfl, Below.refl _ _⟩
  rcases hE with ⟨a, b, hE, hb⟩ | ⟨a, b, c, hE, hb⟩ | ⟨a, b, c, d, hE, hb⟩
  · exact go _ 1 hE rfl (by omega) hb
  · exact go _ 2 hE rfl (by omega) hb
  · exact go _ 3 hE rfl (by omega) hb

def setB (cs : ByteArray) (r : Nat) : Bool := decide (r < 128) && (bytesL cs).contains (UInt8.ofNat r)
theorem runeX_any (cs : ByteArray) (hcs : Asc cs) (hN : cs.size ≤ 1000) (r : Nat) (w : World) (hr : r < 55296 ∨ (57343 < r ∧ r ≤ 1114111)) :
    Calls Tryz.prog 79 #[.string cs, .int .i32 r] w (IdxPost (setB cs r) w) := by
  unfold setB
  by_cases h1 : r < 128
  · refine (Tryz.strings_IndexRune_ascii cs r w (by omega) (by omega)).mono ?_
    rintro e w' ⟨rfl, rfl⟩
    refine ⟨_, rfl, ?_, Below.refl _ _⟩
    have e1 : ((r : Int).toNat.toUInt8) = UInt8.ofNat r := rfl
    rw [e1, decide_eq_true h1, Bool.true_and]
    exact byte_has _ _
  · rw [decide_eq_false h1, Bool.false_and]
    have key : Calls Tryz.prog 79 #[.string cs, .int .i32 r] w fun e w' => e = .returned (.int .i64 (-1)) ∧ Below w.heap.size w w' := by
      by_cases h3 : r = 65533
      · subst h3; exact runeX_err cs hcs w
      · exact runeX_more cs hcs hN r w (by omega) h3 hr
    refine key.mono ?_
    rintro e w' ⟨rfl, hb⟩
    exact ⟨-1, rfl, by simp, hb⟩
def IaX (s cs : ByteArray) (w : World) (wr : World) : Prop :=
  ∃ pos : Nat, wr.heap[w.heap.size]? = some (.stringIter s pos) ∧ Below w.heap.size w wr ∧ Hid (((bytesL s).take pos).any ((bytesL cs).contains ·) = false) ∧ pos ≤ s.size
set_option maxRecDepth 1000000 in
set_option maxHeartbeats 4000000 in
theorem anyX_short (s cs : ByteArray) (hcs : Asc cs) (hN : cs.size ≤ 1000) (h2 : 2 ≤ cs.size) (w : World) (hs : s.size ≤ 8) :
    Calls Tryz.prog 58 #[.string s, .string cs] w fun e w' => e = .returned (.int .i64 (Lib.indexAny (bytesL s) (bytesL cs))) ∧ Below w.heap.size w w' := by
  have HSh : Hid (∀ W, Calls Tryz.prog 80 #[.int .i64 s.size] W fun e w' => e = .returned (.bool false) ∧ W = w') := Lib.hid fun W => by
    refine (Tryz.strings_shouldUseASCIISet s.size W).mono ?_
    rintro e w' ⟨rfl, rfl⟩
    exact ⟨ret_bool (by simp; omega), rfl⟩
  have HR : Hid (∀ (r : Nat) W, Scalar r → Calls Tryz.prog 79 #[.string cs, .int .i32 r] W (IdxPost (setB cs r) W)) := Lib.hid fun r W h => runeX_any cs hcs hN r W h
  have HH := Lib.hid (index_hit (bytesL cs) (bytesL s))
  have HNo := Lib.hid (index_no (bytesL cs) (bytesL s))
  have HP : Hid (∀ b : UInt8, 128 ≤ b.toNat → (bytesL cs).contains b = false) := Lib.hid fun b hb => by
    cases hc : (bytesL cs).contains b
    · rfl
    · have := hcs b (by simpa using hc); omega
  have hem : cs.toList.isEmpty = false := by
    rw [Lib.toList_data]
    cases h : cs.data.toList with
    | nil => have := Lib.size_eq cs; rw [h, List.length_nil] at this; omega
    | cons _ _ => rfl
  have hn1 : ((cs.size : Int) == 1) = false := beq_eq_false_iff_ne.2 (by omega)
  clear hcs
  generalize Lib.indexAny (bytesL s) (bytesL cs) = G at *
  go_enter Tryz.func58, Tryz.ntmps58
  go_wp2_with fail
  ((with_reducible refine (HSh.out _).mono ?_))
  rintro e w1 ⟨rfl, rfl⟩
  go_wp2_with fail
  go_loopw [] (fun wr => IaX s cs w wr) (fun wr => s.size - wr.iterPos w.heap.size)
  case atStart =>
    exact ⟨0, World.iter_heap w s 0, (Below.refl _ w).alloc (Nat.le_refl _) _, Lib.hid rfl, by omega⟩
  case round =>
    obtain ⟨pos, hit, hbw, Hok, hps⟩ := hrel
    have hz := hbw.size
    by_cases hp : pos < s.size
    · have hd := dec_bd s pos hp
      have hne : (bytesL s).drop pos ≠ [] := by intro e; have := congrArg List.length e; rw [List.length_drop, bytesL_length] at this; simp at this; omega
      have hS : Scalar (Utf8.decode s pos).1 := by rw [decode_decL]; exact decL_scalar _ hne
      have hAny : Hid (((bytesL s).take (pos + (Utf8.decode s pos).2)).any ((bytesL cs).contains ·) = setB cs (Utf8.decode s pos).1) := Lib.hid (by
        have := any_dec ((bytesL cs).contains ·) HP.out _ hne
        rw [decode_decL, List.take_add, List.any_append, Hok.out, Bool.false_or]
        exact this)
      have hX : Hid (setB cs (Utf8.decode s pos).1 = true → (bytesL s)[pos]? = some (s.get! pos) ∧ (bytesL cs).contains (s.get! pos) = true) := Lib.hid fun h => by
        unfold setB at h
        rw [Bool.and_eq_true, decide_eq_true_eq] at h
        have hb : bt s pos < 128 := by
          rcases Nat.lt_or_ge (bt s pos) 128 with h1 | h1
          · exact h1
          · exfalso
            have h3 := dec_high s pos h1
            omega
        rw [dec_one s pos hb] at h
        refine ⟨?_, ?_⟩
        · unfold bytesL
          rw [show s.get! pos = s.data[pos]'hp from getElem!_pos s.data pos hp, Array.getElem?_toList]
          exact Array.getElem?_eq_getElem hp
        · have : UInt8.ofNat (bt s pos) = s.get! pos := by unfold bt; simp
          rw [← this]; exact h.2
      have hnx : ∀ ty, (Instr.next (.pointer (some ⟨w.heap.size, 0, none⟩)) true ty).run Tryz.prog wr = _ := fun ty => Lib.run_next_any_at wr w.heap.size s pos ty hit hp
      have hit2 := Lib.hid (Lib.iterAt_heap wr w.heap.size s pos (pos + (Utf8.decode s pos).2) hit)
      have hbw2 := Lib.hid (Lib.below_iterAt hbw (k := w.heap.size) (Nat.le_refl _) s (pos + (Utf8.decode s pos).2))
      have hsz2 : w.heap.size < (wr.iterAt w.heap.size s (pos + (Utf8.decode s pos).2)).heap.size := by rw [Lib.iterAt_size]; exact (Array.getElem?_eq_some_iff.1 hit).1
      have hitk := Lib.hid hit
      clear hit hne
      generalize Utf8.decode s pos = D at *
      have HC := Lib.hid fun W => HR.out D.1 W hS
      clear hS
      cases hsp : setB cs D.1
      · have dn : Hid (∀ W', Below (wr.iterAt w.heap.size s (pos + D.2)).heap.size (wr.iterAt w.heap.size s (pos + D.2)) W' → W'.heap[w.heap.size]? = some (.stringIter s (pos + D.2)) ∧ IaX s cs w W') := Lib.hid fun W' hW => by
          have e1 : W'.heap[w.heap.size]? = some (.stringIter s (pos + D.2)) := (hW.block _ hsz2).trans hit2.out
          exact ⟨e1, pos + D.2, e1, hbw2.out.trans (hW.mono (by omega)), Lib.hid (by rw [hAny.out, hsp]), by omega⟩
        rw [hsp] at HC
        clear hsp
        go_wp2_with fail
        ((with_reducible refine (HC.out _).mono ?_))
        rintro e w1 ⟨n, rfl, hn, b1⟩
        have hn1 : n < 0 := by
          rcases Int.lt_or_le n 0 with h | h
          · exact h
          · have := hn.1 h; simp at this
        clear hn
        go_wp2_with fail
        go_roundw
        case rel => exact (dn.out _ b1).2
        case measure =>
          simp only [World.iterPos, (dn.out _ b1).1, hitk.out]
          omega
      · have HT : Hid (G = (pos : Int)) := Lib.hid (HH.out pos _ Hok.out (hX.out hsp).1 (hX.out hsp).2)
        rw [hsp] at HC
        clear hsp
        go_wp2_with fail
        ((with_reducible refine (HC.out _).mono ?_))
        rintro e w1 ⟨n, rfl, hn, b1⟩
        have hn1 : 0 ≤ n := hn.2 rfl
        clear hn
        go_wp2_with fail
        go_ret
        exact ⟨ret_int (by rw [HT.out]), hbw2.out.trans (b1.mono (by omega))⟩
    · have hnx : ∀ ty, (Instr.next (.pointer (some ⟨w.heap.size, 0, none⟩)) true ty).run Tryz.prog wr = _ := fun ty => Lib.run_next_end_at wr w.heap.size s pos ty hit hp
      have HF : Hid (G = -1) := Lib.hid (HNo.out (by have := Hok.out; rwa [List.take_of_length_le (by rw [bytesL_length]; omega)] at this))
      go_wp2_with fail
      go_ret
      exact ⟨ret_int (by rw [HF.out]), hbw⟩

theorem anyX (s cs : ByteArray) (w : World) (hcs : Asc cs) (hN : cs.size ≤ 1000) (h2 : 2 ≤ cs.size) (hs : s.size ≤ 1000000) :
    Calls Tryz.prog 58 #[.string s, .string cs] w fun e w' => e = .returned (.int .i64 (Lib.indexAny (bytesL s) (bytesL cs))) ∧ Below w.heap.size w w' := by
  by_cases h : s.size ≤ 8
  · exact anyX_short s cs hcs hN h2 w h
  · refine (Tryz.strings_IndexAny_long (fun w => by kernel_rfl) s cs w h2 (by omega) (by omega) (by omega) ?_).mono ?_
    · intro j b hj
      exact hcs b (List.mem_of_getElem? hj)
    · rintro e w' ⟨rfl, rfl⟩
      exact ⟨rfl, ((Below.refl _ _).alloc (Nat.le_refl _) _).alloc (by simp) _⟩
set_option maxRecDepth 1000000 in
set_option maxHeartbeats 4000000 in
theorem containsX (s cs : ByteArray) (w : World) (hcs : Asc cs) (hN : cs.size ≤ 1000) (h2 : 2 ≤ cs.size) (hs : s.size ≤ 1000000) :
    Calls Tryz.prog 85 #[.string s, .string cs] w fun e w' => e = .returned (.bool ((bytesL s).any ((bytesL cs).contains ·))) ∧ Below w.heap.size w w' := by
  have HC := Lib.hid fun W => anyX s cs W hcs hN h2 hs
  have HX := Lib.hid (index_any (bytesL cs) (bytesL s))
  generalize Lib.indexAny (bytesL s) (bytesL cs) = n at *
  go_enter Tryz.func85, Tryz.ntmps85
  go_wp2_with fail
  ((with_reducible refine (HC.out _).mono ?_))
  rintro e w1 ⟨rfl, b1⟩
  go_wp2_with fail
  go_ret
  exact ⟨ret_bool HX.out, b1⟩

end Go.Proofs.YtfnloonmeilhlaaGreatDoor
