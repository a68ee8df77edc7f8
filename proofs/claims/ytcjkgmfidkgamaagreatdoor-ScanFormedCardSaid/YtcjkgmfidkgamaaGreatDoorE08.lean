/-
  Texts of the proof, put together (what this law reaches): ScI, ScAA, ScRE.
-/
import Derived.Test.YtcjkgmfidkgamaaGreatDoorE04
import Derived.Test.YtcjkgmfidkgamaaGreatDoorE07
import Derived.Test.YtcjkgmfidkgamaaGreatDoorE02
import Derived.Test.YtcjkgmfidkgamaaGreatDoorE05
import Derived.RangeFuncNested
import Derived.RangeFuncBound
import Derived.RangeFuncCalls
import Derived.RangeFuncLeaves
import Derived.OwnWalkIn
import Derived.TacticsInMore
import Derived.Laws.OwnMore
import Derived.Test.YtcjkgmfidkgamaaGreatDoorE06
import Derived.Laws.Tables
import Derived.Deep.DeepCutAuto
set_option linter.unusedVariables false
set_option linter.unusedSimpArgs false
namespace Go.Pub
theorem any_enc (p : UInt8 → Bool) (hp : ∀ b, 128 ≤ b.toNat → p b = false) (c : Nat) (h : Scalar c) : (encL (c : Int)).any p = (decide (c < 128) && p (UInt8.ofNat c)) := by
  rw [encL_scalar c h]
  unfold Scalar at h
  by_cases h1 : c < 128
  · rw [encN_one c h1, decide_eq_true h1, Bool.true_and]
    show ([UInt8.ofNat c].any p) = _
    simp
  · rw [decide_eq_false h1, Bool.false_and]
    by_cases h2 : c < 2048
    · rw [encN_two c h1 h2]
      show ([UInt8.ofNat (192 + c / 64), UInt8.ofNat (128 + c % 64)].any p) = _
      simp only [List.any_cons, List.any_nil, Bool.or_false]
      rw [hp _ (by rw [ofNat_toNat _ (by omega)]; omega), hp _ (by rw [ofNat_toNat _ (by omega)]; omega)]; rfl
    · by_cases h3 : c < 65536
      · rw [encN_three c h1 h2 h3]
        show ([UInt8.ofNat (224 + c / 4096), UInt8.ofNat (128 + c / 64 % 64), UInt8.ofNat (128 + c % 64)].any p) = _
        simp only [List.any_cons, List.any_nil, Bool.or_false]
        rw [hp _ (by rw [ofNat_toNat _ (by omega)]; omega), hp _ (by rw [ofNat_toNat _ (by omega)]; omega), hp _ (by rw [ofNat_toNat _ (by omega)]; omega)]; rfl
      · rw [encN_four c h1 h2 h3]
        show ([UInt8.ofNat (240 + c / 262144), UInt8.ofNat (128 + c / 4096 % 64), UInt8.ofNat (128 + c / 64 % 64), UInt8.ofNat (128 + c % 64)].any p) = _
        simp only [List.any_cons, List.any_nil, Bool.or_false]
        rw [hp _ (by rw [ofNat_toNat _ (by omega)]; omega), hp _ (by rw [ofNat_toNat _ (by omega)]; omega), hp _ (by rw [ofNat_toNat _ (by omega)]; omega), hp _ (by rw [ofNat_toNat _ (by omega)]; omega)]; rfl
theorem any_dec (p : UInt8 → Bool) (hp : ∀ b, 128 ≤ b.toNat → p b = false) (l : List UInt8) (h : l ≠ []) : (l.take (decL l).2).any p = (decide ((decL l).1 < 128) && p (UInt8.ofNat (decL l).1)) := by
  by_cases hg : decL l = (65533, 1)
  · rw [hg]
    cases l with
    | nil => exact absurd rfl h
    | cons x l =>
      by_cases hx : x.toNat < 128
      · rw [dec_ascii_head x l hx] at hg
        injection hg with h1 _
        omega
      · show ([x].any p) = _
        simp only [List.any_cons, List.any_nil, Bool.or_false]
        rw [hp _ (by omega)]; rfl
  · rw [← enc_decL l h hg]
    exact any_enc p hp _ (decL_scalar l h)
theorem dec_high (s : ByteArray) (i : Nat) (h : 128 ≤ bt s i) : 128 ≤ (Utf8.decode s i).1 := by
  rw [decode_decL]
  have h0 : 128 ≤ atL ((bytesL s).drop i) 0 := by rw [← bt_atL]; exact h
  unfold decL
  rcases decodeN_cases ((bytesL s).drop i).length (atL ((bytesL s).drop i) 0) (atL ((bytesL s).drop i) 1) (atL ((bytesL s).drop i) 2) (atL ((bytesL s).drop i) 3) with e | ⟨c, e⟩ | ⟨c, e⟩ | ⟨c, e⟩ | ⟨c, e⟩ <;> rw [e]
  all_goals (simp only [] at *; omega)
/-- The first byte of a set, by counting. -/
theorem index_cnt (cs : List UInt8) : ∀ l : List UInt8, Lib.indexAny l cs = if cntW (fun b => !cs.contains (UInt8.ofNat b)) l < l.length then (cntW (fun b => !cs.contains (UInt8.ofNat b)) l : Int) else -1
  | [] => rfl
  | b :: l => by
    have hb : UInt8.ofNat b.toNat = b := by simp
    have hl := cntW_le (fun b => !cs.contains (UInt8.ofNat b)) l
    unfold Lib.indexAny cntW
    rw [index_cnt cs l, hb]
    cases hc : cs.contains b
    · simp only [Bool.not_false, if_true, Bool.false_eq_true, if_false, List.length_cons]
      by_cases h : cntW (fun b => !cs.contains (UInt8.ofNat b)) l < l.length
      · rw [if_pos h, if_neg (by simp), if_pos (by omega)]; omega
      · rw [if_neg h, if_neg (show ¬ (cntW (fun b => !cs.contains (UInt8.ofNat b)) l + 1 < l.length + 1) by omega)]; rfl
    · simp
theorem index_hit (cs : List UInt8) : ∀ (l : List UInt8) (k : Nat) (x : UInt8), (l.take k).any (cs.contains ·) = false → l[k]? = some x → cs.contains x = true → Lib.indexAny l cs = k
  | [], k, x, _, h, _ => by simp at h
  | b :: l, 0, x, _, h, hc => by simp at h; subst h; unfold Lib.indexAny; rw [if_pos hc]; rfl
  | b :: l, k + 1, x, h1, h, hc => by
    rw [List.take_succ_cons, List.any_cons, Bool.or_eq_false_iff] at h1
    unfold Lib.indexAny
    rw [h1.1, index_hit cs l k x h1.2 (by simpa using h) hc]
    simp only [Bool.false_eq_true, if_false]
    rw [if_neg (by simp)]; omega
theorem index_no (cs : List UInt8) : ∀ l : List UInt8, l.any (cs.contains ·) = false → Lib.indexAny l cs = -1
  | [], _ => rfl
  | b :: l, h => by
    rw [List.any_cons, Bool.or_eq_false_iff] at h
    unfold Lib.indexAny
    rw [h.1, index_no cs l h.2]; rfl
theorem index_any (cs : List UInt8) (l : List UInt8) : decide (0 ≤ Lib.indexAny l cs) = l.any (cs.contains ·) := by
  induction l with
  | nil => rfl
  | cons b l ih =>
    have hg := Lib.indexAny_ge cs l
    unfold Lib.indexAny
    rw [List.any_cons, ← ih]
    cases hc : cs.contains b
    · simp only [Bool.false_eq_true, if_false, Bool.false_or]
      by_cases h : Lib.indexAny l cs = -1
      · rw [h]; rfl
      · rw [if_neg (by simpa using h)]
        congr 1; apply propext; omega
    · simp
theorem byte_no (c : UInt8) : ∀ l : List UInt8, (∀ b ∈ l, b ≠ c) → Lib.indexByte l c = -1
  | [], _ => rfl
  | b :: l, h => by
    unfold Lib.indexByte
    rw [if_neg (by simpa using h b List.mem_cons_self), byte_no c l fun x hx => h x (List.mem_cons_of_mem _ hx)]; rfl
theorem byte_has (c : UInt8) : ∀ l : List UInt8, (0 ≤ Lib.indexByte l c ↔ l.contains c = true)
  | [] => by simp [Lib.indexByte]
  | b :: l => by
    have ih := byte_has c l
    have hg := Lib.indexByte_ge l c
    unfold Lib.indexByte
    by_cases h : b = c
    · subst h; simp
    · rw [if_neg (by simpa using h), List.contains_cons, show (c == b) = false by simpa using Ne.symm h, Bool.false_or, ← ih]
      by_cases h2 : Lib.indexByte l c = -1
      · rw [h2]; simp
      · rw [if_neg (by simpa using h2)]; omega
end Go.Pub
namespace Go.Proofs.YtcjkgmfidkgamaaGreatDoor
open Go.RowKit Go.Pub
/-- A set of ASCII bytes. -/
def Asc (cs : ByteArray) : Prop := ∀ b ∈ bytesL cs, b.toNat < 128
theorem Asc.bt {cs : ByteArray} (h : Asc cs) {k : Nat} (hk : k < cs.size) : bt cs k < 128 := by
  have := h (cs.get! k) (by
    unfold bytesL
    rw [show cs.get! k = cs.data[k]'hk from getElem!_pos cs.data k hk]
    exact Array.mem_toList_iff.2 (Array.getElem_mem _))
  exact this
set_option maxRecDepth 1000000 in
set_option maxHeartbeats 4000000 in
theorem runeX_err (cs : ByteArray) (hcs : Asc cs) (w : World) : Calls Tryz.prog 101 #[.string cs, .int .i32 65533] w fun e w' => e = .returned (.int .i64 (-1)) ∧ Below w.heap.size w w' := by
  have HA := Lib.hid hcs
  clear hcs
  go_enter Tryz.func101, Tryz.ntmps101
  go_wp2_with fail
  go_loopw [] (fun wr => ∃ pos, wr.heap[w.heap.size]? = some (.stringIter cs pos) ∧ Below w.heap.size w wr ∧ pos ≤ cs.size) (fun wr => cs.size - wr.iterPos w.heap.size)
  case atStart => exact ⟨0, World.iter_heap w cs 0, (Below.refl _ w).alloc (Nat.le_refl _) _, Nat.zero_le _⟩
  case round =>
    obtain ⟨pos, hit, hbw, hps⟩ := hrel
    by_cases hp : pos < cs.size
    · have hd := dec_one cs pos (HA.out.bt hp)
      have hnx : ∀ ty, (Instr.next (.pointer (some ⟨w.heap.size, 0, none⟩)) true ty).run Tryz.prog wr = _ := fun ty => Lib.run_next_any_at wr w.heap.size cs pos ty hit hp
      simp only [hd] at hnx
      have hne : ((bt cs pos : Int) == 65533) = false := beq_eq_false_iff_ne.2 (by have := HA.out.bt hp; omega)
      have hit2 := Lib.hid (Lib.iterAt_heap wr w.heap.size cs pos (pos + 1) hit)
      have hbw2 := Lib.hid (Lib.below_iterAt hbw (k := w.heap.size) (Nat.le_refl _) cs (pos + 1))
      have hitk := Lib.hid hit
      clear hit hd
      go_wp2_with fail
      go_roundw
      case rel => exact ⟨pos + 1, hit2.out, hbw2.out, hp⟩
      case measure =>
        simp only [World.iterPos, hit2.out, hitk.out]
        omega
    · have hnx : ∀ ty, (Instr.next (.pointer (some ⟨w.heap.size, 0, none⟩)) true ty).run Tryz.prog wr = _ := fun ty => Lib.run_next_end_at wr w.heap.size cs pos ty hit hp
      go_wp2_with fail
      go_ret
      exact ⟨rfl, hbw⟩

set_option maxRecDepth 1000000 in
set_option maxHeartbeats 4000000 in
theorem runeX_more (cs : ByteArray) (hcs : Asc cs) (hN : cs.size ≤ 1000) (r : Nat) (w : World) (h1 : 128 ≤ r) (h2 : r ≠ 65533) (h3 : r < 55296 ∨ (57343 < r ∧ r ≤ 1114111)) :
    Calls Tryz.prog 101 #[.string cs, .int .i32 r] w fun e w' => e = .returned (.int .i64 (-1)) ∧ Below w.heap.size w w' := by
  have h0 : (0 : Int) ≤ r := by omega
  have z1 : ((r : Int) == 65533) = false := by rw [beq_eq_false_iff_ne]; omega
  have z2 : 128 ≤ (r : Int) := by omega
  have HV : Hid (∀ W, Calls Tryz.prog 137 #[.int .i32 r] W fun e w' => e = .returned (.bool true) ∧ W = w') := Lib.hid fun W => by
    refine (Tryz.utf8_ValidRune r W).mono ?_
    rintro e w' ⟨rfl, rfl⟩
    exact ⟨ret_bool (by unfold Lib.validRune; simp; omega), rfl⟩
  have HA := Lib.hid hcs
  have HI : Hid (∀ (k : Nat) (c : UInt8) (W : World), 128 ≤ c.toNat → Calls Tryz.prog 63 #[.string (cs.extract k cs.size), .int .u8 c.toNat] W fun e w' => e = .returned (.int .i64 (-1)) ∧ W = w') := Lib.hid fun k c W h => by
    refine (Tryz.strings_IndexByte (cs.extract k cs.size) c.toNat W).mono ?_
    rintro e w' ⟨rfl, rfl⟩
    refine ⟨ret_int ?_, rfl⟩
    have e1 : ((c.toNat : Int).toNat.toUInt8) = c := by simp
    rw [e1]
    refine byte_no c _ fun b hb e => ?_
    subst e
    have hb' : b ∈ bytesL cs := by
      have h2 : b ∈ sub cs k cs.size := by rw [← bytesL_sub]; exact hb
      exact List.mem_of_mem_drop (List.mem_of_mem_take h2)
    have := hcs b hb'
    omega
  have hE : (∃ a b : UInt8, Utf8.encode (r : Int) = ⟨#[a, b]⟩ ∧ 128 ≤ b.toNat) ∨ (∃ a b c : UInt8, Utf8.encode (r : Int) = ⟨#[a, b, c]⟩ ∧ 128 ≤ c.toNat) ∨ (∃ a b c d : UInt8, Utf8.encode (r : Int) = ⟨#[a, b, c, d]⟩ ∧ 128 ≤ d.toNat) := by
    rw [enc_nat r (valid_of r (by omega))]
    by_cases h : r < 2048
    · left; rw [encN_two r (by omega) h]; exact ⟨_, _, rfl, by rw [ofNat_toNat _ (by omega)]; omega⟩
    · right
      by_cases h : r < 65536
      · left; rw [encN_three r (by omega) (by omega) h]; exact ⟨_, _, _, rfl, by rw [ofNat_toNat _ (by omega)]; omega⟩
      · right; rw [encN_four r (by omega) (by omega) h]; exact ⟨_, _, _, _, rfl, by rw [ofNat_toNat _ (by omega)]; omega⟩
  clear h1 h2 h3 hcs
  have go : ∀ (R : ByteArray) (L : Nat), Utf8.encode (r : Int) = R → R.size = L + 1 → L ≤ 3 → 128 ≤ bt R L → Calls Tryz.prog 101 #[.string cs, .int .i32 r] w fun e w' => e = .returned (.int .i64 (-1)) ∧ Below w.heap.size w w' := by
    intro R L hR hl hL hb
    have HI2 : Hid (∀ W, Calls Tryz.prog 63 #[.string (cs.extract (L + 1) cs.size), .int .u8 (bt R L)] W fun e w' => e = .returned (.int .i64 (-1)) ∧ W = w') := Lib.hid fun W => HI.out (L + 1) (R.get! L) W hb
    clear HI
    have hLz : ((R.size : Int) - 1) = (L : Int) := by omega
    have hbi : ∀ h : L < R.size, ((R[L]'h).toNat : Int) = (bt R L : Int) := fun h => by rw [get_bt R L h]
    by_cases hc : L < cs.size
    · have hci : ((cs[L]'hc).toNat : Int) = (bt cs L : Int) := by rw [get_bt cs L hc]
      have hne : ((bt cs L : Int) != (bt R L : Int)) = true := by have := HA.out.bt hc; simp; omega
      go_enter Tryz.func101, Tryz.ntmps101
      go_wp2_with fail
      ((with_reducible refine (HV.out _).mono ?_))
      rintro e w1 ⟨rfl, rfl⟩
      go_wp2_with fail
      go_step3
      go_wp2_with fail
      refine wp_loop_rounds 1 ?_
      rw [rounds_succ]
      go_wp2_with fail
      go_step3
      go_wp2_with fail
      go_quiet (fail)
      have hb1 := Lib.hid (below_drewN (Below.refl w.heap.size w) nq)
      generalize w.drewN nq = W1 at *
      go_wp2_with fail
      go_quiet ((go_at_call 63; exact quietLeft (HI2.out _)))
      have hb2 := Lib.hid (below_drewN hb1.out nq)
      generalize W1.drewN nq = W2 at *
      go_wp2_with fail
      rw [Exit.noGoto_ret]
      go_wp2_with fail
      rw [Exit.noGoto_ret]
      go_wp2_with fail
      go_ret
      exact ⟨rfl, hb2.out⟩
    · go_enter Tryz.func101, Tryz.ntmps101
      go_wp2_with fail
      ((with_reducible refine (HV.out _).mono ?_))
      rintro e w1 ⟨rfl, rfl⟩
      go_wp2_with fail
      go_step3
      go_wp2_with fail
      refine wp_loop_rounds 1 ?_
      rw [rounds_succ]
      go_wp2_with fail
      rw [Exit.noGoto_ret]
      go_wp2_with fail
      go_ret
      exact ⟨rfl, Below.refl _ _⟩
  rcases hE with ⟨a, b, hE, hb⟩ | ⟨a, b, c, hE, hb⟩ | ⟨a, b, c, d, hE, hb⟩
  · exact go _ 1 hE rfl (by omega) hb
  · exact go _ 2 hE rfl (by omega) hb
  · exact go _ 3 hE rfl (by omega) hb

def setB (cs : ByteArray) (r : Nat) : Bool := decide (r < 128) && (bytesL cs).contains (UInt8.ofNat r)
theorem runeX_any (cs : ByteArray) (hcs : Asc cs) (hN : cs.size ≤ 1000) (r : Nat) (w : World) (hr : r < 55296 ∨ (57343 < r ∧ r ≤ 1114111)) :
    Calls Tryz.prog 101 #[.string cs, .int .i32 r] w (IdxPost (setB cs r) w) := by
  unfold setB
  by_cases h1 : r < 128
  · refine (Tryz.strings_IndexRune_ascii cs r w (by omega) (by omega)).mono ?_
    rintro e w' ⟨rfl, rfl⟩
    refine ⟨_, rfl, ?_, Below.refl _ _⟩
    have e1 : ((r : Int).toNat.toUInt8) = UInt8.ofNat r := rfl
    rw [e1, decide_eq_true h1, Bool.true_and]
    exact byte_has _ _
  · rw [decide_eq_false h1, Bool.false_and]
    have key : Calls Tryz.prog 101 #[.string cs, .int .i32 r] w fun e w' => e = .returned (.int .i64 (-1)) ∧ Below w.heap.size w w' := by
      by_cases h3 : r = 65533
      · subst h3; exact runeX_err cs hcs w
      · exact runeX_more cs hcs hN r w (by omega) h3 hr
    refine key.mono ?_
    rintro e w' ⟨rfl, hb⟩
    exact ⟨-1, rfl, by simp, hb⟩
def IaX (s cs : ByteArray) (w : World) (wr : World) : Prop :=
  ∃ pos : Nat, wr.heap[w.heap.size]? = some (.stringIter s pos) ∧ Below w.heap.size w wr ∧ Hid (((bytesL s).take pos).any ((bytesL cs).contains ·) = false) ∧ pos ≤ s.size
set_option maxRecDepth 1000000 in
set_option maxHeartbeats 4000000 in
theorem anyX_short (s cs : ByteArray) (hcs : Asc cs) (hN : cs.size ≤ 1000) (h2 : 2 ≤ cs.size) (w : World) (hs : s.size ≤ 8) :
    Calls Tryz.prog 61 #[.string s, .string cs] w fun e w' => e = .returned (.int .i64 (Lib.indexAny (bytesL s) (bytesL cs))) ∧ Below w.heap.size w w' := by
  have HSh : Hid (∀ W, Calls Tryz.prog 102 #[.int .i64 s.size] W fun e w' => e = .returned (.bool false) ∧ W = w') := Lib.hid fun W => by
    refine (Tryz.strings_shouldUseASCIISet s.size W).mono ?_
    rintro e w' ⟨rfl, rfl⟩
    exact ⟨ret_bool (by simp; omega), rfl⟩
  have HR : Hid (∀ (r : Nat) W, Scalar r → Calls Tryz.prog 101 #[.string cs, .int .i32 r] W (IdxPost (setB cs r) W)) := Lib.hid fun r W h => runeX_any cs hcs hN r W h
  have HH := Lib.hid (index_hit (bytesL cs) (bytesL s))
  have HNo := Lib.hid (index_no (bytesL cs) (bytesL s))
  have HP : Hid (∀ b : UInt8, 128 ≤ b.toNat → (bytesL cs).contains b = false) := Lib.hid fun b hb => by
    cases hc : (bytesL cs).contains b
    · rfl
    · have := hcs b (by simpa using hc); omega
  have hem : cs.toList.isEmpty = false := by
    rw [Lib.toList_data]
    cases h : cs.data.toList with
    | nil => have := Lib.size_eq cs; rw [h, List.length_nil] at this; omega
    | cons _ _ => rfl
  have hn1 : ((cs.size : Int) == 1) = false := beq_eq_false_iff_ne.2 (by omega)
  clear hcs
  generalize Lib.indexAny (bytesL s) (bytesL cs) = G at *
  go_enter Tryz.func61, Tryz.ntmps61
  go_wp2_with fail
  ((with_reducible refine (HSh.out _).mono ?_))
  rintro e w1 ⟨rfl, rfl⟩
  go_wp2_with fail
  go_loopw [] (fun wr => IaX s cs w wr) (fun wr => s.size - wr.iterPos w.heap.size)
  case atStart =>
    exact ⟨0, World.iter_heap w s 0, (Below.refl _ w).alloc (Nat.le_refl _) _, Lib.hid rfl, by omega⟩
  case round =>
    obtain ⟨pos, hit, hbw, Hok, hps⟩ := hrel
    have hz := hbw.size
    by_cases hp : pos < s.size
    · have hd := dec_bd s pos hp
      have hne : (bytesL s).drop pos ≠ [] := by intro e; have := congrArg List.length e; rw [List.length_drop, bytesL_length] at this; simp at this; omega
      have hS : Scalar (Utf8.decode s pos).1 := by rw [decode_decL]; exact decL_scalar _ hne
      have hAny : Hid (((bytesL s).take (pos + (Utf8.decode s pos).2)).any ((bytesL cs).contains ·) = setB cs (Utf8.decode s pos).1) := Lib.hid (by
        have := any_dec ((bytesL cs).contains ·) HP.out _ hne
        rw [decode_decL, List.take_add, List.any_append, Hok.out, Bool.false_or]
        exact this)
      have hX : Hid (setB cs (Utf8.decode s pos).1 = true → (bytesL s)[pos]? = some (s.get! pos) ∧ (bytesL cs).contains (s.get! pos) = true) := Lib.hid fun h => by
        unfold setB at h
        rw [Bool.and_eq_true, decide_eq_true_eq] at h
        have hb : bt s pos < 128 := by
          rcases Nat.lt_or_ge (bt s pos) 128 with h1 | h1
          · exact h1
          · exfalso
            have h3 := dec_high s pos h1
            omega
        rw [dec_one s pos hb] at h
        refine ⟨?_, ?_⟩
        · unfold bytesL
          rw [show s.get! pos = s.data[pos]'hp from getElem!_pos s.data pos hp, Array.getElem?_toList]
          exact Array.getElem?_eq_getElem hp
        · have : UInt8.ofNat (bt s pos) = s.get! pos := by unfold bt; simp
          rw [← this]; exact h.2
      have hnx : ∀ ty, (Instr.next (.pointer (some ⟨w.heap.size, 0, none⟩)) true ty).run Tryz.prog wr = _ := fun ty => Lib.run_next_any_at wr w.heap.size s pos ty hit hp
      have hit2 := Lib.hid (Lib.iterAt_heap wr w.heap.size s pos (pos + (Utf8.decode s pos).2) hit)
      have hbw2 := Lib.hid (Lib.below_iterAt hbw (k := w.heap.size) (Nat.le_refl _) s (pos + (Utf8.decode s pos).2))
      have hsz2 : w.heap.size < (wr.iterAt w.heap.size s (pos + (Utf8.decode s pos).2)).heap.size := by rw [Lib.iterAt_size]; exact (Array.getElem?_eq_some_iff.1 hit).1
      have hitk := Lib.hid hit
      clear hit hne
      generalize Utf8.decode s pos = D at *
      have HC := Lib.hid fun W => HR.out D.1 W hS
      clear hS
      cases hsp : setB cs D.1
      · have dn : Hid (∀ W', Below (wr.iterAt w.heap.size s (pos + D.2)).heap.size (wr.iterAt w.heap.size s (pos + D.2)) W' → W'.heap[w.heap.size]? = some (.stringIter s (pos + D.2)) ∧ IaX s cs w W') := Lib.hid fun W' hW => by
          have e1 : W'.heap[w.heap.size]? = some (.stringIter s (pos + D.2)) := (hW.block _ hsz2).trans hit2.out
          exact ⟨e1, pos + D.2, e1, hbw2.out.trans (hW.mono (by omega)), Lib.hid (by rw [hAny.out, hsp]), by omega⟩
        rw [hsp] at HC
        clear hsp
        go_wp2_with fail
        ((with_reducible refine (HC.out _).mono ?_))
        rintro e w1 ⟨n, rfl, hn, b1⟩
        have hn1 : n < 0 := by
          rcases Int.lt_or_le n 0 with h | h
          · exact h
          · have := hn.1 h; simp at this
        clear hn
        go_wp2_with fail
        go_roundw
        case rel => exact (dn.out _ b1).2
        case measure =>
          simp only [World.iterPos, (dn.out _ b1).1, hitk.out]
          omega
      · have HT : Hid (G = (pos : Int)) := Lib.hid (HH.out pos _ Hok.out (hX.out hsp).1 (hX.out hsp).2)
        rw [hsp] at HC
        clear hsp
        go_wp2_with fail
        ((with_reducible refine (HC.out _).mono ?_))
        rintro e w1 ⟨n, rfl, hn, b1⟩
        have hn1 : 0 ≤ n := hn.2 rfl
        clear hn
        go_wp2_with fail
        go_ret
        exact ⟨ret_int (by rw [HT.out]), hbw2.out.trans (b1.mono (by omega))⟩
    · have hnx : ∀ ty, (Instr.next (.pointer (some ⟨w.heap.size, 0, none⟩)) true ty).run Tryz.prog wr = _ := fun ty => Lib.run_next_end_at wr w.heap.size s pos ty hit hp
      have HF : Hid (G = -1) := Lib.hid (HNo.out (by have := Hok.out; rwa [List.take_of_length_le (by rw [bytesL_length]; omega)] at this))
      go_wp2_with fail
      go_ret
      exact ⟨ret_int (by rw [HF.out]), hbw⟩

theorem anyX (s cs : ByteArray) (w : World) (hcs : Asc cs) (hN : cs.size ≤ 1000) (h2 : 2 ≤ cs.size) (hs : s.size ≤ 1000000) :
    Calls Tryz.prog 61 #[.string s, .string cs] w fun e w' => e = .returned (.int .i64 (Lib.indexAny (bytesL s) (bytesL cs))) ∧ Below w.heap.size w w' := by
  by_cases h : s.size ≤ 8
  · exact anyX_short s cs hcs hN h2 w h
  · refine (Tryz.strings_IndexAny_long (fun w => by kernel_rfl) s cs w h2 (by omega) (by omega) (by omega) ?_).mono ?_
    · intro j b hj
      exact hcs b (List.mem_of_getElem? hj)
    · rintro e w' ⟨rfl, rfl⟩
      exact ⟨rfl, ((Below.refl _ _).alloc (Nat.le_refl _) _).alloc (by simp) _⟩
set_option maxRecDepth 1000000 in
set_option maxHeartbeats 4000000 in
theorem containsX (s cs : ByteArray) (w : World) (hcs : Asc cs) (hN : cs.size ≤ 1000) (h2 : 2 ≤ cs.size) (hs : s.size ≤ 1000000) :
    Calls Tryz.prog 33 #[.string s, .string cs] w fun e w' => e = .returned (.bool ((bytesL s).any ((bytesL cs).contains ·))) ∧ Below w.heap.size w w' := by
  have HC := Lib.hid fun W => anyX s cs W hcs hN h2 hs
  have HX := Lib.hid (index_any (bytesL cs) (bytesL s))
  generalize Lib.indexAny (bytesL s) (bytesL cs) = n at *
  go_enter Tryz.func33, Tryz.ntmps33
  go_wp2_with fail
  ((with_reducible refine (HC.out _).mono ?_))
  rintro e w1 ⟨rfl, b1⟩
  go_wp2_with fail
  go_ret
  exact ⟨ret_bool HX.out, b1⟩

end Go.Proofs.YtcjkgmfidkgamaaGreatDoor
namespace Go.Pub
def d0C : CitL := ⟨⟨#[]⟩, ⟨#[]⟩, ⟨#[]⟩, false⟩
theorem allC_some : ∀ ps : List (List UInt8), (∀ p ∈ ps, (citedI (mk p)).isSome = true) → allC ps = some (ps.map fun p => (citedI (mk p)).getD d0C)
  | [], _ => rfl
  | p :: ps, h => by
    have h1 := h p List.mem_cons_self
    unfold allC
    cases hc : citedI (mk p) with
    | none => rw [hc] at h1; cases h1
    | some c => rw [allC_some ps fun q hq => h q (List.mem_cons_of_mem _ hq)]; simp [hc]
theorem allC_none : ∀ (ps : List (List UInt8)) (p : List UInt8), p ∈ ps → citedI (mk p) = none → allC ps = none
  | q :: ps, p, h, hn => by
    unfold allC
    rcases List.mem_cons.1 h with rfl | h
    · rw [hn]; rfl
    · rw [allC_none ps p h hn]; cases citedI (mk q) <;> rfl
theorem semi_len : ∀ (l : List UInt8), (semiL l).length ≤ l.length + 1 ∧ ∀ p ∈ semiL l, p.length ≤ l.length
  | [] => ⟨by simp [semiL], fun p hp => by simp [semiL] at hp; subst hp; simp⟩
  | c :: l => by
    obtain ⟨h1, h2⟩ := semi_len l
    unfold semiL
    split
    · refine ⟨by simp; omega, fun p hp => ?_⟩
      rcases List.mem_cons.1 hp with rfl | hp
      · simp
      · have := h2 p hp; simp; omega
    · split
      · exact ⟨by simp, fun p hp => by simp at hp; subst hp; simp⟩
      · rename_i q qs he
        rw [he] at h1 h2
        refine ⟨by simp at h1 ⊢; omega, fun p hp => ?_⟩
        rcases List.mem_cons.1 hp with rfl | hp
        · have := h2 q List.mem_cons_self; simp; omega
        · have := h2 p (List.mem_cons_of_mem _ hp); simp; omega
theorem bad_set (l : List UInt8) : l.any ([91, 93, 123, 96, 36, 10].contains ·) = l.any badC := by
  congr 1; funext b
  unfold badC
  show (b == 91 || (b == 93 || (b == 123 || (b == 96 || (b == 36 || (b == 10 || false)))))) = _
  rw [Bool.or_false]; simp only [Bool.or_assoc]
end Go.Pub
namespace Go.Proofs.YtcjkgmfidkgamaaGreatDoor
open Go.RowKit Go.Pub
attribute [local go_sem] Oper.semAt_some
/-- The citations of a string, or that it has none. -/
def CitesPost (r : Option (List CitL)) (w : World) (e : Ending) (w' : World) : Prop :=
  Below w.heap.size w w' ∧ match r with
  | none => e = .returned (.tuple #[.slice none 0 0, .bool false])
  | some cs => ∃ A c, e = .returned (.tuple #[.slice A cs.length c, .bool true]) ∧ ReadsS w' (Rg w.heap.size w') 4 A cs.length (citCs cs)
def citG (x : StrP) : CitL := (citedI x.1).getD d0C
def citF (pre : List StrP) : List Value := pre.flatMap fun x => citC (citG x)
theorem cited_info : (Tryz.prog.info? 47).map (fun i => (i.zero, i.size, i.bytes)) = some (some (.agg #[.string ⟨#[]⟩, .string ⟨#[]⟩, .string ⟨#[]⟩, .bool false]), 4, 56) := by kernel_rfl
theorem asc_bad : ∀ b ∈ bytesL (⟨#[91, 93, 123, 96, 36, 10]⟩ : ByteArray), b.toNat < 128 := by
  intro b hb
  have h : b ∈ ([91, 93, 123, 96, 36, 10] : List UInt8) := hb
  have : ∀ b ∈ ([91, 93, 123, 96, 36, 10] : List UInt8), b.toNat < 128 := by decide
  exact this b h
theorem appendedS {W w1 : World} {B n₀ : Nat} {t e : TypeId} {size : Nat} {v v' : Value} {k m : Nat} {xs ys : List Value} {tmp : Obj}
    (hv : Boxed W B t v) (hB : B < n₀) (hrow : W.ownsRow n₀ e size v k xs) (hz : n₀ ≤ W.heap.size) (hown' : w1.ownsRow n₀ e size v' m ys) (hgrow : (W.alloc tmp).grownBy w1 v.ownBlock) :
    Boxed w1 B t v ∧ Boxed (w1.setCell ⟨B, 0, none⟩ v') B t v' ∧ (w1.setCell ⟨B, 0, none⟩ v').ownsRow n₀ e size v' m ys ∧ KeepsOthers W (w1.setCell ⟨B, 0, none⟩ v') ∧ Below B W (w1.setCell ⟨B, 0, none⟩ v') ∧ (∀ g, g < n₀ → g ≠ B → (w1.setCell ⟨B, 0, none⟩ v').heap[g]? = W.heap[g]?) := by
  have hv1 : Boxed w1 B t v := (hv.alloc tmp).kept hgrow (own_far hrow hB)
  refine ⟨hv1, hv1.set v', hown'.kept (grownBy_setCell' w1 B v') (.inr (own_far hown' hB).symm), ?_, ?_, fun g hg hne => ?_⟩
  · refine ((KeepsOthers.alloc W tmp).trans (KeepsOthers.of_grownBy hgrow fun j o ej hj => ?_)).trans (KeepsOthers.setCell _ _ _)
    rcases (hrow.alloc tmp).2 with ⟨rfl, _⟩ | ⟨g, cap, cur, rfl, _, hgb, _⟩
    · simp [Value.ownBlock] at ej
    · obtain rfl : g = j := by simpa [Value.ownBlock] using ej
      rw [hgb] at hj; cases hj; rfl
  · refine (((Below.refl B W).alloc (by omega) tmp).grown hgrow (by simp; omega) fun j ej => ?_).setCell (p := ⟨B, 0, none⟩) (Nat.le_refl _) v'
    rcases Nat.lt_or_ge j B with h | h
    · exact absurd ej.symm (own_far hrow (by omega))
    · exact h
  · exact (Below.heap_setCell w1 ⟨B, 0, none⟩ v' g hne).trans ((hgrow.block g (by simp; omega) (own_far hrow hg)).trans (Below.heap_alloc W tmp g (by omega)))
set_option maxRecDepth 100000 in
set_option maxHeartbeats 4000000 in
theorem s_Cites (s : ByteArray) (w : World) (hs : s.size ≤ 1000000) : Calls Tryz.prog 20 #[.string s] w (CitesPost (citesI s) w) := by
  have HC : Hid (∀ W, Calls Tryz.prog 33 #[.string s, .string ⟨#[91, 93, 123, 96, 36, 10]⟩] W fun e w' => e = .returned (.bool ((bytesL s).any badC)) ∧ Below W.heap.size W w') := Lib.hid fun W => by
    have := containsX s ⟨#[91, 93, 123, 96, 36, 10]⟩ W asc_bad (by decide) (by decide) hs
    rwa [show bytesL (⟨#[91, 93, 123, 96, 36, 10]⟩ : ByteArray) = [91, 93, 123, 96, 36, 10] from rfl, bad_set] at this
  have HS := Lib.hid fun W => split_seq s W
  have hlen := semi_len (bytesL s)
  rw [bytesL_length] at hlen
  have HI : Hid (citesI s = if (bytesL s).any badC = true then none else allC (semiL (bytesL s))) := Lib.hid rfl
  generalize citesI s = R at *
  obtain ⟨i0, hi0, hz0, hz1, hz2⟩ := info_parts cited_info
  refine (callsIn_wide (n := 5)).1 ?_
  refine callsIn_of_wp_marks Tryz.func20 rfl trivial ?_ rfl
  simp only [Tryz.ntmps20, List.size_toArray, List.length_cons, List.length_nil, Nat.reduceAdd, Nat.reduceSub, Array.replicate_succ, Array.replicate_zero, List.push_toArray, List.append_toArray, List.nil_append, List.cons_append]
  gi_wp2_with fail
  refine ⟨trivial, ?_⟩
  ((with_reducible refine (callsIn_wide.2 (HC.out _)).mono ?_))
  rintro e W1 ⟨rfl, q1⟩
  have hr0 := Boxed.new w 31 (.slice none 0 0)
  have hr1 := Boxed.new (w.alloc (.cells #[.slice none 0 0] 31)) 4 (.bool false)
  rw [World.size_alloc] at hr1
  have R0 : Boxed W1 w.heap.size 31 (.slice none 0 0) := (q1.block _ (by simp; omega)).trans (hr0.alloc _)
  have R1 : Boxed W1 (w.heap.size + 1) 4 (.bool false) := (q1.block _ (by simp)).trans hr1
  have QB : Below w.heap.size w W1 := (((Below.refl _ w).alloc (Nat.le_refl _) _).alloc (by simp) _).trans (q1.mono (by simp; omega))
  have z1 := R1.lt
  clear q1 hr0 hr1
  cases hbad : (bytesL s).any badC
  · rw [hbad, if_neg (by simp)] at HI
    gi_wp2_with fail
    refine ⟨trivial, ?_⟩
    ((with_reducible refine (callsIn_wide.2 (HS.out _)).mono ?_))
    rintro e W2 ⟨rfl, rfl⟩
    gi_wp2_with fail
    have BB : Boxed ((((W1.alloc (.cells #[.slice none 0 0] 31)).alloc (.cells #[.string s] 9)).alloc (.cells #[.string ⟨#[59]⟩] 9)).alloc (.cells #[.int .i64 0] 3)) W1.heap.size 31 (.slice none 0 0) := (((Boxed.new W1 _ _).alloc _).alloc _).alloc _
    have SB : SqB (W1.heap.size + 1) (W1.heap.size + 1 + 1) (W1.heap.size + 1 + 2) s ((((W1.alloc (.cells #[.slice none 0 0] 31)).alloc (.cells #[.string s] 9)).alloc (.cells #[.string ⟨#[59]⟩] 9)).alloc (.cells #[.int .i64 0] 3)) := by
      have x1 := Boxed.new (W1.alloc (.cells #[.slice none 0 0] 31)) 9 (.string s)
      have x2 := Boxed.new ((W1.alloc (.cells #[.slice none 0 0] 31)).alloc (.cells #[.string s] 9)) 9 (.string ⟨#[59]⟩)
      have x3 := Boxed.new (((W1.alloc (.cells #[.slice none 0 0] 31)).alloc (.cells #[.string s] 9)).alloc (.cells #[.string ⟨#[59]⟩] 9)) 3 (.int .i64 0)
      simp only [World.size_alloc] at x1 x2 x3
      exact ⟨(x1.alloc _).alloc _, x2.alloc _, x3⟩
    have RX0 : Boxed ((((W1.alloc (.cells #[.slice none 0 0] 31)).alloc (.cells #[.string s] 9)).alloc (.cells #[.string ⟨#[59]⟩] 9)).alloc (.cells #[.int .i64 0] 3)) w.heap.size 31 (.slice none 0 0) := (((R0.alloc _).alloc _).alloc _).alloc _
    have RX1 : Boxed ((((W1.alloc (.cells #[.slice none 0 0] 31)).alloc (.cells #[.string s] 9)).alloc (.cells #[.string ⟨#[59]⟩] 9)).alloc (.cells #[.int .i64 0] 3)) (w.heap.size + 1) 4 (.bool false) := (((R1.alloc _).alloc _).alloc _).alloc _
    have QX : Below w.heap.size w ((((W1.alloc (.cells #[.slice none 0 0] 31)).alloc (.cells #[.string s] 9)).alloc (.cells #[.string ⟨#[59]⟩] 9)).alloc (.cells #[.int .i64 0] 3)) := (((QB.alloc (by omega) _).alloc (by simp; omega) _).alloc (by simp; omega) _).alloc (by simp; omega) _
    have zX : ((((W1.alloc (.cells #[.slice none 0 0] 31)).alloc (.cells #[.string s] 9)).alloc (.cells #[.string ⟨#[59]⟩] 9)).alloc (.cells #[.int .i64 0] 3)).heap.size = W1.heap.size + 4 := by simp
    generalize ((((W1.alloc (.cells #[.slice none 0 0] 31)).alloc (.cells #[.string s] 9)).alloc (.cells #[.string ⟨#[59]⟩] 9)).alloc (.cells #[.int .i64 0] 3)) = X at *
    clear R0 R1 QB
    refine range_steps rfl (by omega) (gf := 105) (lb := #[.pointer (some ⟨W1.heap.size + 1 + 1, 0, none⟩), .pointer (some ⟨W1.heap.size + 1, 0, none⟩), .pointer (some ⟨W1.heap.size + 1 + 2, 0, none⟩)]) rfl trivial (enters_of Tryz.func105 (by kernel_rfl) rfl)
      (Kp := KpS (W1.heap.size + 1) (W1.heap.size + 1 + 1) (W1.heap.size + 1 + 2)) (St := StB (W1.heap.size + 1)) (split_stops 4 (by omega) (W1.heap.size + 1) (W1.heap.size + 1 + 1) (W1.heap.size + 1 + 2) (by omega) (by omega) s hs _ SB)
      (fun h1 h2 => ⟨h2.1.trans h1.1, h2.2.1.trans h1.2.1, h2.2.2.trans h1.2.2⟩)
      (fun W l o o' hl ho hc _ => ⟨World.putObj_heap_other (by omega), World.putObj_heap_other (by omega), World.putObj_heap_other (by omega)⟩) (fun _ => rfl)
      (fun (pre : List StrP) W => (∃ v, Boxed W W1.heap.size 31 v ∧ W.ownsRow (W1.heap.size + 4) 47 4 v pre.length (citF pre) ∧ (∀ x ∈ pre, (citedI x.1).isSome = true)) ∧ (Boxed W w.heap.size 31 (.slice none 0 0) ∧ (Boxed W (w.heap.size + 1) 4 (.bool false) ∧ Below w.heap.size X W)))
      (fun c pre W => (c = Code.ret ∧ ∃ x ∈ pre, citedI x.1 = none) ∧ (Boxed W w.heap.size 31 (.slice none 0 0) ∧ (Boxed W (w.heap.size + 1) 4 (.bool false) ∧ Below w.heap.size X W)))
      (OwnFrom.and (Own.from (holdsRow_own (W1.heap.size + 4) W1.heap.size 31 47 4 (fun (pre : List StrP) => pre.length) (fun pre => citF pre) (fun pre _ => ∀ x ∈ pre, (citedI x.1).isSome = true)) _) (OwnFrom.and (Own.from (boxed_own w.heap.size 31 (fun _ => .slice none 0 0)) _) (OwnFrom.and (Own.from (boxed_own (w.heap.size + 1) 4 (fun _ => .bool false)) _) (ownFrom_below QX.size QX.size))))
      (fun c => OwnFrom.and (fun _ _ _ _ hs _ _ => hs) (OwnFrom.and (Own.from (boxed_own w.heap.size 31 (fun _ => .slice none 0 0)) _) (OwnFrom.and (Own.from (boxed_own (w.heap.size + 1) 4 (fun _ => .bool false)) _) (ownFrom_below QX.size QX.size))))
      (fun pre A B h hst => by
        obtain ⟨v, rfl⟩ := hst
        obtain ⟨⟨u, k1, k2, k3⟩, k4, k5, k6⟩ := h
        exact ⟨⟨u, k1.other (by omega) _, ownsRow_setCell_below k2 (by show W1.heap.size + 1 < W1.heap.size + 4; omega) _, k3⟩, k4.other (by omega) _, k5.other (by omega) _, k6.setCell (p := ⟨W1.heap.size + 1, 0, none⟩) (by show w.heap.size ≤ W1.heap.size + 1; omega) _⟩)
      (fun A B hst k hk => by
        obtain ⟨v, rfl⟩ := hst
        exact Below.heap_setCell _ _ _ k (by show k ≠ W1.heap.size + 1; omega))
      ⟨⟨_, BB, World.ownsRow_nil _ _ _ _, by simp⟩, RX0, RX1, Below.refl _ _⟩
      (fun (x : StrP) => { tmps := #[.string s, undef, .pointer (some ⟨w.heap.size, 0, none⟩), .pointer (some ⟨w.heap.size + 1, 0, none⟩), .pointer (some ⟨W1.heap.size, 0, none⟩), .string x.1, undef, undef, .string s, .bool false, .string s, .func (.func 105) #[] #[.pointer (some ⟨W1.heap.size + 1 + 1, 0, none⟩), .pointer (some ⟨W1.heap.size + 1, 0, none⟩), .pointer (some ⟨W1.heap.size + 1 + 2, 0, none⟩)], .string x.1, undef, undef, undef, undef, undef, undef, undef, undef, undef, undef, undef, undef], defers := [] }) ?assign ?body ?done ?stop
    case assign =>
      intro l x W K hK
      gi_wp2_with fail
      exact hK
    case body =>
      rintro l pre x W ⟨⟨v, hv, hrow, hsome⟩, hr0, hr1, hB⟩ hlt
      have hcd := fun W => s_cited x.1 W x.2
      have hzW := hv.lt
      cases hc : citedI x.1 with
      | none =>
        rw [hc] at hcd
        have HCd : Hid (∀ W, Calls Tryz.prog 35 #[.string x.1] W fun e w' => e = .returned (.tuple #[.agg #[.string ⟨#[]⟩, .string ⟨#[]⟩, .string ⟨#[]⟩, .bool false], .bool false]) ∧ Below W.heap.size W w') := Lib.hid hcd
        clear hcd
        gi_wp2_with fail
        refine ⟨trivial, ?_⟩
        ((with_reducible refine (CallsIn.inRound l (callsIn_wide.2 (HCd.out _))).mono ?_))
        rintro e W4 ⟨rfl, b4⟩
        have k0 : Boxed W4 w.heap.size 31 (.slice none 0 0) := (b4.block _ hr0.lt).trans hr0
        have k1 : Boxed W4 (w.heap.size + 1) 4 (.bool false) := (b4.block _ hr1.lt).trans hr1
        have hB4 := hB.trans (b4.mono (Nat.le_trans QX.size hB.size))
        have a0 := (k0.alloc (.cells #[.string ⟨#[]⟩, .string ⟨#[]⟩, .string ⟨#[]⟩, .bool false] 47))
        have a1 := (k1.alloc (.cells #[.string ⟨#[]⟩, .string ⟨#[]⟩, .string ⟨#[]⟩, .bool false] 47))
        have f0 := a0.frozen
        have f1 := a1.frozen
        have c0 := a0.cell
        have c1 := a1.cell
        have d0 := (a0.set (.slice none 0 0)).other (B' := w.heap.size + 1) (by omega) (.bool false)
        have d1 := (a1.other (B' := w.heap.size) (by omega) (.slice none 0 0)).set (.bool false)
        have KO := ((keeps_of_below b4).trans (KeepsOthers.alloc W4 (.cells #[.string ⟨#[]⟩, .string ⟨#[]⟩, .string ⟨#[]⟩, .bool false] 47))).trans ((KeepsOthers.setCell _ ⟨w.heap.size, 0, none⟩ (.slice none 0 0)).trans (KeepsOthers.setCell _ ⟨w.heap.size + 1, 0, none⟩ (.bool false)))
        have hB5 := ((hB4.alloc (Nat.le_trans QX.size hB4.size) (.cells #[.string ⟨#[]⟩, .string ⟨#[]⟩, .string ⟨#[]⟩, .bool false] 47)).setCell (p := ⟨w.heap.size, 0, none⟩) (Nat.le_refl _) (.slice none 0 0)).setCell (p := ⟨w.heap.size + 1, 0, none⟩) (by show w.heap.size ≤ w.heap.size + 1; omega) (.bool false)
        have H5 := Lib.hid (And.intro d0 (And.intro d1 hB5))
        have HK := Lib.hid KO
        clear a0 a1 d0 d1 hB5 KO k0 k1 hB4
        gi_wp2_with fail
        exact ⟨HK.out.from _, ⟨rfl, x, by simp, hc⟩, H5.out.1, H5.out.2.1, H5.out.2.2⟩
      | some c =>
        rw [hc] at hcd
        obtain ⟨Av, cv, rfl⟩ := own_slice hrow
        have HCd : Hid (∀ W, Calls Tryz.prog 35 #[.string x.1] W fun e w' => e = .returned (.tuple #[.agg #[.string c.key, .string c.pre, .string c.suf, .bool c.bare], .bool true]) ∧ Below W.heap.size W w') := Lib.hid hcd
        clear hcd
        gi_wp2_with fail
        refine ⟨trivial, ?_⟩
        ((with_reducible refine (CallsIn.inRound l (callsIn_wide.2 (HCd.out _))).mono ?_))
        rintro e W4 ⟨rfl, b4⟩
        obtain ⟨C, hC⟩ : ∃ C, C = (Obj.cells #[.string c.key, .string c.pre, .string c.suf, .bool c.bare] 47 : Obj) := ⟨_, rfl⟩
        have hv4 : Boxed (W4.alloc (.cells #[.string c.key, .string c.pre, .string c.suf, .bool c.bare] 47)) W1.heap.size 31 (.slice Av pre.length cv) := Boxed.alloc ((b4.block _ hv.lt).trans hv) _
        have hrow4 : (W4.alloc (.cells #[.string c.key, .string c.pre, .string c.suf, .bool c.bare] 47)).ownsRow (W1.heap.size + 4) 47 4 (.slice Av pre.length cv) pre.length (citF pre) := World.ownsRow.alloc (own_below hrow b4) _
        have k0 : Boxed (W4.alloc (.cells #[.string c.key, .string c.pre, .string c.suf, .bool c.bare] 47)) w.heap.size 31 (.slice none 0 0) := Boxed.alloc ((b4.block _ hr0.lt).trans hr0) _
        have k1 : Boxed (W4.alloc (.cells #[.string c.key, .string c.pre, .string c.suf, .bool c.bare] 47)) (w.heap.size + 1) 4 (.bool false) := Boxed.alloc ((b4.block _ hr1.lt).trans hr1) _
        have hB4 := (hB.trans (b4.mono (Nat.le_trans QX.size hB.size))).alloc (Nat.le_trans QX.size (hB.trans (b4.mono (Nat.le_trans QX.size hB.size))).size) (.cells #[.string c.key, .string c.pre, .string c.suf, .bool c.bare] 47)
        have hz4 := b4.size
        have hXW : W1.heap.size + 4 ≤ W.heap.size := by have := hB.size; omega
        have KO4 := (keeps_of_below b4).trans (KeepsOthers.alloc W4 (.cells #[.string c.key, .string c.pre, .string c.suf, .bool c.bare] 47))
        have hvc := hv4.cell
        have hpl : pre.length ≤ 1000001 := by omega
        have c6 := cit_facts (Blk.new W4 47 #[.string c.key, .string c.pre, .string c.suf, .bool c.bare])
        obtain ⟨y0, y1, y2, y3, _⟩ := c6
        have hvb := (hv4.alloc (.cells #[.string c.key, .string c.pre, .string c.suf, .bool c.bare] 47)).cell
        gi_wp2_with (first
          | (gi_at_builtin; refine wpListIn_append_own _ rfl _ _ 31 rfl (W1.heap.size + 4) 47 i0 _ 4 56 Tryz.underlying31 hi0 hz0 hz1 hz2 rfl (by decide) (.slice Av pre.length cv) pre.length (citF pre) rfl (hrow4.alloc _) ⟨W4.heap.size + 1, 0, none⟩ 1 1 [.string c.key, .string c.pre, .string c.suf, .bool c.bare] rfl rfl ?c1 ?c2 ?c3 ?c4 ?c5 ?_)
          | fail)
        case c1 => exact World.news_of_block (t := 47) (fr := (0, 0)) (cs := #[.string c.key, .string c.pre, .string c.suf, .bool c.bare]) (by have := heap_alloc_new (W4.alloc (.cells #[.string c.key, .string c.pre, .string c.suf, .bool c.bare] 47)) (.cells #[.string c.key, .string c.pre, .string c.suf, .bool c.bare] 47); rwa [World.size_alloc] at this)
        case c2 => intro u hu; simp at hu; rcases hu with rfl | rfl | rfl | rfl <;> rfl
        case c3 => unfold maxLen; omega
        case c4 => omega
        case c5 => simp; omega
        intro v' w5 hown5 hgrow5 _
        obtain ⟨A5, c5, rfl⟩ := own_slice hown5
        obtain ⟨p1, p2, p3, p4, p5, p6⟩ := appendedS hv4 (by omega) hrow4 (by simp; omega) hown5 hgrow5
        have pc := p1.cell
        have pf := p1.frozen
        have hW4 : ∀ b, b < W.heap.size → (W4.alloc (.cells #[.string c.key, .string c.pre, .string c.suf, .bool c.bare] 47)).heap[b]? = W.heap[b]? := fun b hb => (Below.heap_alloc W4 _ b (by omega)).trans (b4.block b hb)
        have KP : KpS (W1.heap.size + 1) (W1.heap.size + 1 + 1) (W1.heap.size + 1 + 2) W (w5.setCell ⟨W1.heap.size, 0, none⟩ (.slice A5 (pre.length + 1) c5)) := ⟨(p6 _ (by omega) (by omega)).trans (hW4 _ (by omega)), (p6 _ (by omega) (by omega)).trans (hW4 _ (by omega)), (p6 _ (by omega) (by omega)).trans (hW4 _ (by omega))⟩
        have q0 : Boxed (w5.setCell ⟨W1.heap.size, 0, none⟩ (.slice A5 (pre.length + 1) c5)) w.heap.size 31 (.slice none 0 0) := (p6 _ (by omega) (by omega)).trans k0
        have q1 : Boxed (w5.setCell ⟨W1.heap.size, 0, none⟩ (.slice A5 (pre.length + 1) c5)) (w.heap.size + 1) 4 (.bool false) := (p6 _ (by omega) (by omega)).trans k1
        have e5 : citF (pre ++ [x]) = citF pre ++ [.string c.key, .string c.pre, .string c.suf, .bool c.bare] := by
          unfold citF citG
          rw [List.flatMap_append]
          simp [hc, citC]
        have s5 : ∀ y ∈ pre ++ [x], (citedI y.1).isSome = true := fun y hy => by
          rcases List.mem_append.1 hy with h | h
          · exact hsome y h
          · rw [List.mem_singleton.1 h, hc]; rfl
        have hB5 := hB4.trans (p5.mono (by omega))
        have KK := KO4.trans p4
        have HH := Lib.hid (And.intro KK (And.intro KP (And.intro p2 (And.intro p3 (And.intro q0 (And.intro q1 hB5))))))
        clear KK KP p2 p3 p4 p5 p6 q0 q1 hB5 hown5 hgrow5 hrow4 hv4
        gi_wp2_with fail
        exact ⟨HH.out.1.from _, HH.out.2.1, ⟨_, HH.out.2.2.1, by rw [e5, List.length_append]; exact HH.out.2.2.2.1, s5⟩, HH.out.2.2.2.2.1, HH.out.2.2.2.2.2.1, HH.out.2.2.2.2.2.2⟩
    case done =>
      rintro D ys W hD rfl ⟨⟨v, hv, hrow, hsome⟩, hr0, hr1, hB⟩ hK
      obtain ⟨Av, cv, rfl⟩ := own_slice hrow
      have hvc := hv.cell
      have f0 := hr0.frozen
      have f1 := hr1.frozen
      have c0 := hr0.cell
      have c1 := hr1.cell
      have hTv : ∀ p ∈ semiL (bytesL s), (toStr p).1 = mk p := fun p hp => toStr_val p (Nat.le_trans (hlen.2 p hp) hs)
      have HF : Hid (R = some ((semiL (bytesL s)).map fun p => (citedI (mk p)).getD d0C)) := Lib.hid (by
        rw [HI.out]
        refine allC_some _ fun p hp => ?_
        have := hsome (toStr p) (List.mem_map_of_mem hp)
        rwa [hTv p hp] at this)
      have eC : citF ((semiL (bytesL s)).map toStr) = citCs ((semiL (bytesL s)).map fun p => (citedI (mk p)).getD d0C) := by
        unfold citF citCs
        rw [List.flatMap_map, List.flatMap_map]
        have : ∀ l : List (List UInt8), (∀ p ∈ l, (toStr p).1 = mk p) → l.flatMap (fun a => citC (citG (toStr a))) = l.flatMap fun a => citC ((citedI (mk a)).getD d0C) := by
          intro l
          induction l with
          | nil => intro _; rfl
          | cons a l ih =>
            intro h
            rw [List.flatMap_cons, List.flatMap_cons, ih fun p hp => h p (List.mem_cons_of_mem _ hp)]
            unfold citG
            rw [h a List.mem_cons_self]
        exact this _ hTv
      rw [eC, List.length_map] at hrow
      rw [List.length_map] at hvc
      clear hsome eC hTv
      generalize hcs : (semiL (bytesL s)).map (fun p => (citedI (mk p)).getD d0C) = cs at *
      have hcl : cs.length = (semiL (bytesL s)).length := by rw [← hcs, List.length_map]
      have KO := (KeepsOthers.setCell W ⟨w.heap.size, 0, none⟩ (.slice Av (semiL (bytesL s)).length cv)).trans (KeepsOthers.setCell _ ⟨w.heap.size + 1, 0, none⟩ (.bool true))
      have hK2 := KO.same D _ hK rfl
      have d0 := (hr0.set (.slice Av (semiL (bytesL s)).length cv)).other (B' := w.heap.size + 1) (by omega) (.bool true)
      have d1 := (hr1.other (B' := w.heap.size) (by omega) (.slice Av (semiL (bytesL s)).length cv)).set (.bool true)
      have o1 := ownsRow_setCell_below (ownsRow_setCell_below hrow (a := ⟨w.heap.size, 0, none⟩) (by show w.heap.size < W1.heap.size + 4; omega) (.slice Av (semiL (bytesL s)).length cv)) (a := ⟨w.heap.size + 1, 0, none⟩) (by show w.heap.size + 1 < W1.heap.size + 4; omega) (.bool true)
      have o2 := ownsRow_putObj o1 (.deferred none) hK2 rfl
      have g0 := Boxed.cell (v := .slice Av (semiL (bytesL s)).length cv) (d0.kept (grownBy_putObj' _ D (.deferred none)) (fun e => by cases e; unfold Boxed at d0; rw [d0] at hK2; cases hK2))
      have g1 := Boxed.cell (v := .bool true) (d1.kept (grownBy_putObj' _ D (.deferred none)) (fun e => by cases e; unfold Boxed at d1; rw [d1] at hK2; cases hK2))
      have hBB := ((QX.trans hB).setCell (p := ⟨w.heap.size, 0, none⟩) (Nat.le_refl _) (.slice Av (semiL (bytesL s)).length cv)).setCell (p := ⟨w.heap.size + 1, 0, none⟩) (by show w.heap.size ≤ w.heap.size + 1; omega) (.bool true)
      have hB2 := hBB.trans (belowK_b (w := w) (Nat.le_refl _) _ D _ (.deferred none) (by omega) hK2 rfl rfl)
      have HH := Lib.hid (And.intro o2 hB2)
      clear o1 o2 hBB hB2 d0 d1 KO hrow hv
      gi_wp2_with fail
      refine ⟨by simp, .inl ⟨_, _, rfl, run_takeDeferred hK2, ?_⟩⟩
      refine ⟨.tuple #[.slice Av (semiL (bytesL s)).length cv, .bool true], by simp [results, Tryz.results20, go_sem, g0, g1], HH.out.2, ?_⟩
      rw [HF.out]
      refine ⟨Av, cv, by rw [hcl], ?_⟩
      rw [hcl]
      exact (ReadsS.of_own HH.out.1).keep (fun _ _ => rfl) fun q hq => ⟨by have := hq.1; omega, hq.2⟩
    case stop =>
      rintro D c pre W hD hpre ⟨⟨rfl, x, hx, hxn⟩, hr0, hr1, hB⟩ hK
      have HF : Hid (R = none) := Lib.hid (by
        obtain ⟨p, hp, rfl⟩ := List.mem_map.1 (hpre.subset hx)
        rw [toStr_val p (Nat.le_trans (hlen.2 p hp) hs)] at hxn
        rw [HI.out]; exact allC_none _ p hp hxn)
      have g0 := Boxed.cell (v := .slice none 0 0) (hr0.kept (grownBy_putObj' _ D (.deferred none)) (fun e => by cases e; unfold Boxed at hr0; rw [hr0] at hK; cases hK))
      have g1 := Boxed.cell (v := .bool false) (hr1.kept (grownBy_putObj' _ D (.deferred none)) (fun e => by cases e; unfold Boxed at hr1; rw [hr1] at hK; cases hK))
      gi_wp2_with fail
      refine ⟨by simp, .inl ⟨_, _, rfl, run_takeDeferred hK, ?_⟩⟩
      refine ⟨.tuple #[.slice none 0 0, .bool false], by simp [results, Tryz.results20, go_sem, g0, g1], (QX.trans hB).trans (belowK_b (w := w) (Nat.le_refl _) _ D _ (.deferred none) (by omega) hK rfl rfl), ?_⟩
      rw [HF.out]
  · rw [hbad, if_pos rfl] at HI
    have f0 := R0.frozen
    have f1 := R1.frozen
    have c0 := R0.cell
    have c1 := R1.cell
    have d0 := (R0.set (.slice none 0 0)).other (B' := w.heap.size + 1) (by omega) (.bool false)
    have d1 := (R1.other (B' := w.heap.size) (by omega) (.slice none 0 0)).set (.bool false)
    have e0 := d0.cell
    have e1 := d1.cell
    gi_wp2_with fail
    refine ⟨.tuple #[.slice none 0 0, .bool false], by simp [results, Tryz.results20, go_sem, e0, e1], (QB.setCell (p := ⟨w.heap.size, 0, none⟩) (Nat.le_refl _) _).setCell (p := ⟨w.heap.size + 1, 0, none⟩) (by show w.heap.size ≤ w.heap.size + 1; omega) _, ?_⟩
    rw [HI.out]

end Go.Proofs.YtcjkgmfidkgamaaGreatDoor
namespace Go.Proofs.YtcjkgmfidkgamaaGreatDoor
open Go.RowKit Go.Pub
theorem str_ne {x : ByteArray} (h : 0 < x.size) : x.toList ≠ [] := (cons_list x fun e => by have := (size_nil x).2 e; omega).1
theorem str_nil {x : ByteArray} (h : x.size = 0) : x.toList = [] := (nil_list x ((size_nil x).1 h)).1
end Go.Proofs.YtcjkgmfidkgamaaGreatDoor
