/-
  Texts of the proof, put together: RefB, MemB, RefC, RefE.
-/
import Derived.Test.YthfienjmigidbaaGreatDoorB08
import Derived.Test.YthfienjmigidbaaGreatDoorB02
import Derived.Laws.BytesArg
import Derived.Lib.UnsafeStr
import Derived.Test.YthfienjmigidbaaGreatDoorB01
import Derived.Test.YthfienjmigidbaaGreatDoorB03
import Derived.Test.YthfienjmigidbaaGreatDoorB05
set_option linter.unusedVariables false
set_option linter.unusedSimpArgs false
namespace Go.Proofs.YthfienjmigidbaaGreatDoor
open Go.RowKit Go.Pub

theorem dec_rest (s : ByteArray) (i : Nat) (h : ¬ bt s i < 128) (h2 : ¬ (194 ≤ bt s i ∧ bt s i ≤ 223)) (h3 : ¬ (224 ≤ bt s i ∧ bt s i ≤ 239)) (h4 : ¬ (240 ≤ bt s i ∧ bt s i ≤ 244)) : Utf8.decode s i = (65533, 1) :=
  dec_bad_width s i (by unfold wd; rw [if_neg h, if_neg h2, if_neg h3, if_neg h4])

set_option maxRecDepth 100000 in
set_option maxHeartbeats 4000000 in
theorem at_any (s : ByteArray) (i : Nat) (w : World) (hs : s.size ≤ 9223372036854775800) (hi : i < s.size) :
    Calls Tryz.prog 96 #[.string s, .int .i64 i] w (PointBelow (Utf8.decode s i).1 (Utf8.decode s i).2 w) := by
  have hbt := Lib.hid (get_bt s i hi)
  have hlt : ((s[i].toNat : Nat) : Int) < 256 := by rw [get_bt s i hi]; have := bt_lt s i; omega
  by_cases c1 : bt s i < 128
  · have hD := Lib.hid (dec_one s i c1)
    generalize Utf8.decode s i = D at *
    have q : ((s[i].toNat : Nat) : Int) < 128 := by rw [get_bt s i hi]; omega
    go_enter Tryz.func96, Tryz.ntmps96
    go_wp2
    exact bodyPost_ret (v := .agg #[.int .i64 ((s[i].toNat : Nat) : Int), .int .i64 1]) (by simp [results, Tryz.results96, go_sem]) rfl (pb_mk (by rw [hD.out, hbt.out]) (by rw [hD.out]; rfl) ((Below.refl _ _).alloc (Nat.le_refl _) _))
  have q : 128 ≤ ((s[i].toNat : Nat) : Int) := by rw [get_bt s i hi]; omega
  by_cases c2 : 194 ≤ bt s i ∧ bt s i ≤ 223
  · have hD := Lib.hid (dec_two s i hi c2)
    have m1 := mo_bd s (i + 1) 128 191 (by omega)
    generalize Utf8.decode s i = D at *
    generalize hx : mo s (i + 1) 128 191 = x at *
    have Hx := Lib.hid hx
    clear hx
    have q2 : 194 ≤ ((s[i].toNat : Nat) : Int) := by rw [get_bt s i hi]; omega
    have q3 : ((s[i].toNat : Nat) : Int) ≤ 223 := by rw [get_bt s i hi]; omega
    clear c1
    by_cases hx0 : x < 0
    · have hD2 := Lib.hid (hD.out.trans (if_pos hx0))
      go_enter Tryz.func96, Tryz.ntmps96
      go_wp2_with fail
      refine (more_at _ _ _ s (i + 1) 128 191 _ (by omega) (by decide) (by decide) (by omega) rfl rfl).mono ?_
      rw [Hx.out]
      rintro e w' ⟨rfl, rfl⟩
      go_wp2
      exact bodyPost_ret (v := .agg #[.int .i64 65533, .int .i64 1]) (by simp [results, Tryz.results96, go_sem]) rfl (pb_mk (by rw [hD2.out]; rfl) (by rw [hD2.out]; rfl) ((Below.refl _ _).alloc (Nat.le_refl _) _))
    · have hD2 := Lib.hid (hD.out.trans (if_neg hx0))
      go_enter Tryz.func96, Tryz.ntmps96
      go_wp2_with fail
      refine (more_at _ _ _ s (i + 1) 128 191 _ (by omega) (by decide) (by decide) (by omega) rfl rfl).mono ?_
      rw [Hx.out]
      rintro e w' ⟨rfl, rfl⟩
      go_wp2
      exact bodyPost_ret (v := .agg #[.int .i64 ((((s[i].toNat : Nat) : Int) - 192) * 64 + x), .int .i64 2]) (by simp [results, Tryz.results96, go_sem]) rfl (pb_mk (by rw [hD2.out, hbt.out]; simp only []; omega) (by rw [hD2.out]; rfl) ((Below.refl _ _).alloc (Nat.le_refl _) _))
  by_cases c3 : 224 ≤ bt s i ∧ bt s i ≤ 239
  · have q2 : 224 ≤ ((s[i].toNat : Nat) : Int) := by rw [get_bt s i hi]; omega
    have q3 : ((s[i].toNat : Nat) : Int) ≤ 239 := by rw [get_bt s i hi]; omega
    have h3 := fun w => three_any s i w hs hi c3
    have H3 := Lib.hid h3
    clear h3 c1 c2
    generalize Utf8.decode s i = D at *
    go_enter Tryz.func96, Tryz.ntmps96
    go_wp2_with fail
    refine (H3.out _).mono ?_
    rintro e w1 ⟨rfl, hb1⟩
    have hz := hb1.size
    have hc0 : w1.cell? ⟨w.heap.size, 0, none⟩ = some (.int .i64 0) := by rw [hb1.cell (p := ⟨w.heap.size, 0, none⟩) (by simp)]; simp
    have hc1 : w1.cell? ⟨w.heap.size, 1, none⟩ = some (.int .i64 0) := by rw [hb1.cell (p := ⟨w.heap.size, 1, none⟩) (by simp)]; simp
    have hf0 : w1.frozen? ⟨w.heap.size, 0, none⟩ = false := by rw [hb1.frozen (p := ⟨w.heap.size, 0, none⟩) (by simp)]; simp
    have hf1 : w1.frozen? ⟨w.heap.size, 1, none⟩ = false := by rw [hb1.frozen (p := ⟨w.heap.size, 1, none⟩) (by simp)]; simp
    have hbw : Below w.heap.size w w1 := ((Below.refl _ w).alloc (Nat.le_refl _) _).trans (hb1.mono (by simp))
    go_wp2
    exact bodyPost_ret (v := .agg #[.int .i64 D.1, .int .i64 D.2]) (by simp [results, Tryz.results96, go_sem, hc0, hc1]) rfl (pb_mk rfl rfl ((hbw.setCell (by simp) _).setCell (by simp) _))
  by_cases c4 : 240 ≤ bt s i ∧ bt s i ≤ 244
  · have q2 : 240 ≤ ((s[i].toNat : Nat) : Int) := by rw [get_bt s i hi]; omega
    have q3 : ((s[i].toNat : Nat) : Int) ≤ 244 := by rw [get_bt s i hi]; omega
    have h3 := fun w => four_any s i w hs hi c4
    have H3 := Lib.hid h3
    clear h3 c1 c2 c3
    generalize Utf8.decode s i = D at *
    go_enter Tryz.func96, Tryz.ntmps96
    go_wp2_with fail
    refine (H3.out _).mono ?_
    rintro e w1 ⟨rfl, hb1⟩
    have hz := hb1.size
    have hc0 : w1.cell? ⟨w.heap.size, 0, none⟩ = some (.int .i64 0) := by rw [hb1.cell (p := ⟨w.heap.size, 0, none⟩) (by simp)]; simp
    have hc1 : w1.cell? ⟨w.heap.size, 1, none⟩ = some (.int .i64 0) := by rw [hb1.cell (p := ⟨w.heap.size, 1, none⟩) (by simp)]; simp
    have hf0 : w1.frozen? ⟨w.heap.size, 0, none⟩ = false := by rw [hb1.frozen (p := ⟨w.heap.size, 0, none⟩) (by simp)]; simp
    have hf1 : w1.frozen? ⟨w.heap.size, 1, none⟩ = false := by rw [hb1.frozen (p := ⟨w.heap.size, 1, none⟩) (by simp)]; simp
    have hbw : Below w.heap.size w w1 := ((Below.refl _ w).alloc (Nat.le_refl _) _).trans (hb1.mono (by simp))
    go_wp2
    exact bodyPost_ret (v := .agg #[.int .i64 D.1, .int .i64 D.2]) (by simp [results, Tryz.results96, go_sem, hc0, hc1]) rfl (pb_mk rfl rfl ((hbw.setCell (by simp) _).setCell (by simp) _))
  have hD := Lib.hid (dec_rest s i c1 c2 c3 c4)
  generalize Utf8.decode s i = D at *
  have c5 : bt s i < 194 ∨ 244 < bt s i := by omega
  clear c2 c3 c4 c1
  rcases c5 with c5 | c5
  · have q2 : ((s[i].toNat : Nat) : Int) < 194 := by rw [get_bt s i hi]; omega
    go_enter Tryz.func96, Tryz.ntmps96
    go_wp2
    exact bodyPost_ret (v := .agg #[.int .i64 65533, .int .i64 1]) (by simp [results, Tryz.results96, go_sem]) rfl (pb_mk (by rw [hD.out]; rfl) (by rw [hD.out]; rfl) ((Below.refl _ _).alloc (Nat.le_refl _) _))
  · have q2 : 244 < ((s[i].toNat : Nat) : Int) := by rw [get_bt s i hi]; omega
    go_enter Tryz.func96, Tryz.ntmps96
    go_wp2
    exact bodyPost_ret (v := .agg #[.int .i64 65533, .int .i64 1]) (by simp [results, Tryz.results96, go_sem]) rfl (pb_mk (by rw [hD.out]; rfl) (by rw [hD.out]; rfl) ((Below.refl _ _).alloc (Nat.le_refl _) _))

def PairBelow (c n : Int) (w : World) (e : Ending) (w' : World) : Prop := e = .returned (.tuple #[.int .i64 c, .int .i64 n]) ∧ Below w.heap.size w w'
theorem pairBelow_mk {c n c' n' : Int} {w w' : World} (hc : c = c') (hn : n = n') (hb : Below w.heap.size w w') : PairBelow c' n' w (.returned (.tuple #[.int .i64 c, .int .i64 n])) w' := by
  subst hc hn; exact ⟨rfl, hb⟩

end Go.Proofs.YthfienjmigidbaaGreatDoor
namespace Go.Pub
open Go.RowKit

/-- A slice of bytes as a string. -/
theorem conv_bytes {P : Program} (w : World) (src e : TypeId) (hs : P.underlying src = some (.slice e)) (he : P.underlying e = some (.int .u8)) {B : Nat} {A : Option Addr} {n : Nat} (c : Nat) {l : List UInt8} (hr : Reads w B 1 A n (Lib.byteCells l)) :
    ∀ dst, P.underlying dst = some .string → (convert src dst (.slice A n c)).run P w = .ok (.string ⟨l.toArray⟩) w := by
  intro dst hd
  have hn : l.length = n := by have := hr.1; rw [Lib.byteCells_length] at this; omega
  rcases Nat.eq_zero_or_pos n with h0 | h0
  · subst h0
    have : l = [] := List.eq_nil_of_length_eq_zero hn
    subst this
    rw [run_convert_bytes_string w src dst e _ 0 c hs he hd]
    cases A with
    | none => simp [Conv.bytesToString]; rfl
    | some ad =>
      have := run_bytesToString (P := P) w ad 0 c [] (by rfl)
      rw [this]; rfl
  · obtain ⟨ad, rfl, _, hc⟩ := hr.2 h0
    have hl : (loadCells ad n).run P w = .ok ((l.map fun b => ((b.toNat : Nat) : Int)).map (Value.int .u8)).toArray w := by
      have := run_loadCells_list (P := P) w ad ((l.map fun b => ((b.toNat : Nat) : Int)).map (Value.int .u8)) (fun j v hj => hc j v (by simpa [Lib.byteCells] using hj))
      simpa [hn] using this
    rw [run_convert_bytes_string w src dst e _ n c hs he hd, run_bytesToString w _ n c _ hl, foldl_push_bytes]
    simp only [List.map_map, ByteArray.empty, ByteArray.emptyWithCapacity]
    have e1 : (fun n : Int => UInt8.ofNat n.toNat) ∘ (fun b : UInt8 => ((b.toNat : Nat) : Int)) = id := by
      funext b; simp
    rw [e1, List.map_id]
    simp
    rfl
end Go.Pub
namespace Go.Pub
open Go.RowKit
def SliceOwn (e : TypeId) (size n : Nat) (xs : List Value) (w : World) (en : Ending) (w' : World) : Prop := ∃ v, en = .returned v ∧ w'.ownsRow w.heap.size e size v n xs ∧ Below w.heap.size w w'
end Go.Pub
namespace Go.Proofs.YthfienjmigidbaaGreatDoor
open Go.RowKit Go.Pub

theorem ptInfo : (Tryz.prog.info? 61).map (fun i => (i.zero, i.size, i.bytes)) = some (some (.agg #[.int .i64 0, .int .i64 0]), 2, 16) := by kernel_rfl

set_option maxRecDepth 100000 in
set_option maxHeartbeats 4000000 in
theorem points_any (s : ByteArray) (w : World) (hs : s.size ≤ 1000000) : Calls Tryz.prog 52 #[.string s] w (SliceOwn 61 2 (pts s).length (ptCells (pts s)) w) := by
  obtain ⟨i0, hi0, hz0, hz1, hz2⟩ := info_parts ptInfo
  go_enter Tryz.func52, Tryz.ntmps52
  go_wp2
  go_loopw [3, 4] (fun v i wr => ∃ (pos f : Nat) (acc : List (Nat × Nat)), i = .int .i64 pos ∧ wr.ownsRow w.heap.size 61 2 v acc.length (ptCells acc) ∧ Below w.heap.size w wr ∧ acc ++ ptsFrom s f pos = pts s ∧ s.size ≤ pos + f ∧ pos ≤ s.size ∧ acc.length ≤ pos) (fun _ i _ => s.size - (intOf i).toNat)
  case atStart => exact ⟨0, s.size, [], rfl, World.ownsRow_nil _ _ _ _, Below.refl _ w, rfl, by omega, by omega, by simp⟩
  case round =>
    obtain ⟨pos, f, acc, rfl, hown, hbw, hacc, hf, hal, hacl⟩ := hrel
    have Hacc := Lib.hid hacc
    clear hacc
    by_cases hp : pos < s.size
    · have hd := dec_bd s pos hp
      have HN : Hid (∀ W, Calls Tryz.prog 96 #[.string s, .int .i64 pos] W (PointBelow (Utf8.decode s pos).1 (Utf8.decode s pos).2 W)) := Lib.hid fun W => at_any s pos W (by omega) hp
      have hall : Hid ((acc ++ [Utf8.decode s pos]) ++ ptsFrom s (f - 1) (pos + (Utf8.decode s pos).2) = pts s) := Lib.hid (by rw [← Hacc.out, ptsFrom_step s f pos hp hf]; simp)
      generalize Utf8.decode s pos = D at *
      go_wp2_with fail
      refine (HN.out _).mono ?_
      rintro e w1 ⟨rfl, hb1⟩
      have hbw1 : Below w.heap.size w w1 := hbw.trans (hb1.mono hbw.size)
      have hz := hb1.size
      have hzw := hbw.size
      have hown1 := own_below hown hb1
      go_wp2_with (at_builtin; refine wpList_append_own _ rfl _ _ 58 rfl w.heap.size 61 i0 _ 2 16 Tryz.underlying58 hi0 hz0 hz1 hz2 rfl (by decide) _ _ _ rfl ((hown1.alloc _).alloc _) ⟨w1.heap.size + 1, 0, none⟩ 1 1 [.int .i64 D.1, .int .i64 D.2] rfl rfl ?c1 ?c2 ?c3 ?c4 ?c5 ?_)
      case c1 =>
        intro j u hj
        match j, hj with
        | 0, hj => simp at hj; subst hj; simp [Addr.add]
        | 1, hj => simp at hj; subst hj; simp [Addr.add]
      case c2 => intro u hu; simp at hu; rcases hu with rfl | rfl <;> rfl
      case c3 => unfold maxLen; omega
      case c4 => omega
      case c5 => simp; omega
      intro v' w2 hown2 hgrow _
      have hnx : Below w.heap.size w w2 := ((hbw1.alloc (by omega) _).alloc (by simp; omega) _).grown hgrow (by simp; omega) (fun k hk => (hown1.lt k hk).1)
      have hc : w2.cell? ⟨w1.heap.size, 1, none⟩ = some (.int .i64 D.2) := by
        refine hgrow.cell ?_ ?_
        · simp
        · intro e
          have := (hown1.lt _ e.symm).2
          simp at this
      go_wp2
      go_roundw
      case rel =>
        refine ⟨pos + D.2, f - 1, acc ++ [D], by go_num, ?_, hnx, hall.out, by omega, by omega, by simp; omega⟩
        rw [ptCells_append, List.length_append]
        exact hown2
      case measure => simp [intOf]; omega
    · go_wp2
      go_ret
      rw [ptsFrom_end s f pos hp, List.append_nil] at Hacc
      exact ⟨_, rfl, by rw [← Hacc.out]; exact hown, hbw⟩

theorem below_new {w : World} {o : Obj} : Below w.heap.size w (w.alloc o) := (Below.refl _ _).alloc (Nat.le_refl _) _

set_option maxRecDepth 100000 in
set_option maxHeartbeats 4000000 in
theorem bytes_good (c : Int) (w : World) (h : 0 ≤ c ∧ c ≤ 1114111 ∧ (c < 55296 ∨ 57343 < c)) : Calls Tryz.prog 97 #[.int .i64 c] w (SliceOwn 5 1 (encL c).length (Lib.byteCells (encL c)) w) := by
  obtain ⟨h0, h1, h2⟩ := h
  by_cases c1 : c < 128
  · have H := Lib.hid (encCells_one c h0 c1)
    have HL := Lib.hid (Lib.byteCells_length (encL c))
    generalize encL c = L at *
    go_enter Tryz.func97, Tryz.ntmps97
    go_wp2
    go_ret
    exact ⟨_, rfl, by rw [← HL.out, H.out]; exact World.ownsRow_lit w _ 1 (Nat.le_refl _) (by unfold maxLen; omega) rfl, below_new⟩
  by_cases c2 : c < 2048
  · have H := Lib.hid (encCells_two c (by omega) c2)
    have HL := Lib.hid (Lib.byteCells_length (encL c))
    generalize encL c = L at *
    go_enter Tryz.func97, Tryz.ntmps97
    go_wp2
    go_ret
    exact ⟨_, rfl, by rw [← HL.out, H.out]; exact World.ownsRow_lit w _ 2 (Nat.le_refl _) (by unfold maxLen; omega) rfl, below_new⟩
  by_cases c3 : c < 65536
  · have H := Lib.hid (encCells_three c (by omega) c3 h2)
    have HL := Lib.hid (Lib.byteCells_length (encL c))
    generalize encL c = L at *
    by_cases c4 : c < 55296
    all_goals
      go_enter Tryz.func97, Tryz.ntmps97
      go_wp2
      go_ret
      exact ⟨_, rfl, by rw [← HL.out, H.out]; exact World.ownsRow_lit w _ 3 (Nat.le_refl _) (by unfold maxLen; omega) rfl, below_new⟩
  · have H := Lib.hid (encCells_four c (by omega) h1)
    have HL := Lib.hid (Lib.byteCells_length (encL c))
    generalize encL c = L at *
    go_enter Tryz.func97, Tryz.ntmps97
    go_wp2
    go_ret
    exact ⟨_, rfl, by rw [← HL.out, H.out]; exact World.ownsRow_lit w _ 4 (Nat.le_refl _) (by unfold maxLen; omega) rfl, below_new⟩

set_option maxRecDepth 100000 in
set_option maxHeartbeats 4000000 in
theorem bytes_any (c : Int) (w : World) : Calls Tryz.prog 97 #[.int .i64 c] w (SliceOwn 5 1 (encL c).length (Lib.byteCells (encL c)) w) := by
  by_cases h : 0 ≤ c ∧ c ≤ 1114111 ∧ (c < 55296 ∨ 57343 < c)
  · exact bytes_good c w h
  · have e : encL c = encL 65533 := by unfold encL; rw [encode_bad c (by omega)]
    rw [e]
    have HB := Lib.hid (bytes_good 65533)
    clear e
    by_cases h0 : c < 0
    all_goals
      try (by_cases h1 : 1114111 < c)
      all_goals
        go_enter Tryz.func97, Tryz.ntmps97
        go_wp2_with fail
        refine (HB.out _ (by omega)).mono ?_
        rintro e w1 ⟨v, rfl, hown, hb⟩
        go_wp2
        go_ret
        exact ⟨_, rfl, hown, hb⟩

end Go.Proofs.YthfienjmigidbaaGreatDoor
namespace Go.Pub
def intCells (l : List Int) : List Value := l.map (Value.int .i64)
theorem intCells_at (l : List Int) (k : Nat) (h : k < l.length) : (intCells l)[k]? = some (.int .i64 l[k]) := by simp [intCells, h]
theorem add_plain (g k : Nat) : (⟨g, 0, none⟩ : Addr).add k = ⟨g, k, none⟩ := by unfold Addr.add; split <;> simp_all
end Go.Pub
namespace Go.Proofs.YthfienjmigidbaaGreatDoor
open Go.RowKit Go.Pub

set_option maxRecDepth 100000 in
set_option maxHeartbeats 400000 in
theorem rclean_any (c : Int) (w : World) : Calls Tryz.prog 170 #[.int .i64 c] w fun e w' => e = .returned (.bool (!uncleanB c)) ∧ w = w' := by
  have H : Hid ((!uncleanB c) = !((decide (c < 32) && c != 10) || c == 127)) := Lib.hid rfl
  generalize (!uncleanB c) = b at *
  by_cases h2 : c = 10
  · subst h2
    go_enter Tryz.func170, Tryz.ntmps170
    go_wp2
    go_ret
    exact ⟨ret_bool (by rw [H.out]; rfl), rfl⟩
  · have h3 : (c == 10) = false := by simpa using h2
    clear h2
    by_cases h : 32 ≤ c
    · go_enter Tryz.func170, Tryz.ntmps170
      go_wp2
      go_ret
      exact ⟨ret_bool (by rw [H.out]; simp [show ¬ c < 32 by omega]; rfl), rfl⟩
    · go_enter Tryz.func170, Tryz.ntmps170
      go_wp2
      go_ret
      exact ⟨ret_bool (by rw [H.out]; simp at h3; simp; omega), rfl⟩

set_option maxRecDepth 100000 in
set_option maxHeartbeats 4000000 in
theorem rValid_any (s : ByteArray) (w : World) (hs : s.size ≤ 1000000) : Calls Tryz.prog 165 #[.string s] w fun e w' => e = .returned (.bool (validB s)) ∧ Below w.heap.size w w' := by
  have HV : Hid (validB s = (pts s).all okPt) := Lib.hid rfl
  have HP := Lib.hid (points_any s)
  have hlen := pts_length s
  generalize validB s = V at *
  generalize pts s = l at *
  go_enter Tryz.func165, Tryz.ntmps165
  go_wp2_with fail
  refine (HP.out _ hs).mono ?_
  rintro e w1 ⟨v, rfl, hown, hb1⟩
  obtain ⟨A, cp, rfl⟩ := own_slice hown
  have hrd := Reads.of_own hown
  go_wp2
  go_loopw [8] (fun i wr => ∃ k : Nat, i = .int .i64 k ∧ k ≤ l.length ∧ Below w1.heap.size w1 wr ∧ (l.take k).all okPt = true) (fun i _ => l.length - (intOf i).toNat)
  case atStart => exact ⟨0, rfl, by omega, Below.refl _ w1, rfl⟩
  case round =>
    obtain ⟨k, rfl, hk, hb, hok⟩ := hrel
    have Hok := Lib.hid hok
    clear hok
    by_cases hlt : k < l.length
    · obtain ⟨ad, rfl, hadb, hcell⟩ := hrd.2 (by omega)
      obtain ⟨g, hg⟩ : ∃ g, ad = ⟨g, 0, none⟩ := by
        obtain ⟨g, cap, hv, _⟩ := hown.form (by omega)
        injection hv with h1 h2 h3
        injection h1 with h1
        exact ⟨g, h1⟩
      subst hg
      have hp := ptCells_at l k l[k] (List.getElem?_eq_getElem hlt)
      have hc0 : wr.cell? ⟨g, k * 2, none⟩ = some (.int .i64 l[k].1) := (hb.cell (p := ⟨g, k * 2, none⟩) hadb).trans (by rw [← add_plain]; exact hcell _ _ hp.1)
      have hc1 : wr.cell? ⟨g, k * 2 + 1, none⟩ = some (.int .i64 l[k].2) := (hb.cell (p := ⟨g, k * 2 + 1, none⟩) hadb).trans (by rw [← add_plain]; exact hcell _ _ hp.2)
      have hz := hb.size
      have hVf : Hid (okPt l[k] = false → V = false) := Lib.hid fun h => by
        rw [HV.out, ← List.take_append_drop k l, List.drop_eq_getElem_cons hlt, List.all_append, List.all_cons, h]; simp
      have hVt : Hid (okPt l[k] = true → (l.take (k + 1)).all okPt = true) := Lib.hid fun h => by
        rw [List.take_succ_eq_append_getElem hlt, List.all_append, Hok.out]; simp [h]
      have hokp : Hid (okPt l[k] = (!(l[k].1 == 65533 && l[k].2 == 1) && !uncleanB l[k].1)) := Lib.hid rfl
      clear hp hcell
      generalize l[k] = D at *
      by_cases c3 : uncleanB D.1 = true
      · have Hv : Hid (V = false) := Lib.hid (hVf.out (by rw [hokp.out, c3]; simp))
        go_wp2_with (go_at_call 170; refine (rclean_any _ _).mono ?_; rw [c3]; rintro e w' ⟨rfl, rfl⟩)
        go_ret
        exact ⟨ret_bool Hv.out.symm, (hb1.trans (hb.mono hb1.size)).alloc (Nat.le_trans hb1.size hz) _⟩
      · rw [Bool.not_eq_true] at c3
        by_cases c1 : ((D.1 : Int) == 65533) = true
        · by_cases c2 : ((D.2 : Int) == 1) = true
          · have Hv : Hid (V = false) := Lib.hid (hVf.out (by rw [hokp.out, c3]; simp at c1 c2; simp; omega))
            go_wp2_with (go_at_call 170; refine (rclean_any _ _).mono ?_; rw [c3]; rintro e w' ⟨rfl, rfl⟩)
            go_ret
            exact ⟨ret_bool Hv.out.symm, (hb1.trans (hb.mono hb1.size)).alloc (Nat.le_trans hb1.size hz) _⟩
          · rw [Bool.not_eq_true] at c2
            have Hv := Lib.hid (hVt.out (by rw [hokp.out, c3]; simp at c1 c2; simp; omega))
            go_wp2_with (go_at_call 170; refine (rclean_any _ _).mono ?_; rw [c3]; rintro e w' ⟨rfl, rfl⟩)
            go_roundw
            case rel => exact ⟨k + 1, by go_num, by omega, hb.alloc hz _, Hv.out⟩
            case measure => simp [intOf]; omega
        · rw [Bool.not_eq_true] at c1
          have Hv := Lib.hid (hVt.out (by rw [hokp.out, c3]; simp at c1; simp; omega))
          go_wp2_with (go_at_call 170; refine (rclean_any _ _).mono ?_; rw [c3]; rintro e w' ⟨rfl, rfl⟩)
          go_roundw
          case rel => exact ⟨k + 1, by go_num, by omega, hb.alloc hz _, Hv.out⟩
          case measure => simp [intOf]; omega
    · obtain rfl : k = l.length := by omega
      have Hv : Hid (V = true) := Lib.hid (by rw [HV.out]; have := Hok.out; rwa [List.take_length] at this)
      go_wp2
      go_ret
      exact ⟨ret_bool Hv.out.symm, hb1.trans (hb.mono hb1.size)⟩

set_option maxRecDepth 100000 in
set_option maxHeartbeats 4000000 in
theorem rText_any (cs : List Int) (A : Option Addr) (cp : Nat) (w : World) (hl : cs.length ≤ 10000000) (hrd : ∃ B, B ≤ w.heap.size ∧ Reads w B 1 A cs.length (intCells cs)) (hA : A = none ∨ ∃ g, A = some ⟨g, 0, none⟩) :
    Calls Tryz.prog 55 #[.slice A cs.length cp] w fun e w' => e = .returned (.string ⟨(cs.flatMap encL).toArray⟩) ∧ Below w.heap.size w w' := by
  obtain ⟨B, hB, hrd⟩ := hrd
  have HT : Hid (∀ k, cs.flatMap encL = (cs.take k).flatMap encL ++ (cs.drop k).flatMap encL) := Lib.hid fun k => by rw [← List.flatMap_append, List.take_append_drop]
  generalize hR : cs.flatMap encL = R at *
  clear hR
  obtain ⟨i0, hi0, hz0, hz1, hz2⟩ := info_parts byteInfo
  go_enter Tryz.func55, Tryz.ntmps55
  go_wp2
  go_loopw [3, 8] (fun v i wr => ∃ (k : Nat) (acc : List UInt8), i = .int .i64 k ∧ k ≤ cs.length ∧ wr.ownsRow w.heap.size 5 1 v acc.length (Lib.byteCells acc) ∧ Below w.heap.size w wr ∧ acc = (cs.take k).flatMap encL ∧ acc.length ≤ 4 * k) (fun _ i _ => cs.length - (intOf i).toNat)
  case atStart => exact ⟨0, [], rfl, by omega, World.ownsRow_nil _ _ _ _, Below.refl _ w, rfl, by simp⟩
  case round =>
    obtain ⟨k, acc, rfl, hk, hown, hb, hacc, hal⟩ := hrel
    have Hacc := Lib.hid hacc
    clear hacc
    by_cases hlt : k < cs.length
    · obtain ⟨ad, rfl, hadb, hcell⟩ := hrd.2 (by omega)
      rcases hA with hA | ⟨g, hg⟩
      · cases hA
      injection hg with hg
      subst hg
      have hc0 : wr.cell? ⟨g, k, none⟩ = some (.int .i64 cs[k]) := (hb.cell (p := ⟨g, k, none⟩) (by show g < _; have : g < B := hadb; omega)).trans (by rw [← add_plain]; exact hcell _ _ (intCells_at cs k hlt))
      have hnext : Hid (acc ++ encL cs[k] = (cs.take (k + 1)).flatMap encL) := Lib.hid (by rw [List.take_succ_eq_append_getElem hlt, List.flatMap_append, ← Hacc.out]; simp)
      have hel := encL_length cs[k]
      clear hcell
      have HB := Lib.hid (bytes_any cs[k])
      have hone : Hid (∀ u ∈ Lib.byteCells (encL cs[k]), u.oneCell' = true) := Lib.hid (fun u hu => by simp only [Lib.byteCells, List.mem_map] at hu; obtain ⟨b, _, rfl⟩ := hu; rfl)
      generalize encL cs[k] = E at *
      generalize cs[k] = c at *
      have hz := hb.size
      go_wp2_with fail
      refine (HB.out _).mono ?_
      rintro e w1 ⟨v2, rfl, hown2, hb2⟩
      obtain ⟨A2, cp2, rfl⟩ := own_slice hown2
      obtain ⟨ad2, rfl, had2, hcell2⟩ := (Reads.of_own hown2).2 (by omega)
      have hown1 := own_below hown hb2
      have hz2' := hb2.size
      go_wp2_with (at_builtin; refine wpList_append_own _ rfl _ _ 73 rfl w.heap.size 5 i0 _ 1 1 Tryz.underlying73 hi0 hz0 hz1 hz2 rfl (by decide) _ _ _ rfl hown1 ad2 E.length cp2 (Lib.byteCells E) rfl (by rw [Lib.byteCells_length, Nat.mul_one]) hcell2 hone.out ?c3 ?c4 ?c5 ?_)
      case c3 => unfold maxLen; omega
      case c4 => omega
      case c5 => omega
      intro v' w2 hown3 hgrow _
      have hnx : Below w.heap.size w w2 := (hb.trans (hb2.mono hz)).grown hgrow (by omega) (fun k hk => (hown1.lt k hk).1)
      go_wp2
      go_roundw
      case rel =>
        refine ⟨k + 1, acc ++ E, by go_num, by omega, ?_, hnx, hnext.out, by simp; omega⟩
        rw [Lib.byteCells_append, List.length_append]
        exact hown3
      case measure => simp [intOf]; omega
    · obtain rfl : k = cs.length := by omega
      have hR : Hid (acc = R) := Lib.hid (by rw [HT.out cs.length, List.drop_length, Hacc.out]; simp)
      obtain ⟨A2, cp2, rfl⟩ := own_slice hown
      have hcv := conv_bytes wr 73 5 Tryz.underlying73 Tryz.underlying5 cp2 (Reads.of_own hown) 9 Tryz.underlying9
      go_wp2
      go_ret
      exact ⟨ret_str (by rw [hR.out]), hb⟩
end Go.Proofs.YthfienjmigidbaaGreatDoor
