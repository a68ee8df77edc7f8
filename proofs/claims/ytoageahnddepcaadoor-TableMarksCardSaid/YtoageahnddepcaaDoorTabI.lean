/-
  The laws' texts and light.
-/
import Derived.Test.YtoageahnddepcaaDoorTabH
import Derived.Deep.QuietTactic
import Derived.BigQuiet
set_option linter.unusedVariables false
set_option linter.unusedSimpArgs false
namespace Go.Pub
open Go.RowKit
/-- Few and short strings. -/
def LightP (zs : List ByteArray) : Prop := zs.length ≤ 60 ∧ ∀ z ∈ zs, z.size ≤ 400
theorem texts_step (xs ys : List ByteArray) (k : Nat) (h : k < xs.length) (h' : k < ys.length) : (xs.drop k = ys.drop k) ↔ (xs[k] = ys[k] ∧ xs.drop (k + 1) = ys.drop (k + 1)) := by
  rw [List.drop_eq_getElem_cons h, List.drop_eq_getElem_cons h']; simp only [List.cons.injEq]
def LightPost (zs : List ByteArray) (w : World) (e : Ending) (w' : World) : Prop := (∃ b : Bool, e = .returned (.bool b) ∧ (b = true → LightP zs)) ∧ w = w'
end Go.Pub
namespace Go.Proofs.YtoageahnddepcaaDoor
open Go.RowKit Go.Pub

set_option maxRecDepth 100000 in
set_option maxHeartbeats 2000000 in
theorem texts_any (xs ys : List ByteArray) (A A' : Option Addr) (c c' B : Nat) (w : World) (hr : Reads w B 1 A xs.length (strs xs)) (hr' : Reads w B 1 A' ys.length (strs ys)) (hB : B ≤ w.heap.size) (hl : xs.length ≤ 1000000) (hl' : ys.length ≤ 1000000) :
    Calls Tryd.prog 14 #[.slice A xs.length c, .slice A' ys.length c'] w fun e w' => e = .returned (.bool (decide (xs = ys))) ∧ Below w.heap.size w w' := by
  by_cases hne : xs.length = ys.length
  rotate_left
  · have HF : Hid (decide (xs = ys) = false) := Lib.hid (decide_eq_false fun e => hne (by rw [e]))
    generalize decide (xs = ys) = R at *
    have z : ((xs.length : Int) != (ys.length : Int)) = true := by simp; omega
    have z' : (xs.length != ys.length) = true := by simp; omega
    go_enter Tryd.func14, Tryd.ntmps14
    go_wp2_with fail
    go_ret
    exact ⟨ret_bool HF.out.symm, Below.refl _ _⟩
  have HX : Hid (decide (xs = ys) = decide (xs.drop 0 = ys.drop 0)) := Lib.hid rfl
  generalize hR : decide (xs = ys) = R at *
  clear hR
  have HR := Lib.hid hr
  have HR' := Lib.hid hr'
  clear hr hr'
  have z : ((xs.length : Int) != (ys.length : Int)) = false := by rw [hne]; simp
  have z' : (xs.length != ys.length) = false := by rw [hne]; simp
  have HNE := Lib.hid hne
  clear hne
  go_enter Tryd.func14, Tryd.ntmps14
  go_wp2_with fail
  go_loopw [5] (fun v wr => ∃ k : Nat, v = .int .i64 k ∧ k ≤ xs.length ∧ Below w.heap.size w wr ∧ Hid (R = decide (xs.drop k = ys.drop k))) (fun v _ => xs.length - (intOf v).toNat)
  case atStart => exact ⟨0, rfl, by omega, Below.refl _ _, HX⟩
  case round =>
    obtain ⟨k, rfl, hk, hbw, Hk⟩ := hrel
    by_cases hlt : k < xs.length
    · have hlt' : k < ys.length := by have := HNE.out; omega
      obtain ⟨b, off, rfl, hbB, hcell⟩ := reads_get HR.out (by omega)
      obtain ⟨b', off', rfl, hbB', hcell'⟩ := reads_get HR'.out (by omega)
      have hc : wr.cell? ⟨b, off + k, none⟩ = some (.string xs[k]) := (hbw.cell (p := ⟨b, off + k, none⟩) (by show b < _; omega)).trans (hcell k hlt)
      have hc' : wr.cell? ⟨b', off' + k, none⟩ = some (.string ys[k]) := (hbw.cell (p := ⟨b', off' + k, none⟩) (by show b' < _; omega)).trans (hcell' k hlt')
      have hst := Lib.hid (texts_step xs ys k hlt hlt')
      have d1 : decide ((k : Int) < (xs.length : Int)) = true := decide_eq_true (by omega)
      have d2 : decide ((k : Int) < (ys.length : Int)) = true := decide_eq_true (by omega)
      clear hcell hcell'
      generalize xs[k] = x at *
      generalize ys[k] = y at *
      by_cases hxy : x = y
      · have z1 : (x.toList != y.toList) = false := by rw [hxy]; simp
        have z2 : (x.toList == y.toList) = true := by rw [hxy]; simp
        have z3 : x.toList = y.toList := by rw [hxy]
        have HN : Hid (R = decide (xs.drop (k + 1) = ys.drop (k + 1))) := Lib.hid (by rw [Hk.out]; exact decide_eq_decide.2 (by rw [hst.out]; simp [hxy]))
        clear hxy
        go_wp2_with fail
        go_quiet (fail)
        go_wp2
        go_roundw
        case rel => exact ⟨k + 1, by go_num, by omega, below_drewN hbw _, HN⟩
        case measure => simp [intOf]; omega
      · have z1 : (x.toList != y.toList) = true := by
          have := (Lib.bytes_beq_false_iff x y).2 hxy
          unfold bne; rw [this]; rfl
        have z2 := (Lib.bytes_beq_false_iff x y).2 hxy
        have z3 : ¬ x.toList = y.toList := fun e => by rw [e] at z2; simp at z2
        have HF : Hid (R = false) := Lib.hid (by rw [Hk.out]; exact decide_eq_false (fun e => hxy (hst.out.1 e).1))
        clear hxy
        go_wp2_with fail
        go_quiet (fail)
        go_wp2_with fail
        go_ret
        exact ⟨ret_bool HF.out.symm, below_drewN hbw _⟩
    · have HF : Hid (R = true) := Lib.hid (by rw [Hk.out, List.drop_of_length_le (by omega), List.drop_of_length_le (by have := HNE.out; omega)]; rfl)
      have d1 : decide ((k : Int) < (xs.length : Int)) = false := decide_eq_false (by omega)
      go_wp2_with fail
      go_ret
      exact ⟨ret_bool HF.out.symm, hbw⟩

set_option maxRecDepth 100000 in
set_option maxHeartbeats 2000000 in
theorem light_any (zs : List ByteArray) (A : Option Addr) (c B : Nat) (w : World) (hr : Reads w B 1 A zs.length (strs zs)) (hl : zs.length ≤ 9223372036854775807) (hM : ∀ z ∈ zs, z.size ≤ 9223372036854775807) :
    Calls Tryd.prog 20 #[.slice A zs.length c] w (LightPost zs w) := by
  have HR := Lib.hid hr
  have HM := Lib.hid hM
  clear hr hM
  go_enter Tryd.func20, Tryd.ntmps20
  go_wp2_with fail
  go_loop [3, 4] (fun v3 v4 => ∃ k n : Nat, v3 = .int .i64 n ∧ v4 = .int .i64 k ∧ k ≤ zs.length ∧ n ≤ 2400 ∧ Hid (∀ z ∈ zs.take k, z.size ≤ 400)) (fun _ v => zs.length - (intOf v).toNat)
  case atStart => exact ⟨0, 0, rfl, rfl, by omega, by omega, Lib.hid (by simp)⟩
  case round =>
    obtain ⟨k, n, rfl, rfl, hk, hn, Hk⟩ := hrel
    by_cases hlt : k < zs.length
    · have d1 : decide ((k : Int) < (zs.length : Int)) = true := decide_eq_true (by omega)
      by_cases hn2 : n < 2000
      · obtain ⟨b, off, rfl, hbB, hcell⟩ := reads_get HR.out (by omega)
        have hc := hcell k hlt
        have hzm := HM.out zs[k] (List.getElem_mem hlt)
        have HN : Hid (zs[k].size ≤ 400 → ∀ z ∈ zs.take (k + 1), z.size ≤ 400) := Lib.hid fun h z hz => by
          rw [List.take_succ_eq_append_getElem hlt, List.mem_append] at hz
          rcases hz with hz | hz
          · exact Hk.out z hz
          · rw [List.mem_singleton] at hz; rw [hz]; exact h
        clear hcell
        generalize zs[k] = z at *
        by_cases h4 : z.size ≤ 400
        · go_wp2_with fail
          go_round
          case rel => exact ⟨k + 1, n + z.size, by go_num, by go_num, by omega, by omega, Lib.hid (HN.out h4)⟩
          case measure => simp [intOf]; omega
        · go_wp2_with fail
          go_ret
          exact ⟨⟨false, rfl, by simp⟩, rfl⟩
      · have d2 : decide ((n : Int) < 2000) = false := decide_eq_false (by omega)
        by_cases h60 : zs.length ≤ 60
        · have d3 : decide ((zs.length : Int) ≤ 60) = true := decide_eq_true (by omega)
          go_wp2_with fail
          go_ret
          exact ⟨⟨false, rfl, by simp⟩, rfl⟩
        · have d3 : decide ((zs.length : Int) ≤ 60) = false := decide_eq_false (by omega)
          go_wp2_with fail
          go_ret
          exact ⟨⟨false, rfl, by simp⟩, rfl⟩
    · have d1 : decide ((k : Int) < (zs.length : Int)) = false := decide_eq_false (by omega)
      by_cases h60 : zs.length ≤ 60
      · have d3 : decide ((zs.length : Int) ≤ 60) = true := decide_eq_true (by omega)
        have HE : Hid (LightP zs) := Lib.hid ⟨h60, fun z hz => Hk.out z (by rw [List.take_of_length_le (by omega)]; exact hz)⟩
        by_cases hn2 : n < 2000
        · have d2 : decide ((n : Int) < 2000) = true := decide_eq_true (by omega)
          go_wp2_with fail
          go_ret
          exact ⟨⟨true, rfl, fun _ => HE.out⟩, rfl⟩
        · have d2 : decide ((n : Int) < 2000) = false := decide_eq_false (by omega)
          go_wp2_with fail
          go_ret
          exact ⟨⟨false, rfl, by simp⟩, rfl⟩
      · have d3 : decide ((zs.length : Int) ≤ 60) = false := decide_eq_false (by omega)
        go_wp2_with fail
        go_ret
        exact ⟨⟨false, rfl, by simp⟩, rfl⟩
end Go.Proofs.YtoageahnddepcaaDoor
