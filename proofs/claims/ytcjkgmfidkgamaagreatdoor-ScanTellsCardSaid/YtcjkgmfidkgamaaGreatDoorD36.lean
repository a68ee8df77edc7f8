/-
  Texts of the proof, put together (what this law reaches): NsZA, ScAP, ScAQ.
-/
import Derived.Test.YtcjkgmfidkgamaaGreatDoorD06
import Derived.BigQuiet
import Derived.Test.YtcjkgmfidkgamaaGreatDoorD05
import Derived.Test.YtcjkgmfidkgamaaGreatDoorD33
set_option linter.unusedVariables false
set_option linter.unusedSimpArgs false
namespace Go.Proofs.YtcjkgmfidkgamaaGreatDoor
open Go.RowKit Go.Pub
theorem r4_texts (zs : List ByteArray) (A A' : Option Addr) (c c' : Nat) (S S' : Nat → Prop) (w : World) (h : ReadsS w S 1 A zs.length (strs zs)) (h' : ReadsS w S' 1 A' zs.length (strs zs)) (hS : ∀ g, S g → g < w.heap.size) (hS' : ∀ g, S' g → g < w.heap.size) (hl : zs.length ≤ 32) :
    Calls Tryz.prog 42 #[.slice A zs.length c, .slice A' zs.length c'] w fun e w' => e = .returned (.bool true) ∧ Below w.heap.size w w' := by
  have HR := Lib.hid h
  have HR' := Lib.hid h'
  have HS := Lib.hid hS
  have HS' := Lib.hid hS'
  clear h h' hS hS'
  go_enter Tryz.func42, Tryz.ntmps42
  go_wp2_with fail
  go_loopw [5] (fun v5 wr => ∃ k : Nat, v5 = .int .i64 k ∧ k ≤ zs.length ∧ Hid (Below w.heap.size w wr)) (fun v5 _ => zs.length - (intOf v5).toNat)
  case atStart => exact ⟨0, rfl, Nat.zero_le _, Lib.hid (Below.refl _ _)⟩
  case round =>
    obtain ⟨k, rfl, hk, HB⟩ := hrel
    by_cases hlt : k < zs.length
    · obtain ⟨g, o, rfl, hg, hc⟩ := HR.out.row (by omega) (by decide)
      obtain ⟨g', o', rfl, hg', hc'⟩ := HR'.out.row (by omega) (by decide)
      have f1 := (HB.out.cell (p := ⟨g, o + k, none⟩) (HS.out g hg)).trans (hc k _ (strs_at zs k hlt))
      have f2 := (HB.out.cell (p := ⟨g', o' + k, none⟩) (HS'.out g' hg')).trans (hc' k _ (strs_at zs k hlt))
      clear hc hc'
      generalize zs[k] = z at *
      have q1 : (z.toList == z.toList) = true := beq_self_eq_true _
      go_wp2_with fail
      go_quiet (fail)
      go_wp2_with fail
      go_roundw
      case rel => exact ⟨k + 1, by go_num, by omega, Lib.hid (below_drewN HB.out _)⟩
      case measure => simp [intOf]; omega
    · go_wp2_with fail
      go_ret
      exact ⟨rfl, HB.out⟩
theorem r4_pairs (ps : List (ByteArray × ByteArray)) (A A' : Option Addr) (c c' : Nat) (S S' : Nat → Prop) (w : World) (h : ReadsS w S 2 A ps.length (prs ps)) (h' : ReadsS w S' 2 A' ps.length (prs ps)) (hS : ∀ g, S g → g < w.heap.size) (hS' : ∀ g, S' g → g < w.heap.size) (hl : ps.length ≤ 32) :
    Calls Tryz.prog 70 #[.slice A ps.length c, .slice A' ps.length c'] w fun e w' => e = .returned (.bool true) ∧ Below w.heap.size w w' := by
  have HR := Lib.hid h
  have HR' := Lib.hid h'
  have HS := Lib.hid hS
  have HS' := Lib.hid hS'
  clear h h' hS hS'
  go_enter Tryz.func70, Tryz.ntmps70
  go_wp2_with fail
  go_loopw [5] (fun v5 wr => ∃ k : Nat, v5 = .int .i64 k ∧ k ≤ ps.length ∧ Hid (Below w.heap.size w wr)) (fun v5 _ => ps.length - (intOf v5).toNat)
  case atStart => exact ⟨0, rfl, Nat.zero_le _, Lib.hid (Below.refl _ _)⟩
  case round =>
    obtain ⟨k, rfl, hk, HB⟩ := hrel
    by_cases hlt : k < ps.length
    · obtain ⟨g, o, rfl, hg, hc⟩ := HR.out.row (by omega) (by decide)
      obtain ⟨g', o', rfl, hg', hc'⟩ := HR'.out.row (by omega) (by decide)
      have f1 := (HB.out.cell (p := ⟨g, o + k * 2, none⟩) (HS.out g hg)).trans (hc (k * 2) _ (prs_at ps k hlt).1)
      have f2 := (HB.out.cell (p := ⟨g', o' + k * 2, none⟩) (HS'.out g' hg')).trans (hc' (k * 2) _ (prs_at ps k hlt).1)
      have f3 : wr.cell? ⟨g, o + k * 2 + 1, none⟩ = some (.string ps[k].2) := (HB.out.cell (p := ⟨g, o + k * 2 + 1, none⟩) (HS.out g hg)).trans (by rw [Nat.add_assoc]; exact hc (k * 2 + 1) _ (prs_at ps k hlt).2)
      have f4 : wr.cell? ⟨g', o' + k * 2 + 1, none⟩ = some (.string ps[k].2) := (HB.out.cell (p := ⟨g', o' + k * 2 + 1, none⟩) (HS'.out g' hg')).trans (by rw [Nat.add_assoc]; exact hc' (k * 2 + 1) _ (prs_at ps k hlt).2)
      clear hc hc'
      generalize ps[k].1 = y at *
      generalize ps[k].2 = z at *
      have q1 : (z.toList == z.toList) = true := beq_self_eq_true _
      have q2 : (y.toList == y.toList) = true := beq_self_eq_true _
      go_wp2_with fail
      go_quiet (fail)
      go_wp2_with fail
      go_roundw
      case rel => exact ⟨k + 1, by go_num, by omega, Lib.hid (below_drewN HB.out _)⟩
      case measure => simp [intOf]; omega
    · go_wp2_with fail
      go_ret
      exact ⟨rfl, HB.out⟩
end Go.Proofs.YtcjkgmfidkgamaaGreatDoor
namespace Go.Pub
def pcNum (p : PcL) : List Nat := [p.kind, p.inl.kind, p.n, p.opn.toNat, p.clo.toNat, p.bg, p.nd]
def citBare (c : CitL) : List Nat := [c.bare.toNat]
set_option maxRecDepth 100000 in
theorem ex_s1 : (scanP ⟨#[97, 42]⟩).map pcNum = [[0, 1, 0, 0, 0, 0, 1], [1, 0, 1, 0, 1, 1, 2]] ∧ (scanP ⟨#[97, 42]⟩).map (fun p => p.inl.text) = [⟨#[97]⟩, ⟨#[]⟩] ∧ (scanP ⟨#[97, 42]⟩).map (fun p => p.ch) = [⟨#[]⟩, ⟨#[42]⟩] := by decide +kernel

set_option maxRecDepth 100000 in
theorem ex_s2 : (scanP ⟨#[91, 120, 93]⟩).map pcNum = [[2, 0, 0, 0, 0, 0, 1], [0, 1, 0, 0, 0, 1, 2], [3, 0, 0, 0, 0, 2, 3]] := by decide +kernel

set_option maxRecDepth 100000 in
theorem ex_s3 : (scanP ⟨#[97, 32, 10, 32, 98]⟩).map pcNum = [[0, 1, 0, 0, 0, 0, 1], [0, 2, 0, 0, 0, 1, 4], [0, 1, 0, 0, 0, 4, 5]] := by decide +kernel

set_option maxRecDepth 100000 in
theorem ex_s4 : (scanP ⟨#[126, 126, 126]⟩).map pcNum = [[0, 1, 0, 0, 0, 0, 3]] ∧ (scanP ⟨#[126, 126, 126]⟩).map (fun p => p.inl.text) = [⟨#[126, 126, 126]⟩] := by decide +kernel

set_option maxRecDepth 100000 in
theorem ex_c1 : (citesI ⟨#[115, 101, 101, 32, 64, 110, 103, 44, 32, 112, 46, 32, 51, 59, 32, 45, 64, 108, 105]⟩).map (List.map citBare) = some [[0], [1]] ∧ (citesI ⟨#[115, 101, 101, 32, 64, 110, 103, 44, 32, 112, 46, 32, 51, 59, 32, 45, 64, 108, 105]⟩).map (List.map fun c => [c.key, c.pre, c.suf]) = some [[⟨#[110, 103]⟩, ⟨#[115, 101, 101]⟩, ⟨#[44, 32, 112, 46, 32, 51]⟩], [⟨#[108, 105]⟩, ⟨#[]⟩, ⟨#[]⟩]] := by decide +kernel

set_option maxRecDepth 100000 in
theorem ex_c2 : (citesI ⟨#[97, 64, 98]⟩).isNone = true := by decide +kernel

set_option maxRecDepth 100000 in
theorem ex_f1 : flankL ⟨#[95]⟩ 97 98 = (false, false) := by decide +kernel

set_option maxRecDepth 100000 in
theorem ex_f2 : flankL ⟨#[42]⟩ 97 98 = (true, true) := by decide +kernel

end Go.Pub
namespace Go.Proofs.YtcjkgmfidkgamaaGreatDoor
open Go.RowKit Go.Pub
structure PcAt (w : World) (g o : Nat) (p : PcL) : Prop where
  kind : w.cell? ⟨g, o, none⟩ = some (.int .i64 p.kind)
  ik : w.cell? ⟨g, o + 1, none⟩ = some (.int .i64 p.inl.kind)
  text : w.cell? ⟨g, o + 2, none⟩ = some (.string p.inl.text)
  ch : w.cell? ⟨g, o + 11, none⟩ = some (.string p.ch)
  num : w.cell? ⟨g, o + 12, none⟩ = some (.int .i64 p.n)
  opn : w.cell? ⟨g, o + 13, none⟩ = some (.bool p.opn)
  clo : w.cell? ⟨g, o + 14, none⟩ = some (.bool p.clo)
  img : w.cell? ⟨g, o + 15, none⟩ = some (.bool p.img)
  bg : w.cell? ⟨g, o + 16, none⟩ = some (.int .i64 p.bg)
  nd : w.cell? ⟨g, o + 17, none⟩ = some (.int .i64 p.nd)
theorem PcOwn.shape {w : World} {base : Nat} {v : Value} {ps : List PcL} (h : PcOwn w base v ps) : ∃ A c, v = .slice A ps.length c := by
  obtain ⟨S, vs, hS, hk, ho⟩ := h
  exact own_slice ho
/-- The pieces at their places. -/
theorem PcOwn.look {w : World} {base : Nat} {A : Option Addr} {n c : Nat} {ps : List PcL} (h : PcOwn w base (.slice A n c) ps) (hn : 0 < ps.length) : ∃ g, A = some ⟨g, 0, none⟩ ∧ n = ps.length ∧ base ≤ g ∧ g < w.heap.size ∧ ∀ k (hk : k < ps.length), PcAt w g (k * 18) ps[k] := by
  obtain ⟨S, vs, hS, hr, ho⟩ := h
  obtain ⟨g, cap, e, h1, h2⟩ := ho.form hn
  injection e with e1 e2 e3
  subst e1 e2 e3
  refine ⟨g, rfl, rfl, h1, h2, fun k hk => ?_⟩
  obtain ⟨v, ⟨A1, c1, A2, c2, rfl, _⟩, hat⟩ := hr.at_ k hk
  have cell : ∀ i, i < 18 → w.cell? ⟨g, k * 18 + i, none⟩ = (pcC ps[k] A1 c1 A2 c2)[i]? := fun i hi => (ho.cellAt _ (by omega)).trans (hat i hi)
  exact ⟨cell 0 (by omega), cell 1 (by omega), cell 2 (by omega), cell 11 (by omega), cell 12 (by omega), cell 13 (by omega), cell 14 (by omega), cell 15 (by omega), cell 16 (by omega), cell 17 (by omega)⟩
set_option maxRecDepth 100000 in
set_option maxHeartbeats 1000000 in
/-- One piece, with that text, from the start to n. -/
theorem s_one {w : World} {base : Nat} {v : Value} {p : PcL} (k n : Nat) (t : ByteArray) (h : PcOwn w base v [p]) (h1 : p.kind = 0) (h2 : p.inl.kind = k) (h3 : p.inl.text = t) (h4 : p.bg = 0) (h5 : p.nd = n) :
    Calls Tryz.prog 19 #[v, .int .i64 k, .string t, .int .i64 n] w fun e w' => e = .returned (.bool true) ∧ w = w' := by
  obtain ⟨A, c, rfl⟩ := h.shape
  obtain ⟨g, rfl, hl, _, _, hat⟩ := h.look (by simp)
  obtain ⟨c0, c1, c2, _, _, _, _, _, c16, c17⟩ := hat 0 (by simp)
  simp only [List.getElem_cons_zero, h1, h2, h3, h4, h5, Nat.zero_mul, Nat.zero_add] at c0 c1 c2 c16 c17
  have e1 : ([p] : List PcL).length = 1 := rfl
  rw [e1]
  clear h hat hl h1 h2 h3 h4 h5
  have z0 : (((0 : Nat) : Int) == 0) = true := rfl
  have zk : ((k : Int) == (k : Int)) = true := beq_self_eq_true _
  have zt : (t.toList == t.toList) = true := beq_self_eq_true _
  go_enter Tryz.func19, Tryz.ntmps19
  go_wp2_with fail
  go_ret
  exact ⟨rfl, rfl⟩

end Go.Proofs.YtcjkgmfidkgamaaGreatDoor
