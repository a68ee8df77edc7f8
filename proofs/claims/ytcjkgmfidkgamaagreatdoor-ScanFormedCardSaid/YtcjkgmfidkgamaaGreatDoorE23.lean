/-
  Texts of the proof, put together (what this law reaches): ScAR, ScAS, ScAV.
-/
import Derived.Test.YtcjkgmfidkgamaaGreatDoorE21
import Derived.Test.YtcjkgmfidkgamaaGreatDoorE22
import Derived.Test.YtcjkgmfidkgamaaGreatDoorE08
import Derived.Test.YtcjkgmfidkgamaaGreatDoorE06
import Derived.Test.YtcjkgmfidkgamaaGreatDoorE01
import Derived.Test.YtcjkgmfidkgamaaGreatDoorE02
import Derived.Deep.DeepCutAuto
import Derived.Test.YtcjkgmfidkgamaaGreatDoorE04
import Derived.Test.YtcjkgmfidkgamaaGreatDoorE05
import Derived.Deep.AppendLies
set_option linter.unusedVariables false
set_option linter.unusedSimpArgs false
namespace Go.Pub
theorem len2 {α : Type} : ∀ {l : List α}, l.length = 2 → ∃ a b, l = [a, b]
  | [a, b], _ => ⟨a, b, rfl⟩
theorem len3 {α : Type} : ∀ {l : List α}, l.length = 3 → ∃ a b c, l = [a, b, c]
  | [a, b, c], _ => ⟨a, b, c, rfl⟩
theorem toNat_f {b : Bool} (h : b.toNat = 0) : b = false := by cases b <;> simp_all
theorem toNat_t {b : Bool} (h : b.toNat = 1) : b = true := by cases b <;> simp_all
theorem ex_l1 : ∃ p0 p1, scanP ⟨#[97, 42]⟩ = [p0, p1] ∧ p0.inl.text = ⟨#[97]⟩ ∧ p1.kind = 1 ∧ p1.ch = ⟨#[42]⟩ ∧ p1.n = 1 ∧ p1.opn = false ∧ p1.clo = true ∧ p1.bg = 1 ∧ p1.nd = 2 := by
  obtain ⟨h1, h2, h3⟩ := ex_s1
  have hl := congrArg List.length h1
  rw [List.length_map] at hl
  obtain ⟨p0, p1, e⟩ := len2 hl
  rw [e] at h1 h2 h3
  simp [pcNum] at h1 h2 h3
  exact ⟨p0, p1, e, h2.1, h1.2.1, h3.2, h1.2.2.2.1, toNat_f (by simpa using h1.2.2.2.2.1), toNat_t (by simpa using h1.2.2.2.2.2.1), h1.2.2.2.2.2.2.1, h1.2.2.2.2.2.2.2⟩
theorem ex_l2 : ∃ p0 p1 p2, scanP ⟨#[91, 120, 93]⟩ = [p0, p1, p2] ∧ p0.kind = 2 ∧ p2.kind = 3 := by
  have h1 := ex_s2
  have hl := congrArg List.length h1
  rw [List.length_map] at hl
  obtain ⟨p0, p1, p2, e⟩ := len3 hl
  rw [e] at h1
  simp [pcNum] at h1
  exact ⟨p0, p1, p2, e, h1.1.1, h1.2.2.1⟩
theorem ex_l3 : ∃ p0 p1 p2, scanP ⟨#[97, 32, 10, 32, 98]⟩ = [p0, p1, p2] ∧ p1.inl.kind = 2 ∧ p1.bg = 1 ∧ p1.nd = 4 := by
  have h1 := ex_s3
  have hl := congrArg List.length h1
  rw [List.length_map] at hl
  obtain ⟨p0, p1, p2, e⟩ := len3 hl
  rw [e] at h1
  simp [pcNum] at h1
  exact ⟨p0, p1, p2, e, h1.2.1.2.1, h1.2.1.2.2.2.2.2.1, h1.2.1.2.2.2.2.2.2⟩
theorem ex_l4 : ∃ p, scanP ⟨#[126, 126, 126]⟩ = [p] ∧ p.kind = 0 ∧ p.inl.kind = 1 ∧ p.inl.text = ⟨#[126, 126, 126]⟩ ∧ p.bg = 0 ∧ p.nd = 3 := by
  obtain ⟨h1, h2⟩ := ex_s4
  have hl := congrArg List.length h1
  rw [List.length_map] at hl
  obtain ⟨p, e⟩ := List.length_eq_one_iff.1 hl
  rw [e] at h1 h2
  simp [pcNum] at h1 h2
  exact ⟨p, e, h1.1, h1.2.1, h2, h1.2.2.2.2.2.1, h1.2.2.2.2.2.2⟩
theorem ex_l5 : citesI ⟨#[115, 101, 101, 32, 64, 110, 103, 44, 32, 112, 46, 32, 51, 59, 32, 45, 64, 108, 105]⟩ = some [⟨⟨#[110, 103]⟩, ⟨#[115, 101, 101]⟩, ⟨#[44, 32, 112, 46, 32, 51]⟩, false⟩, ⟨⟨#[108, 105]⟩, ⟨#[]⟩, ⟨#[]⟩, true⟩] := by
  obtain ⟨h1, h2⟩ := ex_c1
  cases hc : citesI ⟨#[115, 101, 101, 32, 64, 110, 103, 44, 32, 112, 46, 32, 51, 59, 32, 45, 64, 108, 105]⟩ with
  | none => rw [hc] at h1; simp at h1
  | some cs =>
    rw [hc] at h1 h2
    simp only [Option.map_some, Option.some.injEq] at h1 h2
    have hl := congrArg List.length h1
    rw [List.length_map] at hl
    obtain ⟨⟨k0, a0, b0, f0⟩, ⟨k1, a1, b1, f1⟩, rfl⟩ := len2 hl
    simp [citBare] at h1 h2
    obtain ⟨⟨rfl, rfl, rfl⟩, rfl, rfl, rfl⟩ := h2
    obtain rfl := toNat_f (by simpa using h1.1)
    obtain rfl := toNat_t (by simpa using h1.2)
    rfl
theorem ex_l6 : citesI ⟨#[97, 64, 98]⟩ = none := Option.isNone_iff_eq_none.1 ex_c2
end Go.Pub
namespace Go.Proofs.YtcjkgmfidkgamaaGreatDoor
open Go.RowKit Go.Pub
set_option maxRecDepth 100000 in
set_option maxHeartbeats 4000000 in
theorem l9_awake (m : Int) (w : World) (hm : w.cell? ⟨0, 0, none⟩ = some (.int .i64 m)) : Calls Tryz.prog 9 #[] w fun e w' => e = .returned (.bool true) ∧ Below w.heap.size w w' := by
  have h0 := World.block_lt_of_cell? _ _ hm
  have HS : Hid (∀ (s : ByteArray) (W : World), s.size ≤ 1000000 → Below w.heap.size w W → Calls Tryz.prog 11 #[.string s] W (ScanPost s W)) := Lib.hid fun s W hs hb => s_Scan s m W hs ((hb.cell (p := ⟨0, 0, none⟩) h0).trans hm)
  have HC1 := Lib.hid fun W => s_Cites ⟨#[115, 101, 101, 32, 64, 110, 103, 44, 32, 112, 46, 32, 51, 59, 32, 45, 64, 108, 105]⟩ W (by decide)
  have HC2 := Lib.hid fun W => s_Cites ⟨#[97, 64, 98]⟩ W (by decide)
  rw [ex_l5] at HC1
  rw [ex_l6] at HC2
  have HF1 := Lib.hid fun W => s_flank ⟨#[95]⟩ 97 98 W
  have HF2 := Lib.hid fun W => s_flank ⟨#[42]⟩ 97 98 W
  rw [ex_f1] at HF1
  rw [ex_f2] at HF2
  unfold CitesPost at HC1 HC2
  obtain ⟨p0, p1, el1, t0, k1, ch1, n1, o1, l1, bg1, nd1⟩ := ex_l1
  obtain ⟨q0, q1, q2, el2, kq0, kq2⟩ := ex_l2
  obtain ⟨r0, r1, r2, el3, ik1, bgr, ndr⟩ := ex_l3
  obtain ⟨x, el4, kx, ix, tx, bx, nx⟩ := ex_l4
  have HB0 : Hid (Below w.heap.size w w) := Lib.hid (Below.refl _ _)
  clear hm h0
  go_enter Tryz.func9, Tryz.ntmps9
  go_wp2_with fail
  ((with_reducible refine (HS.out _ _ (by decide) HB0.out).mono ?_))
  rintro e w1 ⟨b1, v1, rfl, h1⟩
  rw [el1] at h1
  obtain ⟨A1, c1, rfl⟩ := h1.shape
  have H1 := Lib.hid h1
  have HB1 := Lib.hid b1
  clear h1 b1
  go_wp2_with fail
  ((with_reducible refine (HS.out _ _ (by decide) HB1.out).mono ?_))
  rintro e w2 ⟨b2, v2, rfl, h2⟩
  rw [el2] at h2
  obtain ⟨A2, c2, rfl⟩ := h2.shape
  have H2 := Lib.hid h2
  have HB2 := Lib.hid (HB1.out.trans (b2.mono HB1.out.size))
  replace H1 := Lib.hid (H1.out.below b2)
  clear h2 b2 HB1
  go_wp2_with fail
  ((with_reducible refine (HS.out _ _ (by decide) HB2.out).mono ?_))
  rintro e w3 ⟨b3, v3, rfl, h3⟩
  rw [el3] at h3
  obtain ⟨A3, c3, rfl⟩ := h3.shape
  have H3 := Lib.hid h3
  have HB3 := Lib.hid (HB2.out.trans (b3.mono HB2.out.size))
  replace H1 := Lib.hid (H1.out.below b3)
  replace H2 := Lib.hid (H2.out.below b3)
  clear h3 b3 HB2
  go_wp2_with fail
  ((with_reducible refine (HC1.out _).mono ?_))
  rintro e w4 ⟨b4, A4, c4, rfl, h4⟩
  have H4 := Lib.hid h4
  have HB4 := Lib.hid (HB3.out.trans (b4.mono HB3.out.size))
  replace H1 := Lib.hid (H1.out.below b4)
  replace H2 := Lib.hid (H2.out.below b4)
  replace H3 := Lib.hid (H3.out.below b4)
  clear h4 b4 HB3
  go_wp2_with fail
  ((with_reducible refine (HC2.out _).mono ?_))
  rintro e w5 ⟨b5, rfl⟩
  have HB5 := Lib.hid (HB4.out.trans (b5.mono HB4.out.size))
  replace H1 := Lib.hid (H1.out.below b5)
  replace H2 := Lib.hid (H2.out.below b5)
  replace H3 := Lib.hid (H3.out.below b5)
  have H5 := Lib.hid (H4.out.keep (S' := fun _ => True) (fun g hg => b5.block g hg.2) (fun _ _ => trivial))
  clear b5 HB4 H4
  obtain ⟨g1, rfl, -, -, -, y1⟩ := H1.out.look (by simp)
  obtain ⟨g2, rfl, -, -, -, y2⟩ := H2.out.look (by simp)
  obtain ⟨g3, rfl, -, -, -, y3⟩ := H3.out.look (by simp)
  have a0 := y1 0 (by simp)
  have a1 := y1 1 (by simp)
  have d0 := y2 0 (by simp)
  have d2 := y2 2 (by simp)
  have f1 := y3 1 (by simp)
  obtain ⟨g5, o5, rfl, -, y5⟩ := H5.out.row (by decide) (by decide)
  have s0 : w5.cell? ⟨g5, o5, none⟩ = some (.string ⟨#[110, 103]⟩) := y5 0 _ rfl
  have s1 := y5 1 _ rfl
  have s2 := y5 2 _ rfl
  have s3 := y5 3 _ rfl
  have s4 := y5 4 _ rfl
  have s5 := y5 5 _ rfl
  have s6 := y5 6 _ rfl
  have s7 := y5 7 _ rfl
  have a0t := a0.text
  have a1k := a1.kind
  have a1c := a1.ch
  have a1n := a1.num
  have a1o := a1.opn
  have a1l := a1.clo
  have a1b := a1.bg
  have a1d := a1.nd
  have d0k := d0.kind
  have d2k := d2.kind
  have f1i := f1.ik
  have f1b := f1.bg
  have f1d := f1.nd
  simp only [List.getElem_cons_zero, List.getElem_cons_succ, Nat.zero_mul, Nat.one_mul, Nat.zero_add, t0, k1, ch1, n1, o1, l1, bg1, nd1, kq0, kq2, ik1, bgr, ndr] at a0t a1k a1c a1n a1o a1l a1b a1d d0k d2k f1i f1b f1d
  clear y1 y2 y3 y5 a0 a1 d0 d2 f1 H1 H2 H3 H5 t0 k1 ch1 n1 o1 l1 bg1 nd1 kq0 kq2 ik1 bgr ndr el1 el2 el3 HC1 HC2
  go_wp2_with fail
  ((with_reducible refine (HF1.out _).mono ?_))
  rintro e w6 ⟨rfl, rfl⟩
  go_wp2_with fail
  ((with_reducible refine (HF2.out _).mono ?_))
  rintro e w6 ⟨rfl, rfl⟩
  go_wp2_with fail
  ((with_reducible refine (HS.out _ _ (by decide) HB5.out).mono ?_))
  rintro e w6 ⟨b6, v6, rfl, h6⟩
  rw [el4] at h6
  have H6 := Lib.hid h6
  have HB6 := Lib.hid (HB5.out.trans (b6.mono HB5.out.size))
  have HO : Hid (Calls Tryz.prog 19 #[v6, .int .i64 1, .string ⟨#[126, 126, 126]⟩, .int .i64 3] w6 fun e w' => e = .returned (.bool true) ∧ w6 = w') := Lib.hid (s_one 1 3 ⟨#[126, 126, 126]⟩ h6 kx ix tx bx nx)
  clear h6 b6
  go_wp2_with fail
  ((with_reducible refine (HO.out).mono ?_))
  rintro e w7 ⟨rfl, rfl⟩
  go_wp2_with fail
  go_ret
  exact ⟨rfl, HB6.out⟩

end Go.Proofs.YtcjkgmfidkgamaaGreatDoor
namespace Go.Pub
end Go.Pub
namespace Go.Proofs.YtcjkgmfidkgamaaGreatDoor
open Go.RowKit Go.Pub
theorem r4_small (s : ByteArray) (w : World) : Calls Tryz.prog 8 #[.string s] w fun e w' => e = .returned (.bool (decide (s.size ≤ 800))) ∧ w = w' := by
  go_enter Tryz.func8, Tryz.ntmps8
  go_wp2_with fail
  go_ret
  exact ⟨ret_bool (by rw [Bool.eq_iff_iff]; simp; omega), rfl⟩
end Go.Proofs.YtcjkgmfidkgamaaGreatDoor
namespace Go.Pub
end Go.Pub
namespace Go.Proofs.YtcjkgmfidkgamaaGreatDoor
open Go.RowKit Go.Pub
theorem citCs_at : ∀ (cs : List CitL) (i j : Nat) (hi : i < cs.length), j < 4 → (citCs cs)[i * 4 + j]? = (citC cs[i])[j]?
  | c :: cs, 0, j, _, hj => by
    unfold citCs
    rw [List.flatMap_cons, List.getElem?_append_left (by rw [show (citC c).length = 4 from rfl]; omega)]
    simp
  | c :: cs, i + 1, j, hi, hj => by
    have := citCs_at cs i j (by simpa using hi) hj
    unfold citCs at this ⊢
    rw [List.flatMap_cons, List.getElem?_append_right (by rw [show (citC c).length = 4 from rfl]; omega), show (citC c).length = 4 from rfl, show (i + 1) * 4 + j - 4 = i * 4 + j by omega, this]
    rfl
theorem cits_look {w : World} {S : Nat → Prop} {A : Option Addr} {cs : List CitL} (h : ReadsS w S 4 A cs.length (citCs cs)) (hn : 0 < cs.length) : ∃ g o, A = some ⟨g, o, none⟩ ∧ ∀ i (hi : i < cs.length), w.cell? ⟨g, o + i * 4, none⟩ = some (.string cs[i].key) ∧ w.cell? ⟨g, o + i * 4 + 1, none⟩ = some (.string cs[i].pre) ∧ w.cell? ⟨g, o + i * 4 + 2, none⟩ = some (.string cs[i].suf) ∧ w.cell? ⟨g, o + i * 4 + 3, none⟩ = some (.bool cs[i].bare) := by
  obtain ⟨g, o, e, _, hc⟩ := h.row hn (by decide)
  refine ⟨g, o, e, fun i hi => ⟨hc (i * 4) _ ?_, ?_, ?_, ?_⟩⟩
  · exact (citCs_at cs i 0 hi (by decide))
  · have := hc (i * 4 + 1) _ (citCs_at cs i 1 hi (by decide)); rwa [← Nat.add_assoc] at this
  · have := hc (i * 4 + 2) _ (citCs_at cs i 2 hi (by decide)); rwa [← Nat.add_assoc] at this
  · have := hc (i * 4 + 3) _ (citCs_at cs i 3 hi (by decide)); rwa [← Nat.add_assoc] at this
end Go.Proofs.YtcjkgmfidkgamaaGreatDoor
