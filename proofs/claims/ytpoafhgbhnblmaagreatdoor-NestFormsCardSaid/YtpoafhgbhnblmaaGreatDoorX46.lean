/-
  Texts of the proof, put together (what this law reaches): NfT, NfKB, NfKA, NfL.
-/
import Derived.Test.YtpoafhgbhnblmaaGreatDoorX31
import Derived.Shelf.Strings.SlTrimAscii
import Derived.Test.YtpoafhgbhnblmaaGreatDoorX45
import Derived.Test.YtpoafhgbhnblmaaGreatDoorX35
import Derived.Test.YtpoafhgbhnblmaaGreatDoorX38
import Derived.Test.YtpoafhgbhnblmaaGreatDoorX34
set_option linter.unusedVariables false
set_option linter.unusedSimpArgs false
namespace Go.Proofs.YtpoafhgbhnblmaaGreatDoor
open Go.RowKit Go.Pub
theorem trim_tab (r : List UInt8) (h : ∀ b ∈ r, tabC b) : Lib.trimS r [45, 108, 99, 114] = [] := by
  have key : ∀ l : List UInt8, (∀ b ∈ l, tabC b) → l.dropWhile (([45, 108, 99, 114] : List UInt8).contains ·) = [] := by
    intro l
    induction l with
    | nil => intro _; rfl
    | cons b l ih =>
      intro hl
      have hb : ([45, 108, 99, 114] : List UInt8).contains b = true := by
        rcases hl b List.mem_cons_self with rfl | rfl | rfl | rfl <;> rfl
      rw [List.dropWhile_cons_of_pos hb]
      exact ih fun c hc => hl c (List.mem_cons_of_mem _ hc)
  unfold Lib.trimS Lib.trimRightS Lib.trimLeftS
  rw [key r.reverse fun b hb => h b (List.mem_reverse.1 hb)]; rfl
theorem f_trimTab (r : List UInt8) (h : ∀ b ∈ r, tabC b) (hl : r.length ≤ 32) (W : World) : Calls Tryz.prog 94 #[.string (mk r), .string ⟨#[45, 108, 99, 114]⟩] W fun e w' => e = .returned (.string ⟨#[]⟩) ∧ Below W.heap.size W w' := by
  refine (Any.strings_Trim_laid Tryz.lays160 (by kernel_rfl) (mk r) ⟨#[45, 108, 99, 114]⟩ W (by rw [mk_size]; omega) (by decide) (ascii_of_all (by decide))).mono ?_
  rintro e w' ⟨rfl, b⟩
  refine ⟨?_, b⟩
  have e1 : Lib.trimS (mk r).data.toList (⟨#[45, 108, 99, 114]⟩ : ByteArray).data.toList = [] := trim_tab r h
  rw [e1]
set_option maxRecDepth 100000 in
set_option maxHeartbeats 4000000 in
theorem f_table (g off : Nat) (r : List UInt8) (ks : List BkT) (t d ti : ByteArray) (a : AttrL) (A1 : Option Addr) (c1 : Nat) (A2 : Option Addr) (c2 : Nat) (AL : Option Addr) (nL cL : Nat) (A4 : Option Addr) (c4 : Nat) (S : Nat → Prop) (w : World) (h : CellB w g off 10 0 (mk r) t d ti a A1 c1 A2 c2 AL nL cL A4 ks.length c4)
    (hk : KidsV w S (.slice A4 ks.length c4) ks) (hS : ∀ g, S g → g < w.heap.size) (h1 : r ≠ []) (h2 : r.length ≤ 32) (h3 : ∀ b ∈ r, tabC b) (h4 : ks ≠ []) (h5 : ∀ b ∈ ks, (ksT b).length = r.length) (h6 : ks.length ≤ 100) :
    Calls Tryz.prog 49 #[.pointer (some ⟨g, off, none⟩)] w fun e w' => e = .returned (.int .i64 0) ∧ Below w.heap.size w w' := by
  have HT := Lib.hid (f_trimTab r h3 h2)
  have H := Lib.hid h
  have hkl : 0 < ks.length := List.length_pos_iff.2 h4
  have hz : ((mk r).size) = r.length := mk_size r
  have y1 : ¬ (mk r).toList = [] := fun e => h1 (by have := (toList_iff _).1 e; have := congrArg bytesL this; rw [bytesL_mk'] at this; exact this)
  have y2 : (mk r).toList.isEmpty = false := by rw [List.isEmpty_eq_false_iff]; exact y1
  have d1 : decide (32 < ((mk r).size : Int)) = false := decide_eq_false (by omega)
  have d2 : ((ks.length : Int) == 0) = false := by rw [beq_eq_false_iff_ne]; omega
  obtain ⟨g4, o4, c', e4, hg4, hc4⟩ := hk.get hkl
  injection e4 with e4 _ _
  subst e4
  have HCk : Hid (∀ W, Below w.heap.size w W → ∀ j, j < ks.length → ∃ A c, W.cell? ⟨g4, o4 + j * 11 + 10, none⟩ = some (.slice A (mk r).size c)) := Lib.hid fun W hW j hj => by
    obtain ⟨vb, hv, hcv⟩ := hc4 j hj
    have hl := h5 ks[j] (List.getElem_mem hj)
    have hcj := hcv 10 (by omega)
    generalize ks[j] = b at *
    cases hv with
    | mk kind level info text dest title att line kids A1 A2 A4 c1 c2 c4 vL vs ha hl' hr hc =>
      refine ⟨A4, c4, ?_⟩
      have e : w.cell? ⟨g4, o4 + j * 11 + 10, none⟩ = some (.slice A4 kids.length c4) := hcj
      rw [hz, ← hl]
      exact (hW.cell (p := ⟨g4, o4 + j * 11 + 10, none⟩) (hS g4 hg4)).trans e
  have HC : Hid (∀ W, Below w.heap.size w W → CellB W g off 10 0 (mk r) t d ti a A1 c1 A2 c2 (AL) nL cL (some ⟨g4, o4, none⟩) ks.length c4) := Lib.hid fun W hW => h.below hW
  clear h hk hc4 h1 h2 h3 h4 h5 hz
  generalize mk r = R at *
  obtain ⟨q0, q1, q2, q3, q4, q5, q6, q7, q8, q9, q10⟩ := HC.out w (Below.refl _ _)
  go_enter Tryz.func49, Tryz.ntmps49
  go_wp2_with fail
  ((with_reducible refine (HT.out _).mono ?_))
  rintro e w1 ⟨rfl, b1⟩
  obtain ⟨p0, p1, p2, p3, p4, p5, p6, p7, p8, p9, p10⟩ := HC.out w1 b1
  clear q0 q1 q2 q3 q4 q5 q6 q7 q8 q9 q10
  go_wp2_with fail
  go_loopw [34] (fun v wr => ∃ j : Nat, v = .int .i64 j ∧ j ≤ ks.length ∧ Below w.heap.size w wr) (fun v _ => ks.length - (intOf v).toNat)
  case atStart => exact ⟨0, rfl, Nat.zero_le _, b1⟩
  case round =>
    obtain ⟨j, rfl, hj, hbw⟩ := hrel
    by_cases hlt : j < ks.length
    · obtain ⟨Aj, cj, hcj⟩ := HCk.out wr hbw j hlt
      obtain ⟨q0, q1, q2, q3, q4, q5, q6, q7, q8, q9, q10⟩ := HC.out wr hbw
      have z1 : ((R.size : Int) != (R.size : Int)) = false := by rw [bne_eq_false_iff_eq]
      have HB := Lib.hid hbw
      clear p0 p1 p2 p3 p4 p5 p6 p7 p8 p9 p10
      go_wp2_with fail
      go_region
      all_goals
        go_wp2_with fail
        go_roundw
        case rel => exact ⟨j + 1, by go_num, by omega, below_drewN HB.out 1⟩
        case measure => simp [intOf]; omega
    · go_wp2_with fail
      go_ret
      exact ⟨rfl, hbw⟩

set_option maxRecDepth 100000 in
set_option maxHeartbeats 4000000 in
theorem f_head (g off n : Nat) (i t d ti : ByteArray) (a : AttrL) (l : ByteArray) (A1 : Option Addr) (c1 : Nat) (A2 : Option Addr) (c2 : Nat) (AL : Option Addr) (nL cL : Nat) (A4 : Option Addr) (n4 c4 : Nat) (S : Nat → Prop) (w : World) (h : CellB w g off 2 n i t d ti a A1 c1 A2 c2 AL nL cL A4 n4 c4)
    (hA : ReadA w w.heap.size a A1 c1 A2 c2) (ha : checkE a = 0) (hl : SrcV w S (.slice AL nL cL) l) (hS : ∀ g, S g → g < w.heap.size) (hx : l = ⟨#[]⟩ ∨ l = xT) (h1 : 1 ≤ n) (h6 : n ≤ 6) :
    Calls Tryz.prog 44 #[.pointer (some ⟨g, off, none⟩)] w fun e w' => e = .returned (.int .i64 0) ∧ Below w.heap.size w w' := by
  have HA : Hid (Calls Tryz.prog 52 #[.agg #[.string a.id, .slice A1 a.cl.length c1, .slice A2 a.pr.length c2]] w fun e w' => e = .returned (.int .i64 0) ∧ Below w.heap.size w w') := Lib.hid (by
    have := check_any w a A1 c1 A2 c2 w.heap.size hA
    rw [ha] at this
    exact this)
  have HU : Hid (∀ W, Below w.heap.size w W → Calls Tryz.prog 50 #[.slice AL nL cL] W fun e w' => e = .returned (.int .i64 0) ∧ Below W.heap.size W w') := Lib.hid fun W hW => f_unbroken AL nL cL l S W (fun g hg => Nat.lt_of_lt_of_le (hS g hg) hW.size) (hl.keep (fun g hg => hW.block g (hS g hg)) fun _ h => h) hx
  have H := Lib.hid h
  have d1 : decide ((n : Int) < 1) = false := decide_eq_false (by omega)
  have d2 : decide (6 < (n : Int)) = false := decide_eq_false (by omega)
  have d3 : decide (n < 1) = false := decide_eq_false (by omega)
  have d4 : decide (6 < n) = false := decide_eq_false (by omega)
  have d5 : decide (n = 0) = false := decide_eq_false (by omega)
  obtain ⟨q0, q1, q2, q3, q4, q5, q6, q7, q8, q9, q10⟩ := h
  clear hA ha hl hS hx
  go_enter Tryz.func44, Tryz.ntmps44
  go_wp2_with fail
  ((with_reducible refine (HA.out).mono ?_))
  rintro e w1 ⟨rfl, b1⟩
  obtain ⟨p0, p1, p2, p3, p4, p5, p6, p7, p8, p9, p10⟩ := H.out.below b1
  have HB := Lib.hid b1
  clear q0 q1 q2 q3 q4 q5 q6 q7 q8 q9 q10
  go_wp2_with fail
  ((with_reducible refine (HU.out _ HB.out).mono ?_))
  rintro e w2 ⟨rfl, b2⟩
  go_wp2_with fail
  go_ret
  exact ⟨rfl, HB.out.trans (b2.mono HB.out.size)⟩

end Go.Proofs.YtpoafhgbhnblmaaGreatDoor
namespace Go.Proofs.YtpoafhgbhnblmaaGreatDoor
open Go.RowKit Go.Pub
set_option maxRecDepth 100000 in
set_option maxHeartbeats 4000000 in
theorem f_ck7 (g off : Nat) (n n4 : Nat) (A1 : Option Addr) (c1 : Nat) (A2 : Option Addr) (c2 : Nat) (AL : Option Addr) (cL : Nat) (A4 : Option Addr) (c4 : Nat) (w : World) (h : CellB w g off 7 n ⟨#[]⟩ ⟨#[]⟩ ⟨#[]⟩ ⟨#[]⟩ emptyA A1 c1 A2 c2 AL 0 cL A4 n4 c4) (h0 : n4 ≠ 0) (hn : n ≤ 999999999) : Calls Tryz.prog 36 #[.pointer (some ⟨g, off, none⟩)] w fun e w' => e = .returned (.int .i64 0) ∧ Below w.heap.size w w' := by
  have q0 : w.cell? ⟨g, off, none⟩ = some (.int .i64 7) := h.f0
  have d1 : ((n4 : Int) == 0) = false := by rw [beq_eq_false_iff_ne]; omega
  have d2 : decide ((n : Int) < 0) = false := decide_eq_false (by omega)
  have d3 : decide (999999999 < (n : Int)) = false := decide_eq_false (by omega)
  have d4 : decide (999999999 < n) = false := decide_eq_false (by omega)
  have d5 : (n4 == 0) = false := by rw [beq_eq_false_iff_ne]; exact h0
  clear h0 hn
  have H := Lib.hid h
  obtain ⟨_, q1, q2, q3, q4, q5, q6, q7, q8, q9, q10⟩ := h
  go_enter Tryz.func36, Tryz.ntmps36
  go_wp2_with fail
  go_ret
  exact ⟨rfl, Below.refl _ _⟩

set_option maxRecDepth 100000 in
set_option maxHeartbeats 4000000 in
theorem f_ck8 (g off : Nat) (n n4 : Nat) (A1 : Option Addr) (c1 : Nat) (A2 : Option Addr) (c2 : Nat) (AL : Option Addr) (cL : Nat) (A4 : Option Addr) (c4 : Nat) (w : World) (h : CellB w g off 8 n ⟨#[]⟩ ⟨#[]⟩ ⟨#[]⟩ ⟨#[]⟩ emptyA A1 c1 A2 c2 AL 0 cL A4 n4 c4) (h0 : n4 ≠ 0) (hn : n ≤ 999999999) : Calls Tryz.prog 36 #[.pointer (some ⟨g, off, none⟩)] w fun e w' => e = .returned (.int .i64 0) ∧ Below w.heap.size w w' := by
  have q0 : w.cell? ⟨g, off, none⟩ = some (.int .i64 8) := h.f0
  have d1 : ((n4 : Int) == 0) = false := by rw [beq_eq_false_iff_ne]; omega
  have d2 : decide ((n : Int) < 0) = false := decide_eq_false (by omega)
  have d3 : decide (999999999 < (n : Int)) = false := decide_eq_false (by omega)
  have d4 : decide (999999999 < n) = false := decide_eq_false (by omega)
  have d5 : (n4 == 0) = false := by rw [beq_eq_false_iff_ne]; exact h0
  clear h0 hn
  have H := Lib.hid h
  obtain ⟨_, q1, q2, q3, q4, q5, q6, q7, q8, q9, q10⟩ := h
  go_enter Tryz.func36, Tryz.ntmps36
  go_wp2_with fail
  go_ret
  exact ⟨rfl, Below.refl _ _⟩

set_option maxRecDepth 100000 in
set_option maxHeartbeats 4000000 in
theorem f_ck10 (g off : Nat) (r : List UInt8) (ks : List BkT) (A1 : Option Addr) (c1 : Nat) (A2 : Option Addr) (c2 : Nat) (AL : Option Addr) (cL : Nat) (A4 : Option Addr) (c4 : Nat) (w : World) (h : CellB w g off 10 0 (mk r) ⟨#[]⟩ ⟨#[]⟩ ⟨#[]⟩ emptyA A1 c1 A2 c2 AL 0 cL A4 ks.length c4) (S : Nat → Prop) (hk : KidsV w S (.slice A4 ks.length c4) ks) (hS : ∀ g, S g → g < w.heap.size) (h1 : r ≠ []) (h2 : r.length ≤ 32) (h3 : ∀ b ∈ r, tabC b) (h4 : ks ≠ []) (h5 : ∀ b ∈ ks, (ksT b).length = r.length) (h6 : ks.length ≤ 100) : Calls Tryz.prog 36 #[.pointer (some ⟨g, off, none⟩)] w fun e w' => e = .returned (.int .i64 0) ∧ Below w.heap.size w w' := by
  have q0 : w.cell? ⟨g, off, none⟩ = some (.int .i64 10) := h.f0
  have HL := Lib.hid (f_table g off r ks ⟨#[]⟩ ⟨#[]⟩ ⟨#[]⟩ emptyA A1 c1 A2 c2 AL 0 cL A4 c4 S w h hk hS h1 h2 h3 h4 h5 h6)
  clear hk hS h1 h2 h3 h4 h5
  have H := Lib.hid h
  obtain ⟨_, q1, q2, q3, q4, q5, q6, q7, q8, q9, q10⟩ := h
  generalize mk r = T at *
  go_enter Tryz.func36, Tryz.ntmps36
  go_wp2_with fail
  ((with_reducible refine (HL.out).mono ?_))
  rintro e w1 ⟨rfl, b1⟩
  have HB1 := Lib.hid (b1)
  clear b1 q0 q1 q2 q3 q4 q5 q6 q7 q8 q9 q10
  have q0 : w1.cell? ⟨g, off, none⟩ = some (.int .i64 10) := (H.out.below HB1.out).f0
  obtain ⟨_, q1, q2, q3, q4, q5, q6, q7, q8, q9, q10⟩ := H.out.below HB1.out
  go_wp2_with fail
  go_ret
  exact ⟨rfl, HB1.out⟩

set_option maxRecDepth 100000 in
set_option maxHeartbeats 4000000 in
theorem f_ck12 (g off : Nat) (nL : Nat) (l : ByteArray) (A1 : Option Addr) (c1 : Nat) (A2 : Option Addr) (c2 : Nat) (AL : Option Addr) (cL : Nat) (A4 : Option Addr) (c4 : Nat) (w : World) (h : CellB w g off 12 0 ⟨#[]⟩ ⟨#[]⟩ ⟨#[]⟩ ⟨#[]⟩ emptyA A1 c1 A2 c2 AL nL cL A4 0 c4) (S : Nat → Prop) (hl : SrcV w S (.slice AL nL cL) l) (hS : ∀ g, S g → g < w.heap.size) (hx : l = ⟨#[]⟩ ∨ l = xT) : Calls Tryz.prog 36 #[.pointer (some ⟨g, off, none⟩)] w fun e w' => e = .returned (.int .i64 0) ∧ Below w.heap.size w w' := by
  have q0 : w.cell? ⟨g, off, none⟩ = some (.int .i64 12) := h.f0
  have HL := Lib.hid (f_unbroken AL nL cL l S w hS hl hx)
  clear hl hS hx
  have H := Lib.hid h
  obtain ⟨_, q1, q2, q3, q4, q5, q6, q7, q8, q9, q10⟩ := h
  go_enter Tryz.func36, Tryz.ntmps36
  go_wp2_with fail
  ((with_reducible refine (HL.out).mono ?_))
  rintro e w1 ⟨rfl, b1⟩
  have HB1 := Lib.hid (b1)
  clear b1 q0 q1 q2 q3 q4 q5 q6 q7 q8 q9 q10
  have q0 : w1.cell? ⟨g, off, none⟩ = some (.int .i64 12) := (H.out.below HB1.out).f0
  obtain ⟨_, q1, q2, q3, q4, q5, q6, q7, q8, q9, q10⟩ := H.out.below HB1.out
  go_wp2_with fail
  go_ret
  exact ⟨rfl, HB1.out⟩

set_option maxRecDepth 100000 in
set_option maxHeartbeats 4000000 in
theorem f_ck13 (g off : Nat) (i : ByteArray) (a : AttrL) (n4 : Nat) (A1 : Option Addr) (c1 : Nat) (A2 : Option Addr) (c2 : Nat) (AL : Option Addr) (cL : Nat) (A4 : Option Addr) (c4 : Nat) (w : World) (h : CellB w g off 13 0 i ⟨#[]⟩ ⟨#[]⟩ ⟨#[]⟩ a A1 c1 A2 c2 AL 0 cL A4 n4 c4) (hi : nameB i = true) (hA : ReadA w w.heap.size a A1 c1 A2 c2) (ha : checkE a = 0) : Calls Tryz.prog 36 #[.pointer (some ⟨g, off, none⟩)] w fun e w' => e = .returned (.int .i64 0) ∧ Below w.heap.size w w' := by
  have q0 : w.cell? ⟨g, off, none⟩ = some (.int .i64 13) := h.f0
  have HN : Hid (∀ W, Calls Tryz.prog 51 #[.string i] W fun e w' => e = .returned (.bool true) ∧ W = w') := Lib.hid fun W => by
    have hz : i.size ≤ 60 := by
      unfold nameB at hi
      simp only [Bool.and_eq_true, decide_eq_true_eq] at hi
      exact hi.1.1.2
    have := name_any i W (by omega)
    rw [hi] at this
    exact this
  have HCk : Hid (∀ W, Below w.heap.size w W → Calls Tryz.prog 52 #[.agg #[.string a.id, .slice A1 a.cl.length c1, .slice A2 a.pr.length c2]] W fun e w' => e = .returned (.int .i64 0) ∧ Below W.heap.size W w') := Lib.hid fun W hW => by
    have := check_any W a A1 c1 A2 c2 w.heap.size ⟨hA.cls.below hW, hA.prs.below hW, hW.size, hA.nc, hA.np, hA.sid, hA.scl, hA.spr⟩
    rw [ha] at this
    exact this
  clear hi hA ha
  have H := Lib.hid h
  obtain ⟨_, q1, q2, q3, q4, q5, q6, q7, q8, q9, q10⟩ := h
  go_enter Tryz.func36, Tryz.ntmps36
  go_wp2_with fail
  ((with_reducible refine (HN.out _).mono ?_))
  rintro e w' ⟨rfl, rfl⟩
  go_wp2_with fail
  ((with_reducible refine (HCk.out _ (Below.refl _ _)).mono ?_))
  rintro e w2 ⟨rfl, b2⟩
  have HB2 := Lib.hid (b2)
  clear b2 q0 q1 q2 q3 q4 q5 q6 q7 q8 q9 q10
  have q0 : w2.cell? ⟨g, off, none⟩ = some (.int .i64 13) := (H.out.below HB2.out).f0
  obtain ⟨_, q1, q2, q3, q4, q5, q6, q7, q8, q9, q10⟩ := H.out.below HB2.out
  go_wp2_with fail
  go_ret
  exact ⟨rfl, HB2.out⟩

set_option maxRecDepth 100000 in
set_option maxHeartbeats 4000000 in
theorem f_ck14 (g off : Nat) (i : ByteArray) (a : AttrL) (n4 : Nat) (A1 : Option Addr) (c1 : Nat) (A2 : Option Addr) (c2 : Nat) (AL : Option Addr) (cL : Nat) (A4 : Option Addr) (c4 : Nat) (w : World) (h : CellB w g off 14 0 i ⟨#[]⟩ ⟨#[]⟩ ⟨#[]⟩ a A1 c1 A2 c2 AL 0 cL A4 n4 c4) (hi : nameB i = true) (hA : ReadA w w.heap.size a A1 c1 A2 c2) (ha : checkE a = 0) : Calls Tryz.prog 36 #[.pointer (some ⟨g, off, none⟩)] w fun e w' => e = .returned (.int .i64 0) ∧ Below w.heap.size w w' := by
  have q0 : w.cell? ⟨g, off, none⟩ = some (.int .i64 14) := h.f0
  have HN : Hid (∀ W, Calls Tryz.prog 51 #[.string i] W fun e w' => e = .returned (.bool true) ∧ W = w') := Lib.hid fun W => by
    have hz : i.size ≤ 60 := by
      unfold nameB at hi
      simp only [Bool.and_eq_true, decide_eq_true_eq] at hi
      exact hi.1.1.2
    have := name_any i W (by omega)
    rw [hi] at this
    exact this
  have HCk : Hid (∀ W, Below w.heap.size w W → Calls Tryz.prog 52 #[.agg #[.string a.id, .slice A1 a.cl.length c1, .slice A2 a.pr.length c2]] W fun e w' => e = .returned (.int .i64 0) ∧ Below W.heap.size W w') := Lib.hid fun W hW => by
    have := check_any W a A1 c1 A2 c2 w.heap.size ⟨hA.cls.below hW, hA.prs.below hW, hW.size, hA.nc, hA.np, hA.sid, hA.scl, hA.spr⟩
    rw [ha] at this
    exact this
  clear hi hA ha
  have H := Lib.hid h
  obtain ⟨_, q1, q2, q3, q4, q5, q6, q7, q8, q9, q10⟩ := h
  go_enter Tryz.func36, Tryz.ntmps36
  go_wp2_with fail
  ((with_reducible refine (HN.out _).mono ?_))
  rintro e w' ⟨rfl, rfl⟩
  go_wp2_with fail
  ((with_reducible refine (HCk.out _ (Below.refl _ _)).mono ?_))
  rintro e w2 ⟨rfl, b2⟩
  have HB2 := Lib.hid (b2)
  clear b2 q0 q1 q2 q3 q4 q5 q6 q7 q8 q9 q10
  have q0 : w2.cell? ⟨g, off, none⟩ = some (.int .i64 14) := (H.out.below HB2.out).f0
  obtain ⟨_, q1, q2, q3, q4, q5, q6, q7, q8, q9, q10⟩ := H.out.below HB2.out
  go_wp2_with fail
  go_ret
  exact ⟨rfl, HB2.out⟩

set_option maxRecDepth 100000 in
set_option maxHeartbeats 4000000 in
theorem f_ck15 (g off : Nat) (i d ti : ByteArray) (A1 : Option Addr) (c1 : Nat) (A2 : Option Addr) (c2 : Nat) (AL : Option Addr) (cL : Nat) (A4 : Option Addr) (c4 : Nat) (w : World) (h : CellB w g off 15 0 i ⟨#[]⟩ d ti emptyA A1 c1 A2 c2 AL 0 cL A4 0 c4) (h1 : labP i) (h2 : lineB d = true) (h3 : lineB ti = true) (h4 : d.size ≤ 150) (h5 : ti.size ≤ 150) : Calls Tryz.prog 36 #[.pointer (some ⟨g, off, none⟩)] w fun e w' => e = .returned (.int .i64 0) ∧ Below w.heap.size w w' := by
  have q0 : w.cell? ⟨g, off, none⟩ = some (.int .i64 15) := h.f0
  have HL : Hid (∀ W, Calls Tryz.prog 53 #[.string i] W fun e w' => e = .returned (.bool true) ∧ Below W.heap.size W w') := Lib.hid fun W => f_label i W h1
  have HD : Hid (∀ W, Calls Tryz.prog 45 #[.string d] W fun e w' => e = .returned (.bool true) ∧ Below W.heap.size W w') := Lib.hid fun W => f_cleanLine d W (by omega) h2
  have HT : Hid (∀ W, Calls Tryz.prog 45 #[.string ti] W fun e w' => e = .returned (.bool true) ∧ Below W.heap.size W w') := Lib.hid fun W => f_cleanLine ti W (by omega) h3
  clear h1 h2 h3 h4 h5
  have H := Lib.hid h
  obtain ⟨_, q1, q2, q3, q4, q5, q6, q7, q8, q9, q10⟩ := h
  go_enter Tryz.func36, Tryz.ntmps36
  go_wp2_with fail
  ((with_reducible refine (HL.out _).mono ?_))
  rintro e w1 ⟨rfl, b1⟩
  have HB1 := Lib.hid (b1)
  clear b1 q0 q1 q2 q3 q4 q5 q6 q7 q8 q9 q10
  have q0 : w1.cell? ⟨g, off, none⟩ = some (.int .i64 15) := (H.out.below HB1.out).f0
  obtain ⟨_, q1, q2, q3, q4, q5, q6, q7, q8, q9, q10⟩ := H.out.below HB1.out
  go_wp2_with fail
  ((with_reducible refine (HD.out _).mono ?_))
  rintro e w2 ⟨rfl, b2⟩
  have HB2 := Lib.hid (HB1.out.trans (b2.mono HB1.out.size))
  clear b2 q0 q1 q2 q3 q4 q5 q6 q7 q8 q9 q10
  have q0 : w2.cell? ⟨g, off, none⟩ = some (.int .i64 15) := (H.out.below HB2.out).f0
  obtain ⟨_, q1, q2, q3, q4, q5, q6, q7, q8, q9, q10⟩ := H.out.below HB2.out
  go_wp2_with fail
  ((with_reducible refine (HT.out _).mono ?_))
  rintro e w3 ⟨rfl, b3⟩
  have HB3 := Lib.hid (HB2.out.trans (b3.mono HB2.out.size))
  clear b3 q0 q1 q2 q3 q4 q5 q6 q7 q8 q9 q10
  have q0 : w3.cell? ⟨g, off, none⟩ = some (.int .i64 15) := (H.out.below HB3.out).f0
  obtain ⟨_, q1, q2, q3, q4, q5, q6, q7, q8, q9, q10⟩ := H.out.below HB3.out
  go_wp2_with fail
  go_ret
  exact ⟨rfl, HB3.out⟩

end Go.Proofs.YtpoafhgbhnblmaaGreatDoor
namespace Go.Proofs.YtpoafhgbhnblmaaGreatDoor
open Go.RowKit Go.Pub
set_option maxRecDepth 100000 in
set_option maxHeartbeats 4000000 in
theorem f_ck1 (g off : Nat)  (A1 : Option Addr) (c1 : Nat) (A2 : Option Addr) (c2 : Nat) (AL : Option Addr) (cL : Nat) (A4 : Option Addr) (c4 : Nat) (w : World) (h : CellB w g off 1 0 ⟨#[]⟩ ⟨#[]⟩ ⟨#[]⟩ ⟨#[]⟩ emptyA A1 c1 A2 c2 AL 1 cL A4 0 c4) (S : Nat → Prop) (hl : SrcV w S (.slice AL 1 cL) xT) : Calls Tryz.prog 36 #[.pointer (some ⟨g, off, none⟩)] w fun e w' => e = .returned (.int .i64 0) ∧ Below w.heap.size w w' := by
  have q0 : w.cell? ⟨g, off, none⟩ = some (.int .i64 1) := h.f0
  have HL := Lib.hid (f_line AL 1 cL xT S w hl (.inr rfl))
  clear hl
  have H := Lib.hid h
  obtain ⟨_, q1, q2, q3, q4, q5, q6, q7, q8, q9, q10⟩ := h
  go_enter Tryz.func36, Tryz.ntmps36
  go_wp2_with fail
  ((with_reducible refine (HL.out).mono ?_))
  rintro e w1 ⟨rfl, b1⟩
  have HB1 := Lib.hid (b1)
  clear b1 q0 q1 q2 q3 q4 q5 q6 q7 q8 q9 q10
  have q0 : w1.cell? ⟨g, off, none⟩ = some (.int .i64 1) := (H.out.below HB1.out).f0
  obtain ⟨_, q1, q2, q3, q4, q5, q6, q7, q8, q9, q10⟩ := H.out.below HB1.out
  go_wp2_with fail
  go_ret
  exact ⟨rfl, HB1.out⟩

set_option maxRecDepth 100000 in
set_option maxHeartbeats 4000000 in
theorem f_ck2 (g off : Nat) (n : Nat) (a : AttrL) (nL : Nat) (l : ByteArray) (A1 : Option Addr) (c1 : Nat) (A2 : Option Addr) (c2 : Nat) (AL : Option Addr) (cL : Nat) (A4 : Option Addr) (c4 : Nat) (w : World) (h : CellB w g off 2 n ⟨#[]⟩ ⟨#[]⟩ ⟨#[]⟩ ⟨#[]⟩ a A1 c1 A2 c2 AL nL cL A4 0 c4) (S : Nat → Prop) (hA : ReadA w w.heap.size a A1 c1 A2 c2) (ha : checkE a = 0) (hl : SrcV w S (.slice AL nL cL) l) (hS : ∀ g, S g → g < w.heap.size) (hx : l = ⟨#[]⟩ ∨ l = xT) (h1 : 1 ≤ n) (h6 : n ≤ 6) : Calls Tryz.prog 36 #[.pointer (some ⟨g, off, none⟩)] w fun e w' => e = .returned (.int .i64 0) ∧ Below w.heap.size w w' := by
  have q0 : w.cell? ⟨g, off, none⟩ = some (.int .i64 2) := h.f0
  have HL := Lib.hid (f_head g off n ⟨#[]⟩ ⟨#[]⟩ ⟨#[]⟩ ⟨#[]⟩ a l A1 c1 A2 c2 AL nL cL A4 0 c4 S w h hA ha hl hS hx h1 h6)
  clear hA ha hl hS hx h1 h6
  have H := Lib.hid h
  obtain ⟨_, q1, q2, q3, q4, q5, q6, q7, q8, q9, q10⟩ := h
  go_enter Tryz.func36, Tryz.ntmps36
  go_wp2_with fail
  ((with_reducible refine (HL.out).mono ?_))
  rintro e w1 ⟨rfl, b1⟩
  have HB1 := Lib.hid (b1)
  clear b1 q0 q1 q2 q3 q4 q5 q6 q7 q8 q9 q10
  have q0 : w1.cell? ⟨g, off, none⟩ = some (.int .i64 2) := (H.out.below HB1.out).f0
  obtain ⟨_, q1, q2, q3, q4, q5, q6, q7, q8, q9, q10⟩ := H.out.below HB1.out
  go_wp2_with fail
  go_ret
  exact ⟨rfl, HB1.out⟩

set_option maxRecDepth 100000 in
set_option maxHeartbeats 4000000 in
theorem f_ck3 (g off : Nat) (i t : ByteArray) (A1 : Option Addr) (c1 : Nat) (A2 : Option Addr) (c2 : Nat) (AL : Option Addr) (cL : Nat) (A4 : Option Addr) (c4 : Nat) (w : World) (h : CellB w g off 3 0 i t ⟨#[]⟩ ⟨#[]⟩ emptyA A1 c1 A2 c2 AL 0 cL A4 0 c4) (h1 : lineB i = true) (h2 : trmP i) (h3 : i.size ≤ 150) (h4 : t.size ≤ 1000000) (h5 : t.size = 0 ∨ (validB t = true ∧ bt t (t.size - 1) = 10)) : Calls Tryz.prog 36 #[.pointer (some ⟨g, off, none⟩)] w fun e w' => e = .returned (.int .i64 0) ∧ Below w.heap.size w w' := by
  have q0 : w.cell? ⟨g, off, none⟩ = some (.int .i64 3) := h.f0
  have HL : Hid (∀ W, Calls Tryz.prog 45 #[.string i] W fun e w' => e = .returned (.bool true) ∧ Below W.heap.size W w') := Lib.hid fun W => f_cleanLine i W (by omega) h1
  have HT : Hid (∀ W, Calls Tryz.prog 46 #[.string i] W fun e w' => e = .returned (.bool true) ∧ W = w') := Lib.hid fun W => f_trimmed i W (by omega) h2
  have HX : Hid (∀ W, Calls Tryz.prog 47 #[.string t] W fun e w' => e = .returned (.bool true) ∧ Below W.heap.size W w') := Lib.hid fun W => f_cleanText t W h4 h5
  clear h1 h2 h3 h4 h5
  have H := Lib.hid h
  obtain ⟨_, q1, q2, q3, q4, q5, q6, q7, q8, q9, q10⟩ := h
  go_enter Tryz.func36, Tryz.ntmps36
  go_wp2_with fail
  ((with_reducible refine (HL.out _).mono ?_))
  rintro e w1 ⟨rfl, b1⟩
  have HB1 := Lib.hid (b1)
  clear b1 q0 q1 q2 q3 q4 q5 q6 q7 q8 q9 q10
  have q0 : w1.cell? ⟨g, off, none⟩ = some (.int .i64 3) := (H.out.below HB1.out).f0
  obtain ⟨_, q1, q2, q3, q4, q5, q6, q7, q8, q9, q10⟩ := H.out.below HB1.out
  go_wp2_with fail
  ((with_reducible refine (HT.out _).mono ?_))
  rintro e w' ⟨rfl, rfl⟩
  go_wp2_with fail
  ((with_reducible refine (HX.out _).mono ?_))
  rintro e w3 ⟨rfl, b3⟩
  have HB3 := Lib.hid (HB1.out.trans (b3.mono HB1.out.size))
  clear b3 q0 q1 q2 q3 q4 q5 q6 q7 q8 q9 q10
  have q0 : w3.cell? ⟨g, off, none⟩ = some (.int .i64 3) := (H.out.below HB3.out).f0
  obtain ⟨_, q1, q2, q3, q4, q5, q6, q7, q8, q9, q10⟩ := H.out.below HB3.out
  go_wp2_with fail
  go_ret
  exact ⟨rfl, HB3.out⟩

set_option maxRecDepth 100000 in
set_option maxHeartbeats 4000000 in
theorem f_ck4 (g off : Nat) (ls : List ByteArray) (a : AttrL) (A1 : Option Addr) (c1 : Nat) (A2 : Option Addr) (c2 : Nat) (AL : Option Addr) (cL : Nat) (A4 : Option Addr) (c4 : Nat) (w : World) (h : CellB w g off 4 0 ⟨#[]⟩ (mk (joinN ls)) ⟨#[]⟩ ⟨#[]⟩ a A1 c1 A2 c2 AL 0 cL A4 0 c4) (hA : ReadA w w.heap.size a A1 c1 A2 c2) (ha : checkE a = 0) (hc : ClnL ls) (hn : ∀ z ∈ ls, cloB z = false) : Calls Tryz.prog 36 #[.pointer (some ⟨g, off, none⟩)] w fun e w' => e = .returned (.int .i64 0) ∧ Below w.heap.size w w' := by
  have q0 : w.cell? ⟨g, off, none⟩ = some (.int .i64 4) := h.f0
  have HL := Lib.hid (f_math g off ls 0 ⟨#[]⟩ ⟨#[]⟩ ⟨#[]⟩ a A1 c1 A2 c2 AL 0 cL A4 0 c4 w h hA ha hc hn)
  clear hA ha hc hn
  have H := Lib.hid h
  obtain ⟨_, q1, q2, q3, q4, q5, q6, q7, q8, q9, q10⟩ := h
  generalize mk (joinN ls) = T at *
  go_enter Tryz.func36, Tryz.ntmps36
  go_wp2_with fail
  ((with_reducible refine (HL.out).mono ?_))
  rintro e w1 ⟨rfl, b1⟩
  have HB1 := Lib.hid (b1)
  clear b1 q0 q1 q2 q3 q4 q5 q6 q7 q8 q9 q10
  have q0 : w1.cell? ⟨g, off, none⟩ = some (.int .i64 4) := (H.out.below HB1.out).f0
  obtain ⟨_, q1, q2, q3, q4, q5, q6, q7, q8, q9, q10⟩ := H.out.below HB1.out
  go_wp2_with fail
  go_ret
  exact ⟨rfl, HB1.out⟩

set_option maxRecDepth 100000 in
set_option maxHeartbeats 4000000 in
theorem f_ck5 (g off : Nat) (n4 : Nat) (A1 : Option Addr) (c1 : Nat) (A2 : Option Addr) (c2 : Nat) (AL : Option Addr) (cL : Nat) (A4 : Option Addr) (c4 : Nat) (w : World) (h : CellB w g off 5 0 ⟨#[]⟩ ⟨#[]⟩ ⟨#[]⟩ ⟨#[]⟩ emptyA A1 c1 A2 c2 AL 0 cL A4 n4 c4) : Calls Tryz.prog 36 #[.pointer (some ⟨g, off, none⟩)] w fun e w' => e = .returned (.int .i64 0) ∧ Below w.heap.size w w' := by
  have q0 : w.cell? ⟨g, off, none⟩ = some (.int .i64 5) := h.f0
  have H := Lib.hid h
  obtain ⟨_, q1, q2, q3, q4, q5, q6, q7, q8, q9, q10⟩ := h
  go_enter Tryz.func36, Tryz.ntmps36
  go_wp2_with fail
  go_ret
  exact ⟨rfl, Below.refl _ _⟩

set_option maxRecDepth 100000 in
set_option maxHeartbeats 4000000 in
theorem f_ck6 (g off : Nat) (n4 : Nat) (A1 : Option Addr) (c1 : Nat) (A2 : Option Addr) (c2 : Nat) (AL : Option Addr) (cL : Nat) (A4 : Option Addr) (c4 : Nat) (w : World) (h : CellB w g off 6 0 ⟨#[]⟩ ⟨#[]⟩ ⟨#[]⟩ ⟨#[]⟩ emptyA A1 c1 A2 c2 AL 0 cL A4 n4 c4) : Calls Tryz.prog 36 #[.pointer (some ⟨g, off, none⟩)] w fun e w' => e = .returned (.int .i64 0) ∧ Below w.heap.size w w' := by
  have q0 : w.cell? ⟨g, off, none⟩ = some (.int .i64 6) := h.f0
  have H := Lib.hid h
  obtain ⟨_, q1, q2, q3, q4, q5, q6, q7, q8, q9, q10⟩ := h
  go_enter Tryz.func36, Tryz.ntmps36
  go_wp2_with fail
  go_ret
  exact ⟨rfl, Below.refl _ _⟩

set_option maxRecDepth 100000 in
set_option maxHeartbeats 4000000 in
theorem f_ck9 (g off : Nat) (n4 : Nat) (A1 : Option Addr) (c1 : Nat) (A2 : Option Addr) (c2 : Nat) (AL : Option Addr) (cL : Nat) (A4 : Option Addr) (c4 : Nat) (w : World) (h : CellB w g off 9 0 ⟨#[]⟩ ⟨#[]⟩ ⟨#[]⟩ ⟨#[]⟩ emptyA A1 c1 A2 c2 AL 0 cL A4 n4 c4) : Calls Tryz.prog 36 #[.pointer (some ⟨g, off, none⟩)] w fun e w' => e = .returned (.int .i64 0) ∧ Below w.heap.size w w' := by
  have q0 : w.cell? ⟨g, off, none⟩ = some (.int .i64 9) := h.f0
  have H := Lib.hid h
  obtain ⟨_, q1, q2, q3, q4, q5, q6, q7, q8, q9, q10⟩ := h
  go_enter Tryz.func36, Tryz.ntmps36
  go_wp2_with fail
  go_ret
  exact ⟨rfl, Below.refl _ _⟩

set_option maxRecDepth 100000 in
set_option maxHeartbeats 4000000 in
theorem f_ck11 (g off : Nat) (n4 : Nat) (A1 : Option Addr) (c1 : Nat) (A2 : Option Addr) (c2 : Nat) (AL : Option Addr) (cL : Nat) (A4 : Option Addr) (c4 : Nat) (w : World) (h : CellB w g off 11 0 ⟨#[]⟩ ⟨#[]⟩ ⟨#[]⟩ ⟨#[]⟩ emptyA A1 c1 A2 c2 AL 0 cL A4 n4 c4) : Calls Tryz.prog 36 #[.pointer (some ⟨g, off, none⟩)] w fun e w' => e = .returned (.int .i64 0) ∧ Below w.heap.size w w' := by
  have q0 : w.cell? ⟨g, off, none⟩ = some (.int .i64 11) := h.f0
  have H := Lib.hid h
  obtain ⟨_, q1, q2, q3, q4, q5, q6, q7, q8, q9, q10⟩ := h
  go_enter Tryz.func36, Tryz.ntmps36
  go_wp2_with fail
  go_ret
  exact ⟨rfl, Below.refl _ _⟩

end Go.Proofs.YtpoafhgbhnblmaaGreatDoor
namespace Go.Proofs.YtpoafhgbhnblmaaGreatDoor
open Go.RowKit Go.Pub
theorem src0 {w : World} {S : Nat → Prop} {AL : Option Addr} {nL cL : Nat} (h : SrcV w S (.slice AL nL cL) ⟨#[]⟩) : nL = 0 := by
  unfold SrcV at h
  rw [if_pos (show (⟨#[]⟩ : ByteArray).size = 0 from rfl)] at h
  injection h
theorem src1 {w : World} {S : Nat → Prop} {AL : Option Addr} {nL cL : Nat} (h : SrcV w S (.slice AL nL cL) xT) : nL = 1 := by
  obtain ⟨g, off, _, e, _⟩ := LeafB.of h; exact e
theorem readA_of {w : World} {S : Nat → Prop} {a : AttrL} {A1 A2 : Option Addr} {c1 c2 : Nat} (h : AttR w S a A1 A2) (hS : ∀ g, S g → g < w.heap.size) (hs : SmallA 150 a) : ReadA w w.heap.size a A1 c1 A2 c2 :=
  ⟨h.cls.reads hS, h.prs.reads hS, Nat.le_refl _, Nat.le_trans h.c32 (by decide), Nat.le_trans h.p32 (by decide), Nat.le_trans hs.1 (by decide), fun x hx => Nat.le_trans (hs.2.1 x hx) (by decide), fun x hx => ⟨Nat.le_trans (hs.2.2 x hx).1 (by decide), Nat.le_trans (hs.2.2 x hx).2 (by decide)⟩⟩
section
variable {g off k lv : Nat} {i t d ti : ByteArray} {a : AttrL} {l : ByteArray} {ks : List BkT} {A1 A2 AL A4 : Option Addr} {c1 c2 nL cL c4 : Nat} {S : Nat → Prop} {w : World}
theorem f_bfields (h : CellB w g off k lv i t d ti a A1 c1 A2 c2 AL nL cL A4 ks.length c4) (hF : FormB (.mk k lv i t d ti a l ks)) (hl : SrcV w S (.slice AL nL cL) l) : Calls Tryz.prog 34 #[.pointer (some ⟨g, off, none⟩)] w fun e w' => e = .returned (.bool true) ∧ Below w.heap.size w w' := by
  cases hF with
  | para => exact f_bf1 g off nL A1 c1 A2 c2 AL cL A4 c4 w h
  | head => exact f_bf2 g off lv a nL A1 c1 A2 c2 AL cL A4 c4 w h
  | code => obtain rfl := src0 hl; exact f_bf3 g off i _ A1 c1 A2 c2 AL cL A4 c4 w h
  | math => obtain rfl := src0 hl; exact f_bf4 g off _ a A1 c1 A2 c2 AL cL A4 c4 w h
  | rule => obtain rfl := src0 hl; exact f_bf5 g off A1 c1 A2 c2 AL cL A4 c4 w h
  | holds k hk ks =>
    obtain rfl := src0 hl
    rcases hk with rfl | rfl | rfl
    · exact f_bf6 g off ks.length A1 c1 A2 c2 AL cL A4 c4 w h
    · exact f_bf9 g off ks.length A1 c1 A2 c2 AL cL A4 c4 w h
    · exact f_bf11 g off ks.length A1 c1 A2 c2 AL cL A4 c4 w h
  | list k n hk ks hn =>
    obtain rfl := src0 hl
    rcases hk with ⟨rfl, rfl⟩ | ⟨rfl, _⟩
    · exact f_bf7 g off ks.length A1 c1 A2 c2 AL cL A4 c4 w h
    · exact f_bf8 g off lv ks.length A1 c1 A2 c2 AL cL A4 c4 w h
  | table r => obtain rfl := src0 hl; exact f_bf10 g off _ ks.length A1 c1 A2 c2 AL cL A4 c4 w h
  | cell => exact f_bf12 g off nL A1 c1 A2 c2 AL cL A4 c4 w h
  | div k hk info att ks h1 ha hs h14 =>
    obtain rfl := src0 hl
    rcases hk with rfl | rfl
    · exact f_bf13 g off i a ks.length A1 c1 A2 c2 AL cL A4 c4 w h
    · obtain rfl := h14 rfl
      exact f_bf14 g off i ks.length A1 c1 A2 c2 AL cL A4 c4 w h
  | deff => obtain rfl := src0 hl; exact f_bf15 g off i d ti A1 c1 A2 c2 AL cL A4 c4 w h
theorem f_block (h : CellB w g off k lv i t d ti a A1 c1 A2 c2 AL nL cL A4 ks.length c4) (hF : FormB (.mk k lv i t d ti a l ks)) (hA : AttR w S a A1 A2) (hl : SrcV w S (.slice AL nL cL) l) (hk : KidsV w S (.slice A4 ks.length c4) ks) (hS : ∀ g, S g → g < w.heap.size) (h100 : ks.length ≤ 100) :
    Calls Tryz.prog 36 #[.pointer (some ⟨g, off, none⟩)] w fun e w' => e = .returned (.int .i64 0) ∧ Below w.heap.size w w' := by
  cases hF with
  | para => obtain rfl := src1 hl; exact f_ck1 g off A1 c1 A2 c2 AL cL A4 c4 w h S hl
  | head n att l h1 h6 ha hs hx => exact f_ck2 g off lv a nL l A1 c1 A2 c2 AL cL A4 c4 w h S (readA_of hA hS hs) ha.check hl hS hx h1 h6
  | code info ls h1 h2 h3 hc =>
    obtain rfl := src0 hl
    obtain ⟨x1, x2⟩ := join_text ls hc
    exact f_ck3 g off i _ A1 c1 A2 c2 AL cL A4 c4 w h ((ln_lineB _).2 h1) h2 h3 x1 x2
  | math ls att hc hn ha hs => obtain rfl := src0 hl; exact f_ck4 g off ls a A1 c1 A2 c2 AL cL A4 c4 w h (readA_of hA hS hs) ha.check hc hn
  | rule => obtain rfl := src0 hl; exact f_ck5 g off 0 A1 c1 A2 c2 AL cL A4 c4 w h
  | holds k hk ks =>
    obtain rfl := src0 hl
    rcases hk with rfl | rfl | rfl
    · exact f_ck6 g off ks.length A1 c1 A2 c2 AL cL A4 c4 w h
    · exact f_ck9 g off ks.length A1 c1 A2 c2 AL cL A4 c4 w h
    · exact f_ck11 g off ks.length A1 c1 A2 c2 AL cL A4 c4 w h
  | list k n hk ks hn =>
    obtain rfl := src0 hl
    have hz : ks.length ≠ 0 := fun e => hn (List.eq_nil_of_length_eq_zero e)
    rcases hk with ⟨rfl, rfl⟩ | ⟨rfl, hv⟩
    · exact f_ck7 g off 0 ks.length A1 c1 A2 c2 AL cL A4 c4 w h hz (by decide)
    · exact f_ck8 g off lv ks.length A1 c1 A2 c2 AL cL A4 c4 w h hz hv
  | table r ks h1 h2 h3 h4 h5 => obtain rfl := src0 hl; exact f_ck10 g off r ks A1 c1 A2 c2 AL cL A4 c4 w h S hk hS h1 h2 h3 h4 h5 h100
  | cell l hx => exact f_ck12 g off nL l A1 c1 A2 c2 AL cL A4 c4 w h S hl hS hx
  | div k hk' info att ks h1 ha hs h14 =>
    obtain rfl := src0 hl
    rcases hk' with rfl | rfl
    · exact f_ck13 g off i a ks.length A1 c1 A2 c2 AL cL A4 c4 w h h1 (readA_of hA hS hs) ha.check
    · exact f_ck14 g off i a ks.length A1 c1 A2 c2 AL cL A4 c4 w h h1 (readA_of hA hS hs) ha.check
  | deff info dest title h1 h2 h3 h4 h5 => obtain rfl := src0 hl; exact f_ck15 g off i d ti A1 c1 A2 c2 AL cL A4 c4 w h h1 ((ln_lineB _).2 h2) ((ln_lineB _).2 h3) h4 h5
end
theorem FormB.kind : ∀ {b : BkT}, FormB b → kdT b ≤ 15
  | _, .para => by decide
  | _, .head .. => show (2 : Nat) ≤ 15 by decide
  | _, .code .. => show (3 : Nat) ≤ 15 by decide
  | _, .math .. => show (4 : Nat) ≤ 15 by decide
  | _, .rule => by decide
  | _, .holds k hk _ => show k ≤ 15 by omega
  | _, .list k n hk _ _ => show k ≤ 15 by omega
  | _, .table .. => show (10 : Nat) ≤ 15 by decide
  | _, .cell .. => show (12 : Nat) ≤ 15 by decide
  | _, .div k hk .. => show k ≤ 15 by omega
  | _, .deff .. => show (15 : Nat) ≤ 15 by decide
theorem WfK.mem : ∀ {n p : Nat} {bs : List BkT}, WfK (n + 1) p bs → ∀ b ∈ bs, FormB b ∧ fitN (kdT b) p = true ∧ (ksT b).length ≤ 100 ∧ WfK n (kdT b) (ksT b)
  | n, p, _, .nil _ _, b, hb => by cases hb
  | n, p, _, .cons _ _ k lv i t d ti a l ks bs h1 h2 h3 h4 h5, b, hb => by
    rcases List.mem_cons.1 hb with rfl | hb
    · exact ⟨h1, h2, h3, h4⟩
    · exact WfK.mem h5 b hb
theorem wfK_zero {p : Nat} {bs : List BkT} (h : WfK 0 p bs) : bs = [] := by cases h; rfl
set_option maxRecDepth 100000 in
set_option maxHeartbeats 4000000 in
theorem f_blocks : ∀ (n d p : Nat) (bs : List BkT), n + d = 16 → p ≤ 15 → WfK n p bs → bs.length ≤ 100 → ∀ (A : Option Addr) (nn c : Nat) (S : Nat → Prop) (w : World), KidsV w S (.slice A nn c) bs → (∀ g, S g → g < w.heap.size) →
    Calls Tryz.prog 27 #[.slice A nn c, .int .i64 p, .int .i64 d] w fun e w' => e = .returned (.int .i64 0) ∧ Below w.heap.size w w' := by
  intro n
  induction n with
  | zero =>
    intro d p bs hd hp hw _ A nn c S w hK hS
    have := wfK_zero hw
    subst this
    obtain ⟨A', c', vs, e, _⟩ := hK
    injection e with e1 e2 e3
    subst e2
    go_enter Tryz.func27, Tryz.ntmps27
    go_wp2_with fail
    go_loop [13] (fun v => v = .int .i64 0) (fun v => 0)
    case atStart => rfl
    case round =>
      subst hrel
      go_wp2_with fail
      go_ret
      exact ⟨rfl, Below.refl _ _⟩
  | succ n ih =>
    intro d p bs hd hp hw h100 A nn c S w hK hS
    have hn : nn = bs.length := by obtain ⟨A', c', vs, e, _⟩ := hK; injection e
    subst hn
    have HK := Lib.hid hK
    have HS := Lib.hid hS
    have HIH := Lib.hid ih
    have HW := Lib.hid hw.mem
    have d1 : decide (15 < (d : Int)) = false := decide_eq_false (by omega)
    have d2 : decide (15 < d) = false := decide_eq_false (by omega)
    have hw1 : IntKind.i64.wrap ((d : Int) + 1) = (d : Int) + 1 := IntWalk.i64_in _ (by omega)
    clear hK hS ih hw
    go_enter Tryz.func27, Tryz.ntmps27
    go_wp2_with fail
    go_loopw [13] (fun v wr => ∃ j : Nat, v = .int .i64 j ∧ j ≤ bs.length ∧ Below w.heap.size w wr) (fun v _ => bs.length - (intOf v).toNat)
    case atStart => exact ⟨0, rfl, Nat.zero_le _, Below.refl _ _⟩
    case round =>
      obtain ⟨j, rfl, hj, hbw⟩ := hrel
      by_cases hlt : j < bs.length
      · have HBW := Lib.hid hbw
        obtain ⟨g4, o4, c', e', hg, hcell⟩ := HK.out.get (by omega)
        injection e' with e1 _ e2
        subst e1 e2
        obtain ⟨vb, hvb, hcs⟩ := hcell j hlt
        obtain ⟨hF, hfit, hkl, hwk⟩ := HW.out bs[j] (List.getElem_mem hlt)
        generalize bs[j] = bj at *
        clear hcell
        have hk15 := hF.kind
        cases hvb with
        | mk k lv info text dest title att line kids A1 A2 A4 c1 c2 c4 vL vs ha hl hr hc =>
        have hls : ∃ AL nL cL, vL = .slice AL nL cL := by
          unfold SrcV at hl
          by_cases hz : line.size = 0
          · rw [if_pos hz] at hl; exact ⟨_, _, _, hl⟩
          · rw [if_neg hz] at hl
            obtain ⟨A, c, e, _⟩ := hl
            exact ⟨_, _, _, e⟩
        obtain ⟨AL, nL, cL, rfl⟩ := hls
        have hC0 : CellB w g4 (o4 + j * 11) k lv info text dest title att A1 c1 A2 c2 AL nL cL A4 kids.length c4 := ⟨hcs 0 (by omega), hcs 1 (by omega), hcs 2 (by omega), hcs 3 (by omega), hcs 4 (by omega), hcs 5 (by omega), hcs 6 (by omega), hcs 7 (by omega), hcs 8 (by omega), hcs 9 (by omega), hcs 10 (by omega)⟩
        have hKd : KidsV w S (.slice A4 kids.length c4) kids := ⟨A4, c4, vs, rfl, hr, hc⟩
        have HC : Hid (∀ W, Below w.heap.size w W → CellB W g4 (o4 + j * 11) k lv info text dest title att A1 c1 A2 c2 AL nL cL A4 kids.length c4) := Lib.hid fun W hW => hC0.below hW
        have HSb : ∀ W, Below w.heap.size w W → ∀ g, S g → W.heap[g]? = w.heap[g]? := fun W hW g hg => hW.block g (HS.out g hg)
        have HSl : ∀ W, Below w.heap.size w W → ∀ g, S g → g < W.heap.size := fun W hW g hg => Nat.lt_of_lt_of_le (HS.out g hg) hW.size
        have HFd : Hid (∀ W, Below w.heap.size w W → Calls Tryz.prog 34 #[.pointer (some ⟨g4, o4 + j * 11, none⟩)] W fun e w' => e = .returned (.bool true) ∧ Below W.heap.size W w') := Lib.hid fun W hW => f_bfields (hC0.below hW) hF (hl.keep (HSb W hW) fun _ h => h)
        have HBk : Hid (∀ W, Below w.heap.size w W → Calls Tryz.prog 36 #[.pointer (some ⟨g4, o4 + j * 11, none⟩)] W fun e w' => e = .returned (.int .i64 0) ∧ Below W.heap.size W w') := Lib.hid fun W hW => f_block (hC0.below hW) hF (ha.keep (HSb W hW) fun _ h => h) (hl.keep (HSb W hW) fun _ h => h) (hKd.keep (HSb W hW) fun _ h => h) (HSl W hW) hkl
        have HFt : Hid (∀ W, Calls Tryz.prog 35 #[.int .i64 k, .int .i64 p] W fun e w' => e = .returned (.bool true) ∧ Below W.heap.size W w') := Lib.hid fun W => f_fits k p W hk15 hp hfit
        have HRc : Hid (∀ W, Below w.heap.size w W → Calls Tryz.prog 27 #[.slice A4 kids.length c4, .int .i64 k, .int .i64 ((d : Int) + 1)] W fun e w' => e = .returned (.int .i64 0) ∧ Below W.heap.size W w') := Lib.hid fun W hW => by
          have := HIH.out (d + 1) k kids (by omega) hk15 hwk hkl A4 kids.length c4 S W (hKd.keep (HSb W hW) fun _ h => h) (HSl W hW)
          exact this
        clear hC0 hKd HSb HSl hF hfit hkl hwk ha hl hr hc hcs HIH HW HK hg
        go_wp2_with fail
        ((with_reducible refine (HFd.out _ HBW.out).mono ?_))
        rintro e w1 ⟨rfl, b1⟩
        have HB1 := Lib.hid (HBW.out.trans (b1.mono HBW.out.size))
        obtain ⟨q0, q1, q2, q3, q4, q5, q6, q7, q8, q9, q10⟩ := HC.out w1 HB1.out
        clear b1
        go_wp2_with fail
        ((with_reducible refine (HFt.out _).mono ?_))
        rintro e w2 ⟨rfl, b2⟩
        have HB2 := Lib.hid (HB1.out.trans (b2.mono HB1.out.size))
        clear b2 q0 q1 q2 q3 q4 q5 q6 q7 q8 q9 q10
        go_wp2_with fail
        ((with_reducible refine (HBk.out _ HB2.out).mono ?_))
        rintro e W2 ⟨rfl, b3⟩
        have HB3 := Lib.hid (HB2.out.trans (b3.mono HB2.out.size))
        have HSS : Hid (∀ W, Below W2.heap.size W2 W → W.cell? ⟨g4, o4 + j * 11 + 10, none⟩ = some (.slice A4 kids.length c4) ∧ W.cell? ⟨g4, o4 + j * 11, none⟩ = some (.int .i64 k) ∧ Below W2.heap.size W2 W) := Lib.hid fun W hW =>
          ⟨(HC.out W (HB3.out.trans (hW.mono HB3.out.size))).f10, (HC.out W (HB3.out.trans (hW.mono HB3.out.size))).f0, hW⟩
        have HC1 : Hid (∀ W, Below W2.heap.size W2 W → Calls Tryz.prog 27 #[.slice A4 kids.length c4, .int .i64 k, .int .i64 ((d : Int) + 1)] W fun e w' => e = .returned (.int .i64 0) ∧ Below W2.heap.size W2 w') := Lib.hid fun W hW => (HRc.out W (HB3.out.trans (hW.mono HB3.out.size))).mono fun e w' h => ⟨h.1, hW.trans (h.2.mono hW.size)⟩
        have HEND : Hid (∀ W, Below W2.heap.size W2 W → Hid (Below w.heap.size w W)) := Lib.hid fun W hW => Lib.hid (HB3.out.trans (hW.mono HB3.out.size))
        have HB0 : Hid (Below W2.heap.size W2 W2) := Lib.hid (Below.refl _ _)
        obtain ⟨s0, s1, s2⟩ := HSS.out W2 HB0.out
        clear b3 HFd HFt HBk HRc HC HB1 HB2 hbw
        go_wp2_with fail
        go_region_held3 (fun w' => w'.cell? ⟨g4, o4 + j * 11 + 10, none⟩ = some (.slice A4 kids.length c4) ∧ w'.cell? ⟨g4, o4 + j * 11, none⟩ = some (.int .i64 k) ∧ Below W2.heap.size W2 w')
          (first | exact HSS.out _ b1 | exact HSS.out _ HB0.out.drew | go_keep)
          (first
            | (go_at_call 27; (with_reducible refine (HC1.out _ (by assumption : _ ∧ _ ∧ Below W2.heap.size W2 _).2.2).mono ?_); rintro e W3 ⟨rfl, b1⟩))
        all_goals
          go_wp2_with fail
          go_roundw
          case rel => exact ⟨j + 1, by go_num, by omega, (HEND.out _ b1).out⟩
          case measure => simp [intOf]; omega
      · go_wp2_with fail
        go_ret
        exact ⟨rfl, hbw⟩

/-- tree.Blocks. -/
theorem f_Blocks (bs : List BkT) (hw : WfK 16 0 bs) (h100 : bs.length ≤ 100) (A : Option Addr) (nn c : Nat) (S : Nat → Prop) (w : World) (hK : KidsV w S (.slice A nn c) bs) (hS : ∀ g, S g → g < w.heap.size) :
    Calls Tryz.prog 19 #[.slice A nn c] w fun e w' => e = .returned (.int .i64 0) ∧ Below w.heap.size w w' := by
  have HC : Hid (Calls Tryz.prog 27 #[.slice A nn c, .int .i64 0, .int .i64 0] w fun e w' => e = .returned (.int .i64 0) ∧ Below w.heap.size w w') := Lib.hid (f_blocks 16 0 0 bs rfl (by decide) hw h100 A nn c S w hK hS)
  clear hw hK hS
  go_enter Tryz.func19, Tryz.ntmps19
  go_wp2_with fail
  ((with_reducible refine (HC.out).mono ?_))
  rintro e w1 ⟨rfl, b1⟩
  go_wp2_with fail
  go_ret
  exact ⟨rfl, b1⟩
end Go.Proofs.YtpoafhgbhnblmaaGreatDoor
