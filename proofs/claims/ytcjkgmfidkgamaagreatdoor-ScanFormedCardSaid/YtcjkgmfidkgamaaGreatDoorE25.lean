/-
  Texts of the proof, put together (what this law reaches): ScVH, ScTC, ScTH, ScTJ, ScTM, ScVI, ScVJ, Row.
-/
import Derived.Test.YtcjkgmfidkgamaaGreatDoorE09
import Derived.Test.YtcjkgmfidkgamaaGreatDoorE23
import Derived.Test.YtcjkgmfidkgamaaGreatDoorE06
import Derived.Test.YtcjkgmfidkgamaaGreatDoorE13
import Derived.Test.YtcjkgmfidkgamaaGreatDoorE04
import Derived.Test.YtcjkgmfidkgamaaGreatDoorE02
import Derived.Test.YtcjkgmfidkgamaaGreatDoorE05
import Derived.Deep.DeepCutAuto
import Derived.Test.YtcjkgmfidkgamaaGreatDoorE03
import Derived.BigQuiet
import Derived.Test.YtcjkgmfidkgamaaGreatDoorE22
import Derived.Deep.MidRow
import Derived.Great.BuildSlice
import Derived.Deep.CutRange
import Derived.Test.YtcjkgmfidkgamaaGreatDoorE21
import Derived.Test.YtcjkgmfidkgamaaGreatDoorE24
import Derived.Below
import Derived.ChangeSame
import Derived.ProofKit
set_option linter.unusedVariables false
set_option linter.unusedSimpArgs false
namespace Go.Proofs.YtcjkgmfidkgamaaGreatDoor
open Go.RowKit Go.Pub
theorem bt_ne {t : ByteArray} {i : Nat} {m : Nat} (hm : m < 256) (h : t.get! i ≠ UInt8.ofNat m) : bt t i ≠ m := fun e => h (by rw [← e]; unfold bt; rw [UInt8.ofNat_toNat])
theorem has_bad (t : ByteArray) (w : World) (hs : t.size ≤ 1000000) (h : ∀ b ∈ bytesL t, bad7 b = false) : Calls Tryz.prog 135 #[.string t, .string ⟨#[91, 93, 59, 64, 123, 36, 96]⟩] w fun e w' => e = .returned (.bool false) ∧ Below w.heap.size w w' :=
  r4_has t ⟨#[91, 93, 59, 64, 123, 36, 96]⟩ w hs (by decide) fun i hi k hk => by
    have hb := h (t.get! i) (List.mem_of_getElem? (byte9_at t i hi))
    unfold bad7 at hb
    simp only [Bool.or_eq_false_iff, beq_eq_false_iff_ne] at hb
    obtain ⟨⟨⟨⟨⟨⟨x0, x1⟩, x2⟩, x3⟩, x4⟩, x5⟩, x6⟩ := hb
    have hk : k < 7 := hk
    rcases (by omega : k = 0 ∨ k = 1 ∨ k = 2 ∨ k = 3 ∨ k = 4 ∨ k = 5 ∨ k = 6) with rfl | rfl | rfl | rfl | rfl | rfl | rfl
    · exact bt_ne (m := 91) (by decide) x0
    · exact bt_ne (m := 93) (by decide) x1
    · exact bt_ne (m := 59) (by decide) x2
    · exact bt_ne (m := 64) (by decide) x3
    · exact bt_ne (m := 123) (by decide) x4
    · exact bt_ne (m := 36) (by decide) x5
    · exact bt_ne (m := 96) (by decide) x6
theorem has_arg (t : ByteArray) (w : World) (hs : t.size ≤ 1000000) (h : ∀ b ∈ bytesL t, b ≠ 124 ∧ b ≠ 123 ∧ b ≠ 125) : Calls Tryz.prog 135 #[.string t, .string ⟨#[124, 123, 125]⟩] w fun e w' => e = .returned (.bool false) ∧ Below w.heap.size w w' :=
  r4_has t ⟨#[124, 123, 125]⟩ w hs (by decide) fun i hi k hk => by
    obtain ⟨x0, x1, x2⟩ := h (t.get! i) (List.mem_of_getElem? (byte9_at t i hi))
    have hk : k < 3 := hk
    rcases (by omega : k = 0 ∨ k = 1 ∨ k = 2) with rfl | rfl | rfl
    · exact bt_ne (m := 124) (by decide) x0
    · exact bt_ne (m := 123) (by decide) x1
    · exact bt_ne (m := 125) (by decide) x2
set_option maxRecDepth 100000 in
set_option maxHeartbeats 4000000 in
theorem r4_cites (cs : List CitL) (A : Option Addr) (c : Nat) (S : Nat → Prop) (w : World) (hr : ReadsS w S 4 A cs.length (citCs cs)) (hS : ∀ g, S g → g < w.heap.size) (h0 : cs ≠ []) (h : ∀ c ∈ cs, nameB c.key = true ∧ PartOk c.pre ∧ PartOk c.suf) (hz : ∀ c : CitL, c ∈ cs → c.key.size ≤ 1000000 ∧ c.pre.size ≤ 1000000 ∧ c.suf.size ≤ 1000000) :
    Calls Tryz.prog 99 #[.slice A cs.length c] w fun e w' => e = .returned (.int .i64 0) ∧ Below w.heap.size w w' := by
  have hpos : 0 < cs.length := List.length_pos_iff.2 h0
  have hlen := hr.1.2
  unfold maxLen at hlen
  have HC := Lib.hid fun W (hb : Below w.heap.size w W) => hr.keep (S' := fun _ => True) (fun g hg => hb.block g (hS g hg)) fun _ _ => trivial
  have HH := Lib.hid h
  have HZ := Lib.hid hz
  have z0 : ((cs.length : Int) == 0) = false := beq_eq_false_iff_ne.2 (by omega)
  obtain ⟨g, o, hA, _, _⟩ := hr.row hpos (by decide)
  subst hA
  clear hr hS h0 h hz
  go_enter Tryz.func99, Tryz.ntmps99
  go_wp2_with fail
  go_loopw [3] (fun v3 wr => ∃ i : Nat, v3 = .int .i64 i ∧ i ≤ cs.length ∧ Hid (Below w.heap.size w wr)) (fun v3 _ => cs.length - (intOf v3).toNat)
  case atStart => exact ⟨0, rfl, Nat.zero_le _, Lib.hid (Below.refl _ _)⟩
  case round =>
    obtain ⟨i, rfl, hi, HB⟩ := hrel
    by_cases hl : i < cs.length
    · obtain ⟨g', o', e, k1⟩ := cits_look (HC.out _ HB.out) hpos
      injection e with e
      injection e with e1 e2 _
      subst e1 e2
      obtain ⟨d0, d1, d2, d3⟩ := k1 i hl
      obtain ⟨hn, hp, hq⟩ := HH.out cs[i] (List.getElem_mem hl)
      obtain ⟨s0, s1, s2⟩ := HZ.out cs[i] (List.getElem_mem hl)
      generalize hci : cs[i] = ci at *
      obtain ⟨x0, x1, x2, x3⟩ := ci
      simp only [] at d0 d1 d2 d3 hn hp hq s0 s1 s2
      have HNm := Lib.hid fun W => rname_any x0 W (by omega)
      rw [hn] at HNm
      have HL1 := Lib.hid fun W => r4_line x1 W s1 hp.1
      have HT1 := Lib.hid fun W => r4_trim x1 W s1 hp.2.1
      have HH1 := Lib.hid fun W => has_bad x1 W s1 hp.2.2
      have HL2 := Lib.hid fun W => r4_line x2 W s2 hq.1
      have HT2 := Lib.hid fun W => r4_trim x2 W s2 hq.2.1
      have HH2 := Lib.hid fun W => has_bad x2 W s2 hq.2.2
      have HBX : Hid (∀ W : World, Below (wr.alloc (.cells #[.string x0, .string x1, .string x2, .bool x3] 47)).heap.size (wr.alloc (.cells #[.string x0, .string x1, .string x2, .bool x3] 47)) W → Blk W wr.heap.size 47 #[.string x0, .string x1, .string x2, .bool x3] ∧ Below wr.heap.size wr W) := Lib.hid fun W hb => by
        have h1 := Blk.new wr 47 #[.string x0, .string x1, .string x2, .bool x3]
        exact ⟨h1.below hb h1.lt, ((Below.refl _ wr).alloc (Nat.le_refl _) _).trans (hb.mono (by simp))⟩
      clear hci k1 HC HH HZ hn hp hq
      go_wp2_with fail
      ((with_reducible refine (HNm.out _).mono ?_))
      rintro e w1 ⟨rfl, rfl⟩
      go_wp2_with fail
      ((with_reducible refine (HL1.out _).mono ?_))
      rintro e w1 ⟨rfl, b1⟩
      have X1 := Lib.hid b1
      have y1 : w1.cell? ⟨wr.heap.size, 1, none⟩ = some (.string x1) := (HBX.out _ X1.out).1.cell 1
      clear b1
      go_wp2_with fail
      ((with_reducible refine (HT1.out _).mono ?_))
      rintro e w2 ⟨rfl, rfl⟩
      go_wp2_with fail
      ((with_reducible refine (HH1.out _).mono ?_))
      rintro e w2 ⟨rfl, b2⟩
      have X2 := Lib.hid (X1.out.trans (b2.mono X1.out.size))
      have y2 : w2.cell? ⟨wr.heap.size, 2, none⟩ = some (.string x2) := (HBX.out _ X2.out).1.cell 2
      clear b2 y1
      go_wp2_with fail
      ((with_reducible refine (HL2.out _).mono ?_))
      rintro e w3 ⟨rfl, b3⟩
      have X3 := Lib.hid (X2.out.trans (b3.mono X2.out.size))
      have y3 : w3.cell? ⟨wr.heap.size, 2, none⟩ = some (.string x2) := (HBX.out _ X3.out).1.cell 2
      clear b3 y2
      go_wp2_with fail
      ((with_reducible refine (HT2.out _).mono ?_))
      rintro e w4 ⟨rfl, rfl⟩
      go_wp2_with fail
      ((with_reducible refine (HH2.out _).mono ?_))
      rintro e w4 ⟨rfl, b4⟩
      have X4 := Lib.hid (X3.out.trans (b4.mono X3.out.size))
      have HB4 := Lib.hid (HB.out.trans ((HBX.out _ X4.out).2.mono HB.out.size))
      clear b4 y3
      go_wp2_with fail
      go_roundw
      case rel => exact ⟨i + 1, by go_num, by omega, HB4⟩
      case measure => simp [intOf]; omega
    · clear HC HH HZ
      go_wp2_with fail
      go_ret
      exact ⟨rfl, HB.out⟩

set_option maxRecDepth 100000 in
set_option maxHeartbeats 4000000 in
theorem r4_namedA (k : Nat) (hk : k ≠ 14) (zs : List ByteArray) (S : Nat → Prop) (t : ByteArray) (A1 : Option Addr) (c1 : Nat) (A2 : Option Addr) (c2 : Nat) (w : World) (hr : ReadsS w S 1 A1 zs.length (strs zs)) (hS : ∀ g, S g → g < w.heap.size) (h8 : zs.length ≤ 8) (hz : ∀ a ∈ zs, ArgOk a) (hsz : ∀ a ∈ zs, a.size ≤ 1000000) (hn : nameB t = true) (ht : t.size ≤ 1000000) : Calls Tryz.prog 98 #[.agg #[.int .i64 (k : Nat), .string t, .string ⟨#[]⟩, .string ⟨#[]⟩, .string ⟨#[]⟩, .slice none 0 0, .slice none 0 0, (.slice A1 zs.length c1), .slice A2 0 c2, .slice none 0 0]] w fun e w' => e = .returned (.int .i64 0) ∧ Below w.heap.size w w' := by
  have HNm := Lib.hid fun W => rname_any t W (by omega)
  rw [hn] at HNm
  have z14 : ((k : Int) == 14) = false := beq_eq_false_iff_ne.2 (by omega)
  have HC := Lib.hid fun W (hb : Below w.heap.size w W) => hr.keep (S' := fun _ => True) (fun g hg => hb.block g (hS g hg)) fun _ _ => trivial
  have HZ := Lib.hid hz
  have HSZ := Lib.hid hsz
  clear hr hS hz hsz hk
  have HBX : Hid (∀ W : World, Below (w.alloc (.cells #[.int .i64 (k : Nat), .string t, .string ⟨#[]⟩, .string ⟨#[]⟩, .string ⟨#[]⟩, .slice none 0 0, .slice none 0 0, (.slice A1 zs.length c1), .slice A2 0 c2, .slice none 0 0] 34)).heap.size (w.alloc (.cells #[.int .i64 (k : Nat), .string t, .string ⟨#[]⟩, .string ⟨#[]⟩, .string ⟨#[]⟩, .slice none 0 0, .slice none 0 0, (.slice A1 zs.length c1), .slice A2 0 c2, .slice none 0 0] 34)) W → Blk W w.heap.size 34 #[.int .i64 (k : Nat), .string t, .string ⟨#[]⟩, .string ⟨#[]⟩, .string ⟨#[]⟩, .slice none 0 0, .slice none 0 0, (.slice A1 zs.length c1), .slice A2 0 c2, .slice none 0 0] ∧ Below w.heap.size w W) := Lib.hid fun W hb => by
    have h1 := Blk.new w 34 #[.int .i64 (k : Nat), .string t, .string ⟨#[]⟩, .string ⟨#[]⟩, .string ⟨#[]⟩, .slice none 0 0, .slice none 0 0, (.slice A1 zs.length c1), .slice A2 0 c2, .slice none 0 0]
    exact ⟨h1.below hb h1.lt, ((Below.refl _ w).alloc (Nat.le_refl _) _).trans (hb.mono (by simp))⟩
  have X0 : Hid (∀ V : World, Below V.heap.size V V) := Lib.hid fun V => Below.refl _ _
  clear hn
  go_enter Tryz.func98, Tryz.ntmps98
  go_wp2_with fail
  ((with_reducible refine (HNm.out _).mono ?_))
  rintro e w1 ⟨rfl, rfl⟩
  go_wp2_with fail
  go_loopw [3] (fun v3 wr => ∃ i : Nat, v3 = .int .i64 i ∧ i ≤ zs.length ∧ Hid (Below (w.alloc (.cells #[.int .i64 (k : Nat), .string t, .string ⟨#[]⟩, .string ⟨#[]⟩, .string ⟨#[]⟩, .slice none 0 0, .slice none 0 0, (.slice A1 zs.length c1), .slice A2 0 c2, .slice none 0 0] 34)).heap.size (w.alloc (.cells #[.int .i64 (k : Nat), .string t, .string ⟨#[]⟩, .string ⟨#[]⟩, .string ⟨#[]⟩, .slice none 0 0, .slice none 0 0, (.slice A1 zs.length c1), .slice A2 0 c2, .slice none 0 0] 34)) wr)) (fun v3 _ => zs.length - (intOf v3).toNat)
  case atStart => exact ⟨0, rfl, Nat.zero_le _, Lib.hid (X0.out _)⟩
  case round =>
    obtain ⟨i, rfl, hi, HB⟩ := hrel
    obtain ⟨g1, g2⟩ := HBX.out _ HB.out
    have HW := Lib.hid g2
    have c7 : wr.cell? ⟨w.heap.size, 7, none⟩ = some (.slice A1 zs.length c1) := g1.cell 7
    clear g1 g2
    by_cases hl : i < zs.length
    · obtain ⟨G, o, rfl, -, hc⟩ := (HC.out _ HW.out).row (by omega) (by decide)
      have f1 := hc i _ (strs_at zs i hl)
      have h1 := HZ.out zs[i] (List.getElem_mem hl)
      have h2 := HSZ.out zs[i] (List.getElem_mem hl)
      have HL1 := Lib.hid fun W => r4_line zs[i] W h2 h1.1
      have HH1 := Lib.hid fun W => has_arg zs[i] W h2 h1.2
      have HK : Hid (∀ W, Below wr.heap.size wr W → (W.cell? ⟨w.heap.size, 7, none⟩ = some (.slice (some ⟨G, o, none⟩) zs.length c1) ∧ W.cell? ⟨G, o + i, none⟩ = some (.string zs[i]))) := Lib.hid fun W hb => ⟨(hb.cell (p := ⟨w.heap.size, 7, none⟩) (World.block_lt_of_cell? _ _ c7)).trans c7, (hb.cell (p := ⟨G, o + i, none⟩) (World.block_lt_of_cell? _ _ f1)).trans f1⟩
      clear hc h1 h2 HC HZ HSZ
      generalize zs[i] = y at *
      go_wp2_with fail
      ((with_reducible refine (HL1.out _).mono ?_))
      rintro e w2 ⟨rfl, b2⟩
      obtain ⟨k7, kf⟩ := HK.out _ b2
      have X2 := Lib.hid (HB.out.trans (b2.mono HB.out.size))
      clear b2 c7 f1
      go_wp2_with fail
      ((with_reducible refine (HH1.out _).mono ?_))
      rintro e w3 ⟨rfl, b3⟩
      have X3 := Lib.hid (X2.out.trans (b3.mono X2.out.size))
      clear b3 k7 kf
      go_wp2_with fail
      go_roundw
      case rel => exact ⟨i + 1, by go_num, by omega, X3⟩
      case measure => simp [intOf]; omega
    · clear HC HZ HSZ
      go_wp2_with fail
      go_ret
      exact ⟨rfl, HW.out⟩

set_option maxRecDepth 100000 in
set_option maxHeartbeats 4000000 in
theorem r4_namedB (t : ByteArray) (A1 : Option Addr) (c1 : Nat) (A2 : Option Addr) (c2 : Nat) (w : World) (hn : nameB t = true) (ht : t.size ≤ 1000000) : Calls Tryz.prog 98 #[.agg #[.int .i64 14, .string t, .string ⟨#[]⟩, .string ⟨#[]⟩, .string ⟨#[]⟩, .slice none 0 0, .slice none 0 0, (.slice A1 0 c1), .slice A2 0 c2, .slice none 0 0]] w fun e w' => e = .returned (.int .i64 0) ∧ Below w.heap.size w w' := by
  have HNm := Lib.hid fun W => rname_any t W (by omega)
  rw [hn] at HNm
  have q0 : ((⟨#[]⟩ : ByteArray).toList != ([] : List UInt8)) = false := by rw [str_nil (x := ⟨#[]⟩) rfl]; rfl
  have q1 : ((⟨#[112, 97, 103, 101]⟩ : ByteArray).toList != ([] : List UInt8)) = true := bne_iff_ne.2 (str_ne (by decide))
  have q2 : ((⟨#[112, 97, 103, 101]⟩ : ByteArray).toList != (⟨#[112, 97, 103, 101]⟩ : ByteArray).toList) = false := by simp
  have HBX : Hid (∀ W : World, Below (w.alloc (.cells #[.int .i64 14, .string t, .string ⟨#[]⟩, .string ⟨#[]⟩, .string ⟨#[]⟩, .slice none 0 0, .slice none 0 0, (.slice A1 0 c1), .slice A2 0 c2, .slice none 0 0] 34)).heap.size (w.alloc (.cells #[.int .i64 14, .string t, .string ⟨#[]⟩, .string ⟨#[]⟩, .string ⟨#[]⟩, .slice none 0 0, .slice none 0 0, (.slice A1 0 c1), .slice A2 0 c2, .slice none 0 0] 34)) W → Blk W w.heap.size 34 #[.int .i64 14, .string t, .string ⟨#[]⟩, .string ⟨#[]⟩, .string ⟨#[]⟩, .slice none 0 0, .slice none 0 0, (.slice A1 0 c1), .slice A2 0 c2, .slice none 0 0] ∧ Below w.heap.size w W) := Lib.hid fun W hb => by
    have h1 := Blk.new w 34 #[.int .i64 14, .string t, .string ⟨#[]⟩, .string ⟨#[]⟩, .string ⟨#[]⟩, .slice none 0 0, .slice none 0 0, (.slice A1 0 c1), .slice A2 0 c2, .slice none 0 0]
    exact ⟨h1.below hb h1.lt, ((Below.refl _ w).alloc (Nat.le_refl _) _).trans (hb.mono (by simp))⟩
  have X0 : Hid (∀ V : World, Below V.heap.size V V) := Lib.hid fun V => Below.refl _ _
  clear hn
  go_enter Tryz.func98, Tryz.ntmps98
  go_wp2_with fail
  ((with_reducible refine (HNm.out _).mono ?_))
  rintro e w1 ⟨rfl, rfl⟩
  go_wp2_with fail
  go_loopw [3] (fun v3 wr => ∃ i : Nat, v3 = .int .i64 i ∧ i ≤ 0 ∧ Hid (Below (w.alloc (.cells #[.int .i64 14, .string t, .string ⟨#[]⟩, .string ⟨#[]⟩, .string ⟨#[]⟩, .slice none 0 0, .slice none 0 0, (.slice A1 0 c1), .slice A2 0 c2, .slice none 0 0] 34)).heap.size (w.alloc (.cells #[.int .i64 14, .string t, .string ⟨#[]⟩, .string ⟨#[]⟩, .string ⟨#[]⟩, .slice none 0 0, .slice none 0 0, (.slice A1 0 c1), .slice A2 0 c2, .slice none 0 0] 34)) wr)) (fun v3 _ => 0 - (intOf v3).toNat)
  case atStart => exact ⟨0, rfl, Nat.zero_le _, Lib.hid (X0.out _)⟩
  case round =>
    obtain ⟨i, rfl, hi, HB⟩ := hrel
    obtain ⟨g1, g2⟩ := HBX.out _ HB.out
    have HW := Lib.hid g2
    have c7 : wr.cell? ⟨w.heap.size, 7, none⟩ = some (.slice A1 0 c1) := g1.cell 7
    clear g1 g2
    obtain rfl : i = 0 := by omega
    go_wp2_with fail
    go_ret
    exact ⟨rfl, HW.out⟩

set_option maxRecDepth 100000 in
set_option maxHeartbeats 4000000 in
theorem r4_namedC (t : ByteArray) (A1 : Option Addr) (c1 : Nat) (A2 : Option Addr) (c2 : Nat) (w : World) (hn : nameB t = true) (ht : t.size ≤ 1000000) : Calls Tryz.prog 98 #[.agg #[.int .i64 14, .string t, .string ⟨#[]⟩, .string ⟨#[112, 97, 103, 101]⟩, .string ⟨#[]⟩, .slice none 0 0, .slice none 0 0, (.slice A1 0 c1), .slice A2 0 c2, .slice none 0 0]] w fun e w' => e = .returned (.int .i64 0) ∧ Below w.heap.size w w' := by
  have HNm := Lib.hid fun W => rname_any t W (by omega)
  rw [hn] at HNm
  have q0 : ((⟨#[]⟩ : ByteArray).toList != ([] : List UInt8)) = false := by rw [str_nil (x := ⟨#[]⟩) rfl]; rfl
  have q1 : ((⟨#[112, 97, 103, 101]⟩ : ByteArray).toList != ([] : List UInt8)) = true := bne_iff_ne.2 (str_ne (by decide))
  have q2 : ((⟨#[112, 97, 103, 101]⟩ : ByteArray).toList != (⟨#[112, 97, 103, 101]⟩ : ByteArray).toList) = false := by simp
  have HBX : Hid (∀ W : World, Below (w.alloc (.cells #[.int .i64 14, .string t, .string ⟨#[]⟩, .string ⟨#[112, 97, 103, 101]⟩, .string ⟨#[]⟩, .slice none 0 0, .slice none 0 0, (.slice A1 0 c1), .slice A2 0 c2, .slice none 0 0] 34)).heap.size (w.alloc (.cells #[.int .i64 14, .string t, .string ⟨#[]⟩, .string ⟨#[112, 97, 103, 101]⟩, .string ⟨#[]⟩, .slice none 0 0, .slice none 0 0, (.slice A1 0 c1), .slice A2 0 c2, .slice none 0 0] 34)) W → Blk W w.heap.size 34 #[.int .i64 14, .string t, .string ⟨#[]⟩, .string ⟨#[112, 97, 103, 101]⟩, .string ⟨#[]⟩, .slice none 0 0, .slice none 0 0, (.slice A1 0 c1), .slice A2 0 c2, .slice none 0 0] ∧ Below w.heap.size w W) := Lib.hid fun W hb => by
    have h1 := Blk.new w 34 #[.int .i64 14, .string t, .string ⟨#[]⟩, .string ⟨#[112, 97, 103, 101]⟩, .string ⟨#[]⟩, .slice none 0 0, .slice none 0 0, (.slice A1 0 c1), .slice A2 0 c2, .slice none 0 0]
    exact ⟨h1.below hb h1.lt, ((Below.refl _ w).alloc (Nat.le_refl _) _).trans (hb.mono (by simp))⟩
  have X0 : Hid (∀ V : World, Below V.heap.size V V) := Lib.hid fun V => Below.refl _ _
  clear hn
  go_enter Tryz.func98, Tryz.ntmps98
  go_wp2_with fail
  ((with_reducible refine (HNm.out _).mono ?_))
  rintro e w1 ⟨rfl, rfl⟩
  go_wp2_with fail
  go_loopw [3] (fun v3 wr => ∃ i : Nat, v3 = .int .i64 i ∧ i ≤ 0 ∧ Hid (Below (w.alloc (.cells #[.int .i64 14, .string t, .string ⟨#[]⟩, .string ⟨#[112, 97, 103, 101]⟩, .string ⟨#[]⟩, .slice none 0 0, .slice none 0 0, (.slice A1 0 c1), .slice A2 0 c2, .slice none 0 0] 34)).heap.size (w.alloc (.cells #[.int .i64 14, .string t, .string ⟨#[]⟩, .string ⟨#[112, 97, 103, 101]⟩, .string ⟨#[]⟩, .slice none 0 0, .slice none 0 0, (.slice A1 0 c1), .slice A2 0 c2, .slice none 0 0] 34)) wr)) (fun v3 _ => 0 - (intOf v3).toNat)
  case atStart => exact ⟨0, rfl, Nat.zero_le _, Lib.hid (X0.out _)⟩
  case round =>
    obtain ⟨i, rfl, hi, HB⟩ := hrel
    obtain ⟨g1, g2⟩ := HBX.out _ HB.out
    have HW := Lib.hid g2
    have c7 : wr.cell? ⟨w.heap.size, 7, none⟩ = some (.slice A1 0 c1) := g1.cell 7
    clear g1 g2
    obtain rfl : i = 0 := by omega
    go_wp2_with fail
    go_ret
    exact ⟨rfl, HW.out⟩

end Go.Proofs.YtcjkgmfidkgamaaGreatDoor
namespace Go.Proofs.YtcjkgmfidkgamaaGreatDoor
open Go.RowKit Go.Pub
/-- The result's block, and all that lay below it. -/
def Kp (w W : World) : Prop := Blk W w.heap.size 36 zPc ∧ Below w.heap.size w W
theorem Kp.init (w : World) : Kp w (w.alloc (.cells zPc 36)) := ⟨Blk.new w _ _, (Below.refl _ w).alloc (Nat.le_refl _) _⟩
theorem Kp.next {w W W' : World} (h : Kp w W) (hb : Below W.heap.size W W') : Kp w W' := ⟨h.1.below hb h.1.lt, h.2.trans (hb.mono h.2.size)⟩
end Go.Proofs.YtcjkgmfidkgamaaGreatDoor
namespace Go.Proofs.YtcjkgmfidkgamaaGreatDoor
open Go.RowKit Go.Pub
/-- The memory of a character reference that is being read. -/
structure EnW (w W : World) : Prop where
  kp : Kp w W
  names : Blk W (w.heap.size + 1) 9 #[.string ⟨#[38, 97, 109, 112, 59]⟩, .string ⟨#[38, 108, 116, 59]⟩, .string ⟨#[38, 103, 116, 59]⟩, .string ⟨#[38, 113, 117, 111, 116, 59]⟩]
  vals : Blk W (w.heap.size + 2) 9 #[.string ⟨#[38]⟩, .string ⟨#[60]⟩, .string ⟨#[62]⟩, .string ⟨#[34]⟩]
theorem EnW.start (w : World) : EnW w (((w.alloc (.cells zPc 36)).alloc (.cells #[.string ⟨#[38, 97, 109, 112, 59]⟩, .string ⟨#[38, 108, 116, 59]⟩, .string ⟨#[38, 103, 116, 59]⟩, .string ⟨#[38, 113, 117, 111, 116, 59]⟩] 9)).alloc (.cells #[.string ⟨#[38]⟩, .string ⟨#[60]⟩, .string ⟨#[62]⟩, .string ⟨#[34]⟩] 9)) := by
  refine ⟨⟨((Blk.new w _ _).alloc _).alloc _, ((((Below.refl _ w).alloc (Nat.le_refl _) _).alloc (by simp) _).alloc (by simp; omega) _)⟩, ?_, ?_⟩
  · have := Blk.new (w.alloc (.cells zPc 36)) 9 #[.string ⟨#[38, 97, 109, 112, 59]⟩, .string ⟨#[38, 108, 116, 59]⟩, .string ⟨#[38, 103, 116, 59]⟩, .string ⟨#[38, 113, 117, 111, 116, 59]⟩]
    rw [World.size_alloc] at this
    exact this.alloc _
  · have := Blk.new ((w.alloc (.cells zPc 36)).alloc (.cells #[.string ⟨#[38, 97, 109, 112, 59]⟩, .string ⟨#[38, 108, 116, 59]⟩, .string ⟨#[38, 103, 116, 59]⟩, .string ⟨#[38, 113, 117, 111, 116, 59]⟩] 9)) 9 #[.string ⟨#[38]⟩, .string ⟨#[60]⟩, .string ⟨#[62]⟩, .string ⟨#[34]⟩]
    simp only [World.size_alloc] at this
    exact this
theorem EnW.next {w W W' : World} (h : EnW w W) (hb : Below W.heap.size W W') : EnW w W' := ⟨h.kp.next hb, h.names.below hb h.names.lt, h.vals.below hb h.vals.lt⟩
end Go.Proofs.YtcjkgmfidkgamaaGreatDoor
namespace Go.Pub
/-- A list with others set from o on. -/
def setL : List Value → Nat → List Value → List Value
  | xs, _, [] => xs
  | xs, o, v :: r => setL (xs.set o v) (o + 1) r
theorem setL_app : ∀ (vs a b : List Value), b.length = vs.length → setL (a ++ b) a.length vs = a ++ vs
  | [], a, b, h => by
    have : b = [] := List.length_eq_zero_iff.1 h
    subst this; rfl
  | v :: r, a, b, h => by
    cases b with
    | nil => cases h
    | cons x b =>
      unfold setL
      rw [List.set_append_right _ _ (Nat.le_refl _), Nat.sub_self, List.set_cons_zero]
      have e : a ++ v :: b = (a ++ [v]) ++ b := by simp
      rw [e, show a.length + 1 = (a ++ [v]).length by simp, setL_app r (a ++ [v]) b (by simpa using h)]
      simp
end Go.Pub
namespace Go.Proofs.YtcjkgmfidkgamaaGreatDoor
open Go.RowKit Go.Pub
theorem heap_setCells (g k : Nat) (h : k ≠ g) : ∀ (vs : List Value) (o : Nat) (W : World), (W.setCells g o vs).heap[k]? = W.heap[k]?
  | [], _, _ => rfl
  | v :: r, o, W => by
    rw [World.setCells, heap_setCells g k h r (o + 1) _]
    exact Below.heap_setCell W ⟨g, o, none⟩ v k h
theorem size_setCells (g : Nat) : ∀ (vs : List Value) (o : Nat) (W : World), (W.setCells g o vs).heap.size = W.heap.size
  | [], _, _ => rfl
  | v :: r, o, W => by
    rw [World.setCells, size_setCells g r (o + 1) _]
    simp [World.setCell]
theorem own_setCells {base : Nat} {e : TypeId} {size g cap n : Nat} : ∀ (vs : List Value) (o : Nat) (xs : List Value) (W : World), W.ownsRow base e size (.slice (some ⟨g, 0, none⟩) n cap) n xs → (W.setCells g o vs).ownsRow base e size (.slice (some ⟨g, 0, none⟩) n cap) n (setL xs o vs)
  | [], _, _, _, h => h
  | v :: r, o, xs, W, h => by
    rw [World.setCells]
    unfold setL
    exact own_setCells r (o + 1) _ _ (h.stored o v).1
section
variable {w : World} {base : Nat} {ps : List PcL}
set_option maxHeartbeats 1000000 in
/-- The last piece is stored anew. -/
theorem PcOwn.swap {q p : PcL} {g cap : Nat} (h : PcOwn w base (.slice (some ⟨g, 0, none⟩) (ps.length + 1) cap) (ps ++ [q])) (h1 : p.inl.args = []) (h2 : p.inl.cites = []) :
    PcOwn (w.setCells g (ps.length * 18) (pcC p none 0 none 0).toList) base (.slice (some ⟨g, 0, none⟩) (ps.length + 1) cap) (ps ++ [p]) := by
  obtain ⟨S, vs, hS, hk, ho⟩ := h
  obtain ⟨vk, vq, rfl, hr, hq⟩ := hk.split
  rw [List.length_append, List.length_singleton] at ho
  have hf := hr.flat
  have hne : ∀ k, S k → k ≠ g := fun k hk e => (hS k hk).2.2 (by rw [e]; rfl)
  have hv : PcV (w.setCells g (ps.length * 18) (pcC p none 0 none 0).toList) S (pcC p none 0 none 0) p := ⟨none, 0, none, 0, rfl, InR.plain _ _ _ _ _ h1 h2⟩
  have h18 : (pcC p none 0 none 0).toList.length = 18 := rfl
  generalize pcC p none 0 none 0 = C at *
  have hq18 := hq.size
  have o1 := own_setCells C.toList (ps.length * 18) _ _ ho
  have e1 : (vk ++ [vq]).flatMap Array.toList = vk.flatMap Array.toList ++ vq.toList := by rw [List.flatMap_append, List.flatMap_singleton]
  have e2 : (vk ++ [C]).flatMap Array.toList = vk.flatMap Array.toList ++ C.toList := by rw [List.flatMap_append, List.flatMap_singleton]
  rw [e1, ← hf, setL_app _ _ _ (by omega), ← e2, hf] at o1
  refine ⟨S, vk ++ [C], fun k hk => ⟨(hS k hk).1, by rw [size_setCells]; exact (hS k hk).2.1, (hS k hk).2.2⟩, RepP.snoc hv (hr.keep (fun k hk => heap_setCells g k (hne k hk) _ _ _) fun _ h => h), ?_⟩
  rw [List.length_append, List.length_singleton]
  exact o1

end
theorem ScW.below {s : ByteArray} {W1 W W' : World} {i : Nat} {j : Bool} {acc : List PcL} {v : Value} (h : ScW s W1 i j acc v W) (hb : Below W.heap.size W W') : ScW s W1 i j acc v W' :=
  ⟨h.rest, h.ne, h.len, h.cov, h.own.below hb, h.bel.trans (hb.mono h.bel.size)⟩
end Go.Proofs.YtcjkgmfidkgamaaGreatDoor
namespace Go.Proofs.YtcjkgmfidkgamaaGreatDoor
open Go.RowKit Go.Pub
/-- A piece in an owned row, whole. -/
theorem PcOwn.mid {w : World} {base : Nat} {A : Option Addr} {n c : Nat} {ps : List PcL} (h : PcOwn w base (.slice A n c) ps) (k : Nat) (hk : k < ps.length) : ∃ (g : Nat) (A1 : Option Addr) (c1 : Nat) (A2 : Option Addr) (c2 : Nat) (S : Nat → Prop), A = some ⟨g, 0, none⟩ ∧ n = ps.length ∧ g < w.heap.size ∧ (∀ g, S g → g < w.heap.size) ∧ InR w S ps[k].inl A1 A2 ∧ w.rangeAt g (k * 18) (pcC ps[k] A1 c1 A2 c2).toList := by
  obtain ⟨S, vs, hS, hr, ho⟩ := h
  obtain ⟨g, cap, e, h1, h2⟩ := ho.form (by omega)
  injection e with e1 e2 e3
  subst e1 e2 e3
  obtain ⟨v, ⟨A1, c1, A2, c2, rfl, hir⟩, hat⟩ := hr.at_ k hk
  refine ⟨g, A1, c1, A2, c2, S, rfl, rfl, h2, fun g hg => (hS g hg).2.1, hir, fun j u hu => ?_⟩
  have hj : j < 18 := by
    have := (List.getElem?_eq_some_iff.1 hu).1
    have e : (pcC ps[k] A1 c1 A2 c2).toList.length = 18 := rfl
    omega
  rw [ho.cellAt _ (by omega), hat j hj, ← Array.getElem?_toList]
  exact hu
end Go.Proofs.YtcjkgmfidkgamaaGreatDoor
namespace Go.Proofs.YtcjkgmfidkgamaaGreatDoor
open Go.RowKit Go.Pub
set_option maxRecDepth 100000 in
set_option maxHeartbeats 4000000 in
theorem r4_oneT1 (t : ByteArray) (A1 : Option Addr) (c1 : Nat) (A2 : Option Addr) (c2 : Nat) (w : World) (ht : t.size ≤ 1000000) (h : TextOk t) : Calls Tryz.prog 57 #[.agg #[.int .i64 1, .string t, .string ⟨#[]⟩, .string ⟨#[]⟩, .string ⟨#[]⟩, .slice none 0 0, .slice none 0 0, .slice A1 0 c1, .slice A2 0 c2, .slice none 0 0], .int .i64 0, .bool true, .bool true] w fun e w' => e = .returned (.int .i64 0) ∧ Below w.heap.size w w' := by
  have HF1 := Lib.hid fun W => r4_fieldsA 1 (by decide) t A1 c1 A2 c2 W
  have HBX : Hid (∀ W : World, Below (w.alloc (.cells #[.int .i64 1, .string t, .string ⟨#[]⟩, .string ⟨#[]⟩, .string ⟨#[]⟩, .slice none 0 0, .slice none 0 0, .slice A1 0 c1, .slice A2 0 c2, .slice none 0 0] 34)).heap.size (w.alloc (.cells #[.int .i64 1, .string t, .string ⟨#[]⟩, .string ⟨#[]⟩, .string ⟨#[]⟩, .slice none 0 0, .slice none 0 0, .slice A1 0 c1, .slice A2 0 c2, .slice none 0 0] 34)) W → Blk W w.heap.size 34 #[.int .i64 1, .string t, .string ⟨#[]⟩, .string ⟨#[]⟩, .string ⟨#[]⟩, .slice none 0 0, .slice none 0 0, .slice A1 0 c1, .slice A2 0 c2, .slice none 0 0] ∧ Below w.heap.size w W) := Lib.hid fun W hb => by
    have h1 := Blk.new w 34 #[.int .i64 1, .string t, .string ⟨#[]⟩, .string ⟨#[]⟩, .string ⟨#[]⟩, .slice none 0 0, .slice none 0 0, .slice A1 0 c1, .slice A2 0 c2, .slice none 0 0]
    exact ⟨h1.below hb h1.lt, ((Below.refl _ w).alloc (Nat.le_refl _) _).trans (hb.mono (by simp))⟩
  have HL := Lib.hid fun W => r4_line t W ht h.2
  have y1 := str_ne h.1
  have y3 : (t.toList == ([] : List UInt8)) = false := beq_eq_false_iff_ne.2 y1
  have y2 : t.toList.isEmpty = false := by rw [List.isEmpty_eq_false_iff]; exact y1
  clear h y1
  go_enter Tryz.func57, Tryz.ntmps57
  go_wp2_with fail
  refine (HF1.out _).mono ?_
  rintro e w1 ⟨rfl, b1⟩
  have X1 := Lib.hid b1
  obtain ⟨g1, g2⟩ := HBX.out _ b1
  have HW1 := Lib.hid g2
  obtain ⟨a0, a1, a2, a3, a4, a5, a6, a7, a8, a9, -⟩ := in_facts g1
  clear b1 g1 g2 HF1
  go_wp2_with fail
  ((with_reducible refine (HL.out _).mono ?_))
  rintro e w2 ⟨rfl, b2⟩
  have HW2 := Lib.hid (HW1.out.trans (b2.mono HW1.out.size))
  obtain ⟨g1, g2⟩ := HBX.out _ (X1.out.trans (b2.mono X1.out.size))
  clear a0 a1 a2 a3 a4 a5 a6 a7 a8 a9
  obtain ⟨a0, a1, a2, a3, a4, a5, a6, a7, a8, a9, -⟩ := in_facts g1
  clear b2 g1 g2
  go_wp2_with fail
  go_ret
  exact ⟨rfl, HW2.out⟩

set_option maxRecDepth 100000 in
set_option maxHeartbeats 4000000 in
theorem r4_oneT4 (t : ByteArray) (A1 : Option Addr) (c1 : Nat) (A2 : Option Addr) (c2 : Nat) (w : World) (ht : t.size ≤ 1000000) (h : TextOk t) : Calls Tryz.prog 57 #[.agg #[.int .i64 4, .string t, .string ⟨#[]⟩, .string ⟨#[]⟩, .string ⟨#[]⟩, .slice none 0 0, .slice none 0 0, .slice A1 0 c1, .slice A2 0 c2, .slice none 0 0], .int .i64 0, .bool true, .bool true] w fun e w' => e = .returned (.int .i64 0) ∧ Below w.heap.size w w' := by
  have HF1 := Lib.hid fun W => r4_fieldsA 4 (by decide) t A1 c1 A2 c2 W
  have HBX : Hid (∀ W : World, Below (w.alloc (.cells #[.int .i64 4, .string t, .string ⟨#[]⟩, .string ⟨#[]⟩, .string ⟨#[]⟩, .slice none 0 0, .slice none 0 0, .slice A1 0 c1, .slice A2 0 c2, .slice none 0 0] 34)).heap.size (w.alloc (.cells #[.int .i64 4, .string t, .string ⟨#[]⟩, .string ⟨#[]⟩, .string ⟨#[]⟩, .slice none 0 0, .slice none 0 0, .slice A1 0 c1, .slice A2 0 c2, .slice none 0 0] 34)) W → Blk W w.heap.size 34 #[.int .i64 4, .string t, .string ⟨#[]⟩, .string ⟨#[]⟩, .string ⟨#[]⟩, .slice none 0 0, .slice none 0 0, .slice A1 0 c1, .slice A2 0 c2, .slice none 0 0] ∧ Below w.heap.size w W) := Lib.hid fun W hb => by
    have h1 := Blk.new w 34 #[.int .i64 4, .string t, .string ⟨#[]⟩, .string ⟨#[]⟩, .string ⟨#[]⟩, .slice none 0 0, .slice none 0 0, .slice A1 0 c1, .slice A2 0 c2, .slice none 0 0]
    exact ⟨h1.below hb h1.lt, ((Below.refl _ w).alloc (Nat.le_refl _) _).trans (hb.mono (by simp))⟩
  have HL := Lib.hid fun W => r4_line t W ht h.2
  have y1 := str_ne h.1
  have y3 : (t.toList == ([] : List UInt8)) = false := beq_eq_false_iff_ne.2 y1
  have y2 : t.toList.isEmpty = false := by rw [List.isEmpty_eq_false_iff]; exact y1
  clear h y1
  go_enter Tryz.func57, Tryz.ntmps57
  go_wp2_with fail
  refine (HF1.out _).mono ?_
  rintro e w1 ⟨rfl, b1⟩
  have X1 := Lib.hid b1
  obtain ⟨g1, g2⟩ := HBX.out _ b1
  have HW1 := Lib.hid g2
  obtain ⟨a0, a1, a2, a3, a4, a5, a6, a7, a8, a9, -⟩ := in_facts g1
  clear b1 g1 g2 HF1
  go_wp2_with fail
  ((with_reducible refine (HL.out _).mono ?_))
  rintro e w2 ⟨rfl, b2⟩
  have HW2 := Lib.hid (HW1.out.trans (b2.mono HW1.out.size))
  obtain ⟨g1, g2⟩ := HBX.out _ (X1.out.trans (b2.mono X1.out.size))
  clear a0 a1 a2 a3 a4 a5 a6 a7 a8 a9
  obtain ⟨a0, a1, a2, a3, a4, a5, a6, a7, a8, a9, -⟩ := in_facts g1
  clear b2 g1 g2
  go_wp2_with fail
  go_ret
  exact ⟨rfl, HW2.out⟩

set_option maxRecDepth 100000 in
set_option maxHeartbeats 4000000 in
theorem r4_oneT5 (t : ByteArray) (A1 : Option Addr) (c1 : Nat) (A2 : Option Addr) (c2 : Nat) (w : World) (ht : t.size ≤ 1000000) (h : TextOk t) : Calls Tryz.prog 57 #[.agg #[.int .i64 5, .string t, .string ⟨#[]⟩, .string ⟨#[]⟩, .string ⟨#[]⟩, .slice none 0 0, .slice none 0 0, .slice A1 0 c1, .slice A2 0 c2, .slice none 0 0], .int .i64 0, .bool true, .bool true] w fun e w' => e = .returned (.int .i64 0) ∧ Below w.heap.size w w' := by
  have HF1 := Lib.hid fun W => r4_fieldsA 5 (by decide) t A1 c1 A2 c2 W
  have HBX : Hid (∀ W : World, Below (w.alloc (.cells #[.int .i64 5, .string t, .string ⟨#[]⟩, .string ⟨#[]⟩, .string ⟨#[]⟩, .slice none 0 0, .slice none 0 0, .slice A1 0 c1, .slice A2 0 c2, .slice none 0 0] 34)).heap.size (w.alloc (.cells #[.int .i64 5, .string t, .string ⟨#[]⟩, .string ⟨#[]⟩, .string ⟨#[]⟩, .slice none 0 0, .slice none 0 0, .slice A1 0 c1, .slice A2 0 c2, .slice none 0 0] 34)) W → Blk W w.heap.size 34 #[.int .i64 5, .string t, .string ⟨#[]⟩, .string ⟨#[]⟩, .string ⟨#[]⟩, .slice none 0 0, .slice none 0 0, .slice A1 0 c1, .slice A2 0 c2, .slice none 0 0] ∧ Below w.heap.size w W) := Lib.hid fun W hb => by
    have h1 := Blk.new w 34 #[.int .i64 5, .string t, .string ⟨#[]⟩, .string ⟨#[]⟩, .string ⟨#[]⟩, .slice none 0 0, .slice none 0 0, .slice A1 0 c1, .slice A2 0 c2, .slice none 0 0]
    exact ⟨h1.below hb h1.lt, ((Below.refl _ w).alloc (Nat.le_refl _) _).trans (hb.mono (by simp))⟩
  have HL := Lib.hid fun W => r4_line t W ht h.2
  have y1 := str_ne h.1
  have y3 : (t.toList == ([] : List UInt8)) = false := beq_eq_false_iff_ne.2 y1
  have y2 : t.toList.isEmpty = false := by rw [List.isEmpty_eq_false_iff]; exact y1
  clear h y1
  go_enter Tryz.func57, Tryz.ntmps57
  go_wp2_with fail
  refine (HF1.out _).mono ?_
  rintro e w1 ⟨rfl, b1⟩
  have X1 := Lib.hid b1
  obtain ⟨g1, g2⟩ := HBX.out _ b1
  have HW1 := Lib.hid g2
  obtain ⟨a0, a1, a2, a3, a4, a5, a6, a7, a8, a9, -⟩ := in_facts g1
  clear b1 g1 g2 HF1
  go_wp2_with fail
  ((with_reducible refine (HL.out _).mono ?_))
  rintro e w2 ⟨rfl, b2⟩
  have HW2 := Lib.hid (HW1.out.trans (b2.mono HW1.out.size))
  obtain ⟨g1, g2⟩ := HBX.out _ (X1.out.trans (b2.mono X1.out.size))
  clear a0 a1 a2 a3 a4 a5 a6 a7 a8 a9
  obtain ⟨a0, a1, a2, a3, a4, a5, a6, a7, a8, a9, -⟩ := in_facts g1
  clear b2 g1 g2
  go_wp2_with fail
  go_ret
  exact ⟨rfl, HW2.out⟩

set_option maxRecDepth 100000 in
set_option maxHeartbeats 4000000 in
theorem r4_oneN12 (t : ByteArray) (A1 : Option Addr) (c1 : Nat) (A2 : Option Addr) (c2 : Nat) (w : World) (ht : t.size ≤ 1000000) (h : nameB t = true) : Calls Tryz.prog 57 #[.agg #[.int .i64 12, .string t, .string ⟨#[]⟩, .string ⟨#[]⟩, .string ⟨#[]⟩, .slice none 0 0, .slice none 0 0, .slice A1 0 c1, .slice A2 0 c2, .slice none 0 0], .int .i64 0, .bool true, .bool true] w fun e w' => e = .returned (.int .i64 0) ∧ Below w.heap.size w w' := by
  have HF1 := Lib.hid fun W => r4_fieldsA 12 (by decide) t A1 c1 A2 c2 W
  have HBX : Hid (∀ W : World, Below (w.alloc (.cells #[.int .i64 12, .string t, .string ⟨#[]⟩, .string ⟨#[]⟩, .string ⟨#[]⟩, .slice none 0 0, .slice none 0 0, .slice A1 0 c1, .slice A2 0 c2, .slice none 0 0] 34)).heap.size (w.alloc (.cells #[.int .i64 12, .string t, .string ⟨#[]⟩, .string ⟨#[]⟩, .string ⟨#[]⟩, .slice none 0 0, .slice none 0 0, .slice A1 0 c1, .slice A2 0 c2, .slice none 0 0] 34)) W → Blk W w.heap.size 34 #[.int .i64 12, .string t, .string ⟨#[]⟩, .string ⟨#[]⟩, .string ⟨#[]⟩, .slice none 0 0, .slice none 0 0, .slice A1 0 c1, .slice A2 0 c2, .slice none 0 0] ∧ Below w.heap.size w W) := Lib.hid fun W hb => by
    have h1 := Blk.new w 34 #[.int .i64 12, .string t, .string ⟨#[]⟩, .string ⟨#[]⟩, .string ⟨#[]⟩, .slice none 0 0, .slice none 0 0, .slice A1 0 c1, .slice A2 0 c2, .slice none 0 0]
    exact ⟨h1.below hb h1.lt, ((Below.refl _ w).alloc (Nat.le_refl _) _).trans (hb.mono (by simp))⟩
  have HC := Lib.hid fun W => r4_namedA 12 (by decide) [] (fun _ => False) t A1 c1 A2 c2 W ReadsS.none_ (fun _ h => h.elim) (by decide) (fun _ h => (List.not_mem_nil h).elim) (fun _ h => (List.not_mem_nil h).elim) h ht
  go_enter Tryz.func57, Tryz.ntmps57
  go_wp2_with fail
  refine (HF1.out _).mono ?_
  rintro e w1 ⟨rfl, b1⟩
  have X1 := Lib.hid b1
  obtain ⟨g1, g2⟩ := HBX.out _ b1
  have HW1 := Lib.hid g2
  obtain ⟨a0, a1, a2, a3, a4, a5, a6, a7, a8, a9, -⟩ := in_facts g1
  clear b1 g1 g2 HF1
  go_wp2_with fail
  refine (HC.out _).mono ?_
  rintro e w2 ⟨rfl, b2⟩
  have HW2 := Lib.hid (HW1.out.trans (b2.mono HW1.out.size))
  clear b2
  go_wp2_with fail
  go_ret
  exact ⟨rfl, HW2.out⟩

set_option maxRecDepth 100000 in
set_option maxHeartbeats 4000000 in
theorem r4_oneN14 (t : ByteArray) (A1 : Option Addr) (c1 : Nat) (A2 : Option Addr) (c2 : Nat) (w : World) (ht : t.size ≤ 1000000) (h : nameB t = true) : Calls Tryz.prog 57 #[.agg #[.int .i64 14, .string t, .string ⟨#[]⟩, .string ⟨#[]⟩, .string ⟨#[]⟩, .slice none 0 0, .slice none 0 0, .slice A1 0 c1, .slice A2 0 c2, .slice none 0 0], .int .i64 0, .bool true, .bool true] w fun e w' => e = .returned (.int .i64 0) ∧ Below w.heap.size w w' := by
  have HF1 := Lib.hid fun W => r4_fieldsB ⟨#[]⟩ t A1 c1 A2 c2 W
  have HBX : Hid (∀ W : World, Below (w.alloc (.cells #[.int .i64 14, .string t, .string ⟨#[]⟩, .string ⟨#[]⟩, .string ⟨#[]⟩, .slice none 0 0, .slice none 0 0, .slice A1 0 c1, .slice A2 0 c2, .slice none 0 0] 34)).heap.size (w.alloc (.cells #[.int .i64 14, .string t, .string ⟨#[]⟩, .string ⟨#[]⟩, .string ⟨#[]⟩, .slice none 0 0, .slice none 0 0, .slice A1 0 c1, .slice A2 0 c2, .slice none 0 0] 34)) W → Blk W w.heap.size 34 #[.int .i64 14, .string t, .string ⟨#[]⟩, .string ⟨#[]⟩, .string ⟨#[]⟩, .slice none 0 0, .slice none 0 0, .slice A1 0 c1, .slice A2 0 c2, .slice none 0 0] ∧ Below w.heap.size w W) := Lib.hid fun W hb => by
    have h1 := Blk.new w 34 #[.int .i64 14, .string t, .string ⟨#[]⟩, .string ⟨#[]⟩, .string ⟨#[]⟩, .slice none 0 0, .slice none 0 0, .slice A1 0 c1, .slice A2 0 c2, .slice none 0 0]
    exact ⟨h1.below hb h1.lt, ((Below.refl _ w).alloc (Nat.le_refl _) _).trans (hb.mono (by simp))⟩
  have HC := Lib.hid fun W => r4_namedB t A1 c1 A2 c2 W h ht
  go_enter Tryz.func57, Tryz.ntmps57
  go_wp2_with fail
  refine (HF1.out _).mono ?_
  rintro e w1 ⟨rfl, b1⟩
  have X1 := Lib.hid b1
  obtain ⟨g1, g2⟩ := HBX.out _ b1
  have HW1 := Lib.hid g2
  obtain ⟨a0, a1, a2, a3, a4, a5, a6, a7, a8, a9, -⟩ := in_facts g1
  clear b1 g1 g2 HF1
  go_wp2_with fail
  refine (HC.out _).mono ?_
  rintro e w2 ⟨rfl, b2⟩
  have HW2 := Lib.hid (HW1.out.trans (b2.mono HW1.out.size))
  clear b2
  go_wp2_with fail
  go_ret
  exact ⟨rfl, HW2.out⟩

set_option maxRecDepth 100000 in
set_option maxHeartbeats 4000000 in
theorem r4_oneN14p (t : ByteArray) (A1 : Option Addr) (c1 : Nat) (A2 : Option Addr) (c2 : Nat) (w : World) (ht : t.size ≤ 1000000) (h : nameB t = true) : Calls Tryz.prog 57 #[.agg #[.int .i64 14, .string t, .string ⟨#[]⟩, .string ⟨#[112, 97, 103, 101]⟩, .string ⟨#[]⟩, .slice none 0 0, .slice none 0 0, .slice A1 0 c1, .slice A2 0 c2, .slice none 0 0], .int .i64 0, .bool true, .bool true] w fun e w' => e = .returned (.int .i64 0) ∧ Below w.heap.size w w' := by
  have HF1 := Lib.hid fun W => r4_fieldsB ⟨#[112, 97, 103, 101]⟩ t A1 c1 A2 c2 W
  have HBX : Hid (∀ W : World, Below (w.alloc (.cells #[.int .i64 14, .string t, .string ⟨#[]⟩, .string ⟨#[112, 97, 103, 101]⟩, .string ⟨#[]⟩, .slice none 0 0, .slice none 0 0, .slice A1 0 c1, .slice A2 0 c2, .slice none 0 0] 34)).heap.size (w.alloc (.cells #[.int .i64 14, .string t, .string ⟨#[]⟩, .string ⟨#[112, 97, 103, 101]⟩, .string ⟨#[]⟩, .slice none 0 0, .slice none 0 0, .slice A1 0 c1, .slice A2 0 c2, .slice none 0 0] 34)) W → Blk W w.heap.size 34 #[.int .i64 14, .string t, .string ⟨#[]⟩, .string ⟨#[112, 97, 103, 101]⟩, .string ⟨#[]⟩, .slice none 0 0, .slice none 0 0, .slice A1 0 c1, .slice A2 0 c2, .slice none 0 0] ∧ Below w.heap.size w W) := Lib.hid fun W hb => by
    have h1 := Blk.new w 34 #[.int .i64 14, .string t, .string ⟨#[]⟩, .string ⟨#[112, 97, 103, 101]⟩, .string ⟨#[]⟩, .slice none 0 0, .slice none 0 0, .slice A1 0 c1, .slice A2 0 c2, .slice none 0 0]
    exact ⟨h1.below hb h1.lt, ((Below.refl _ w).alloc (Nat.le_refl _) _).trans (hb.mono (by simp))⟩
  have HC := Lib.hid fun W => r4_namedC t A1 c1 A2 c2 W h ht
  go_enter Tryz.func57, Tryz.ntmps57
  go_wp2_with fail
  refine (HF1.out _).mono ?_
  rintro e w1 ⟨rfl, b1⟩
  have X1 := Lib.hid b1
  obtain ⟨g1, g2⟩ := HBX.out _ b1
  have HW1 := Lib.hid g2
  obtain ⟨a0, a1, a2, a3, a4, a5, a6, a7, a8, a9, -⟩ := in_facts g1
  clear b1 g1 g2 HF1
  go_wp2_with fail
  refine (HC.out _).mono ?_
  rintro e w2 ⟨rfl, b2⟩
  have HW2 := Lib.hid (HW1.out.trans (b2.mono HW1.out.size))
  clear b2
  go_wp2_with fail
  go_ret
  exact ⟨rfl, HW2.out⟩

set_option maxRecDepth 100000 in
set_option maxHeartbeats 4000000 in
theorem r4_oneU (t : ByteArray) (zs : List ByteArray) (S : Nat → Prop) (A1 : Option Addr) (c1 : Nat) (A2 : Option Addr) (c2 : Nat) (w : World) (hr : ReadsS w S 1 A1 zs.length (strs zs)) (hS : ∀ g, S g → g < w.heap.size) (h8 : zs.length ≤ 8) (hz : ∀ a ∈ zs, ArgOk a) (hsz : ∀ a ∈ zs, a.size ≤ 1000000) (ht : t.size ≤ 1000000) (h : nameB t = true) : Calls Tryz.prog 57 #[.agg #[.int .i64 15, .string t, .string ⟨#[]⟩, .string ⟨#[]⟩, .string ⟨#[]⟩, .slice none 0 0, .slice none 0 0, .slice A1 zs.length c1, .slice A2 0 c2, .slice none 0 0], .int .i64 0, .bool true, .bool true] w fun e w' => e = .returned (.int .i64 0) ∧ Below w.heap.size w w' := by
  have HF1 := Lib.hid fun W => r4_fieldsC zs.length t A1 c1 A2 c2 W
  have HBX : Hid (∀ W : World, Below (w.alloc (.cells #[.int .i64 15, .string t, .string ⟨#[]⟩, .string ⟨#[]⟩, .string ⟨#[]⟩, .slice none 0 0, .slice none 0 0, .slice A1 zs.length c1, .slice A2 0 c2, .slice none 0 0] 34)).heap.size (w.alloc (.cells #[.int .i64 15, .string t, .string ⟨#[]⟩, .string ⟨#[]⟩, .string ⟨#[]⟩, .slice none 0 0, .slice none 0 0, .slice A1 zs.length c1, .slice A2 0 c2, .slice none 0 0] 34)) W → Blk W w.heap.size 34 #[.int .i64 15, .string t, .string ⟨#[]⟩, .string ⟨#[]⟩, .string ⟨#[]⟩, .slice none 0 0, .slice none 0 0, .slice A1 zs.length c1, .slice A2 0 c2, .slice none 0 0] ∧ Below w.heap.size w W) := Lib.hid fun W hb => by
    have h1 := Blk.new w 34 #[.int .i64 15, .string t, .string ⟨#[]⟩, .string ⟨#[]⟩, .string ⟨#[]⟩, .slice none 0 0, .slice none 0 0, .slice A1 zs.length c1, .slice A2 0 c2, .slice none 0 0]
    exact ⟨h1.below hb h1.lt, ((Below.refl _ w).alloc (Nat.le_refl _) _).trans (hb.mono (by simp))⟩
  have HC := Lib.hid fun W (hb : Below w.heap.size w W) => r4_namedA 15 (by decide) zs S t A1 c1 A2 c2 W (hr.keep (fun g hg => hb.block g (hS g hg)) fun _ h => h) (fun g hg => Nat.lt_of_lt_of_le (hS g hg) hb.size) h8 hz hsz h ht
  clear hr hS hz hsz
  go_enter Tryz.func57, Tryz.ntmps57
  go_wp2_with fail
  refine (HF1.out _).mono ?_
  rintro e w1 ⟨rfl, b1⟩
  have X1 := Lib.hid b1
  obtain ⟨g1, g2⟩ := HBX.out _ b1
  have HW1 := Lib.hid g2
  obtain ⟨a0, a1, a2, a3, a4, a5, a6, a7, a8, a9, -⟩ := in_facts g1
  clear b1 g1 g2 HF1
  go_wp2_with fail
  refine (HC.out _ HW1.out).mono ?_
  rintro e w2 ⟨rfl, b2⟩
  have HW2 := Lib.hid (HW1.out.trans (b2.mono HW1.out.size))
  clear b2
  go_wp2_with fail
  go_ret
  exact ⟨rfl, HW2.out⟩

set_option maxRecDepth 100000 in
set_option maxHeartbeats 4000000 in
theorem r4_oneC (cs : List CitL) (S : Nat → Prop) (A1 : Option Addr) (c1 : Nat) (A2 : Option Addr) (c2 : Nat) (w : World) (hr : ReadsS w S 4 A2 cs.length (citCs cs)) (hS : ∀ g, S g → g < w.heap.size) (h0 : cs ≠ []) (h : ∀ c ∈ cs, nameB c.key = true ∧ PartOk c.pre ∧ PartOk c.suf) (hz : ∀ c : CitL, c ∈ cs → c.key.size ≤ 1000000 ∧ c.pre.size ≤ 1000000 ∧ c.suf.size ≤ 1000000) : Calls Tryz.prog 57 #[.agg #[.int .i64 13, .string ⟨#[]⟩, .string ⟨#[]⟩, .string ⟨#[]⟩, .string ⟨#[]⟩, .slice none 0 0, .slice none 0 0, .slice A1 0 c1, .slice A2 cs.length c2, .slice none 0 0], .int .i64 0, .bool true, .bool true] w fun e w' => e = .returned (.int .i64 0) ∧ Below w.heap.size w w' := by
  have HF1 := Lib.hid fun W => r4_fieldsD cs.length ⟨#[]⟩ A1 c1 A2 c2 W
  have HBX : Hid (∀ W : World, Below (w.alloc (.cells #[.int .i64 13, .string ⟨#[]⟩, .string ⟨#[]⟩, .string ⟨#[]⟩, .string ⟨#[]⟩, .slice none 0 0, .slice none 0 0, .slice A1 0 c1, .slice A2 cs.length c2, .slice none 0 0] 34)).heap.size (w.alloc (.cells #[.int .i64 13, .string ⟨#[]⟩, .string ⟨#[]⟩, .string ⟨#[]⟩, .string ⟨#[]⟩, .slice none 0 0, .slice none 0 0, .slice A1 0 c1, .slice A2 cs.length c2, .slice none 0 0] 34)) W → Blk W w.heap.size 34 #[.int .i64 13, .string ⟨#[]⟩, .string ⟨#[]⟩, .string ⟨#[]⟩, .string ⟨#[]⟩, .slice none 0 0, .slice none 0 0, .slice A1 0 c1, .slice A2 cs.length c2, .slice none 0 0] ∧ Below w.heap.size w W) := Lib.hid fun W hb => by
    have h1 := Blk.new w 34 #[.int .i64 13, .string ⟨#[]⟩, .string ⟨#[]⟩, .string ⟨#[]⟩, .string ⟨#[]⟩, .slice none 0 0, .slice none 0 0, .slice A1 0 c1, .slice A2 cs.length c2, .slice none 0 0]
    exact ⟨h1.below hb h1.lt, ((Below.refl _ w).alloc (Nat.le_refl _) _).trans (hb.mono (by simp))⟩
  have HC := Lib.hid fun W (hb : Below w.heap.size w W) => r4_cites cs A2 c2 S W (hr.keep (fun g hg => hb.block g (hS g hg)) fun _ h => h) (fun g hg => Nat.lt_of_lt_of_le (hS g hg) hb.size) h0 h hz
  clear hr hS h0 h hz
  go_enter Tryz.func57, Tryz.ntmps57
  go_wp2_with fail
  refine (HF1.out _).mono ?_
  rintro e w1 ⟨rfl, b1⟩
  have X1 := Lib.hid b1
  obtain ⟨g1, g2⟩ := HBX.out _ b1
  have HW1 := Lib.hid g2
  obtain ⟨a0, a1, a2, a3, a4, a5, a6, a7, a8, a9, -⟩ := in_facts g1
  clear b1 g1 g2 HF1
  go_wp2_with fail
  refine (HC.out _ HW1.out).mono ?_
  rintro e w2 ⟨rfl, b2⟩
  have HW2 := Lib.hid (HW1.out.trans (b2.mono HW1.out.size))
  clear b2
  go_wp2_with fail
  go_ret
  exact ⟨rfl, HW2.out⟩

set_option maxRecDepth 100000 in
set_option maxHeartbeats 4000000 in
theorem r4_oneA (d : ByteArray) (A1 : Option Addr) (c1 : Nat) (A2 : Option Addr) (c2 : Nat) (w : World) (hd : d.size ≤ 1000000) (h : AutoOk d) : Calls Tryz.prog 57 #[.agg #[.int .i64 16, .string ⟨#[]⟩, .string d, .string ⟨#[]⟩, .string ⟨#[]⟩, .slice none 0 0, .slice none 0 0, .slice A1 0 c1, .slice A2 0 c2, .slice none 0 0], .int .i64 0, .bool true, .bool true] w fun e w' => e = .returned (.int .i64 0) ∧ Below w.heap.size w w' := by
  have HF1 := Lib.hid fun W => r4_fieldsE d ⟨#[]⟩ A1 c1 A2 c2 W
  have HBX : Hid (∀ W : World, Below (w.alloc (.cells #[.int .i64 16, .string ⟨#[]⟩, .string d, .string ⟨#[]⟩, .string ⟨#[]⟩, .slice none 0 0, .slice none 0 0, .slice A1 0 c1, .slice A2 0 c2, .slice none 0 0] 34)).heap.size (w.alloc (.cells #[.int .i64 16, .string ⟨#[]⟩, .string d, .string ⟨#[]⟩, .string ⟨#[]⟩, .slice none 0 0, .slice none 0 0, .slice A1 0 c1, .slice A2 0 c2, .slice none 0 0] 34)) W → Blk W w.heap.size 34 #[.int .i64 16, .string ⟨#[]⟩, .string d, .string ⟨#[]⟩, .string ⟨#[]⟩, .slice none 0 0, .slice none 0 0, .slice A1 0 c1, .slice A2 0 c2, .slice none 0 0] ∧ Below w.heap.size w W) := Lib.hid fun W hb => by
    have h1 := Blk.new w 34 #[.int .i64 16, .string ⟨#[]⟩, .string d, .string ⟨#[]⟩, .string ⟨#[]⟩, .slice none 0 0, .slice none 0 0, .slice A1 0 c1, .slice A2 0 c2, .slice none 0 0]
    exact ⟨h1.below hb h1.lt, ((Below.refl _ w).alloc (Nat.le_refl _) _).trans (hb.mono (by simp))⟩
  have HC := Lib.hid fun W => r4_auto d W hd h
  clear h
  go_enter Tryz.func57, Tryz.ntmps57
  go_wp2_with fail
  refine (HF1.out _).mono ?_
  rintro e w1 ⟨rfl, b1⟩
  have X1 := Lib.hid b1
  obtain ⟨g1, g2⟩ := HBX.out _ b1
  have HW1 := Lib.hid g2
  obtain ⟨a0, a1, a2, a3, a4, a5, a6, a7, a8, a9, -⟩ := in_facts g1
  clear b1 g1 g2 HF1
  go_wp2_with fail
  refine (HC.out _).mono ?_
  rintro e w2 ⟨rfl, b2⟩
  have HW2 := Lib.hid (HW1.out.trans (b2.mono HW1.out.size))
  clear b2
  go_wp2_with fail
  go_ret
  exact ⟨rfl, HW2.out⟩

/-- A leaf of clean text is well-formed. -/
theorem r4_one (x : InL) (A1 : Option Addr) (c1 : Nat) (A2 : Option Addr) (c2 : Nat) (S : Nat → Prop) (w : World) (h : LeafOk x) (hz : SzI 1000000 x) (hr : InR w S x A1 A2) (hS : ∀ g, S g → g < w.heap.size) :
    Calls Tryz.prog 57 #[.agg #[.int .i64 x.kind, .string x.text, .string x.dest, .string x.title, .string ⟨#[]⟩, .slice none 0 0, .slice none 0 0, .slice A1 x.args.length c1, .slice A2 x.cites.length c2, .slice none 0 0], .int .i64 0, .bool true, .bool true] w fun e w' => e = .returned (.int .i64 0) ∧ Below w.heap.size w w' := by
  rcases h with ⟨k, t, hk, ht, rfl⟩ | ⟨k, t, hk, ht, rfl⟩ | ⟨t, ht, rfl⟩ | ⟨t, zs, ht, h8, ha, rfl⟩ | ⟨cs, h0, hc, rfl⟩ | ⟨d, hd, rfl⟩
  · rcases hk with rfl | rfl | rfl
    · exact r4_oneT1 t A1 c1 A2 c2 w hz.1 ht
    · exact r4_oneT4 t A1 c1 A2 c2 w hz.1 ht
    · exact r4_oneT5 t A1 c1 A2 c2 w hz.1 ht
  · rcases hk with rfl | rfl
    · exact r4_oneN12 t A1 c1 A2 c2 w hz.1 ht
    · exact r4_oneN14 t A1 c1 A2 c2 w hz.1 ht
  · exact r4_oneN14p t A1 c1 A2 c2 w hz.1 ht
  · exact r4_oneU t zs S A1 c1 A2 c2 w hr.args hS h8 ha hz.2.2.1 hz.1 ht
  · exact r4_oneC cs S A1 c1 A2 c2 w hr.cites hS h0 hc hz.2.2.2
  · exact r4_oneA d A1 c1 A2 c2 w hz.2.1 hd
set_option maxRecDepth 100000 in
set_option maxHeartbeats 1000000 in
theorem r4_list0 (w : World) : Calls Tryz.prog 31 #[.slice none 0 0, .int .i64 1] w fun e w' => e = .returned (.int .i64 0) ∧ Below w.heap.size w w' := by
  go_enter Tryz.func31, Tryz.ntmps31
  go_wp2_with fail
  go_loop [5, 6, 7] (fun v5 v6 _ => v6 = .int .i64 0) (fun _ _ _ => 0)
  case atStart => rfl
  case round =>
    obtain rfl := hrel
    go_wp2_with fail
    go_ret
    exact ⟨rfl, Below.refl _ _⟩

set_option maxRecDepth 100000 in
set_option maxHeartbeats 4000000 in
theorem r4_list (x : InL) (A1 : Option Addr) (c1 : Nat) (A2 : Option Addr) (c2 : Nat) (S : Nat → Prop) (g : Nat) (w : World) (h : LeafOk x) (hz : SzI 1000000 x) (hb : Blk w g 34 #[.int .i64 x.kind, .string x.text, .string x.dest, .string x.title, .string ⟨#[]⟩, .slice none 0 0, .slice none 0 0, .slice A1 x.args.length c1, .slice A2 x.cites.length c2, .slice none 0 0]) (hr : InR w S x A1 A2) (hS : ∀ g, S g → g < w.heap.size) :
    Calls Tryz.prog 31 #[.slice (some ⟨g, 0, none⟩) 1 1, .int .i64 0] w fun e w' => e = .returned (.int .i64 0) ∧ Below w.heap.size w w' := by
  have HO := Lib.hid fun W (hbw : Below w.heap.size w W) => r4_one x A1 c1 A2 c2 S W h hz (hr.keep (fun g hg => hbw.block g (hS g hg)) fun _ h => h) fun g hg => Nat.lt_of_lt_of_le (hS g hg) hbw.size
  have HL0 := Lib.hid r4_list0
  have hgl := hb.lt
  have HK := Lib.hid fun W (hbw : Below w.heap.size w W) => hb.below hbw hgl
  clear h hz hr hS hb
  go_enter Tryz.func31, Tryz.ntmps31
  go_wp2_with fail
  go_loopw [5, 6, 7] (fun v5 v6 _ wr => ∃ i : Nat, v6 = .int .i64 i ∧ i ≤ 1 ∧ Hid (i = 0 → v5 = .int .i64 0) ∧ Hid (Below w.heap.size w wr)) (fun _ v6 _ _ => 1 - (intOf v6).toNat)
  case atStart => exact ⟨0, rfl, by omega, Lib.hid fun _ => rfl, Lib.hid (Below.refl _ _)⟩
  case round =>
    obtain ⟨i, rfl, hi, HV, HB⟩ := hrel
    by_cases hl : i < 1
    · obtain rfl : i = 0 := by omega
      obtain rfl := HV.out rfl
      have HOn := Lib.hid (HO.out _ HB.out)
      obtain ⟨a0, a1, a2, a3, a4, a5, a6, a7, a8, a9, -⟩ := in_facts (HK.out _ HB.out)
      clear HO HV
      go_wp2_with fail
      ((with_reducible refine (HOn.out).mono ?_))
      rintro e w1 ⟨rfl, b1⟩
      have HB1 := Lib.hid (HB.out.trans (b1.mono HB.out.size))
      clear a0 a1 a2 a3 a4 a5 a6 a7 a8 a9
      obtain ⟨a0, a1, a2, a3, a4, a5, a6, a7, a8, a9, -⟩ := in_facts (HK.out _ HB1.out)
      clear b1 HOn
      go_wp2_with fail
      ((with_reducible refine (HL0.out _).mono ?_))
      rintro e w2 ⟨rfl, b2⟩
      have HB2 := Lib.hid (HB1.out.trans (b2.mono HB1.out.size))
      clear a0 a1 a2 a3 a4 a5 a6 a7 a8 a9
      obtain ⟨a0, a1, a2, a3, a4, a5, a6, a7, a8, a9, -⟩ := in_facts (HK.out _ HB2.out)
      clear b2 HL0
      go_wp2_with fail
      go_roundw
      case rel => exact ⟨1, rfl, Nat.le_refl _, Lib.hid (fun e => by cases e), HB2⟩
      case measure => simp [intOf]
    · obtain rfl : i = 1 := by omega
      clear HO HK HL0
      go_wp2_with fail
      go_ret
      exact ⟨rfl, HB.out⟩

set_option maxRecDepth 100000 in
set_option maxHeartbeats 1000000 in
theorem r4_Line (x : InL) (A1 : Option Addr) (c1 : Nat) (A2 : Option Addr) (c2 : Nat) (S : Nat → Prop) (g : Nat) (w : World) (h : LeafOk x) (hz : SzI 1000000 x) (hb : Blk w g 34 #[.int .i64 x.kind, .string x.text, .string x.dest, .string x.title, .string ⟨#[]⟩, .slice none 0 0, .slice none 0 0, .slice A1 x.args.length c1, .slice A2 x.cites.length c2, .slice none 0 0]) (hr : InR w S x A1 A2) (hS : ∀ g, S g → g < w.heap.size) :
    Calls Tryz.prog 14 #[.slice (some ⟨g, 0, none⟩) 1 1] w fun e w' => e = .returned (.int .i64 0) ∧ Below w.heap.size w w' := by
  have HO := Lib.hid (r4_list x A1 c1 A2 c2 S g w h hz hb hr hS)
  clear h hz hr hS hb
  go_enter Tryz.func14, Tryz.ntmps14
  go_wp2_with fail
  ((with_reducible refine (HO.out).mono ?_))
  rintro e w1 ⟨rfl, b1⟩
  go_wp2_with fail
  go_ret
  exact ⟨rfl, b1⟩

end Go.Proofs.YtcjkgmfidkgamaaGreatDoor
namespace Go.Proofs.YtcjkgmfidkgamaaGreatDoor
open Go.RowKit Go.Pub
set_option maxRecDepth 100000 in
set_option maxHeartbeats 8000000 in
theorem law9_formed (s : ByteArray) (hz : s.size ≤ 9223372036854775807) (m : Int) (w : World) (hm : w.cell? ⟨0, 0, none⟩ = some (.int .i64 m)) : Calls Tryz.prog 4 #[.string s] w fun e w' => e = .returned (.bool true) ∧ Below w.heap.size w w' := by
  have h0 := World.block_lt_of_cell? _ _ hm
  have HA : Hid (∀ W : World, Below w.heap.size w W → Calls Tryz.prog 9 #[] W fun e w' => e = .returned (.bool true) ∧ Below W.heap.size W w') := Lib.hid fun W hb => l9_awake m W ((hb.cell (p := ⟨0, 0, none⟩) h0).trans hm)
  have HT := Lib.hid fun W => r4_small s W
  by_cases h8 : s.size ≤ 800
  case neg =>
    rw [decide_eq_false h8] at HT
    clear hm h0
    go_enter Tryz.func4, Tryz.ntmps4
    go_wp2_with fail
    ((with_reducible refine (HT.out _).mono ?_))
    rintro e w1 ⟨rfl, rfl⟩
    go_wp2_with fail
    ((with_reducible refine (HA.out _ (Below.refl _ _)).mono ?_))
    rintro e w3 ⟨rfl, b3⟩
    go_wp2_with fail
    go_ret
    exact ⟨rfl, b3⟩
  rw [decide_eq_true h8] at HT
  have HV := Lib.hid fun W => rValid_any s W (by omega)
  cases hv : validB s
  · rw [hv] at HV
    clear hm h0 hv
    go_enter Tryz.func4, Tryz.ntmps4
    go_wp2_with fail
    ((with_reducible refine (HT.out _).mono ?_))
    rintro e w1 ⟨rfl, rfl⟩
    go_wp2_with fail
    ((with_reducible refine (HV.out _).mono ?_))
    rintro e w1 ⟨rfl, b1⟩
    have HB1 := Lib.hid b1
    clear b1
    go_wp2_with fail
    ((with_reducible refine (HA.out _ HB1.out).mono ?_))
    rintro e w3 ⟨rfl, b3⟩
    go_wp2_with fail
    go_ret
    exact ⟨rfl, HB1.out.trans (b3.mono HB1.out.size)⟩
  · have HLf := Lib.hid (scan_leaf (ValL.of_pts (valid_pts s hv)))
    have HSz : Hid (∀ p : PcL, p ∈ scanP s → SzI 1000000 p.inl) := Lib.hid fun p hp => by
      obtain ⟨g1, g2, g3, g4⟩ := scan_sz s p hp
      have hn : szN s ≤ 1000000 := by unfold szN; omega
      exact ⟨Nat.le_trans g1 hn, Nat.le_trans g2 hn, fun a ha => Nat.le_trans (g3 a ha) hn, fun c hc => ⟨Nat.le_trans (g4 c hc).1 hn, Nat.le_trans (g4 c hc).2.1 hn, Nat.le_trans (g4 c hc).2.2 hn⟩⟩
    have H1 : Hid (∀ W, Below w.heap.size w W → Calls Tryz.prog 11 #[.string s] W (ScanPost s W)) := Lib.hid fun W hb => s_Scan s m W (by omega) ((hb.cell (p := ⟨0, 0, none⟩) h0).trans hm)
    have HPl := scanP_len s
    rw [hv] at HV
    unfold ScanPost at H1
    clear hm h0 hv
    generalize scanP s = ps at *
    go_enter Tryz.func4, Tryz.ntmps4
    go_wp2_with fail
    ((with_reducible refine (HT.out _).mono ?_))
    rintro e w1 ⟨rfl, rfl⟩
    go_wp2_with fail
    ((with_reducible refine (HV.out _).mono ?_))
    rintro e w1 ⟨rfl, b1⟩
    have HB1 := Lib.hid b1
    clear b1 HT HV
    go_wp2_with fail
    ((with_reducible refine (H1.out _ HB1.out).mono ?_))
    rintro e w2 ⟨b2, v, rfl, ho⟩
    obtain ⟨A, c, rfl⟩ := ho.shape
    have HB2 := Lib.hid (HB1.out.trans (b2.mono HB1.out.size))
    have HO := Lib.hid ho
    clear b2 ho H1
    go_wp2_with fail
    go_loopw [4, 5] (fun v4 _ wr => ∃ i : Nat, v4 = .int .i64 i ∧ i ≤ ps.length ∧ Hid (Below w2.heap.size w2 wr)) (fun v4 _ _ => ps.length - (intOf v4).toNat)
    case atStart => exact ⟨0, rfl, Nat.zero_le _, Lib.hid (Below.refl _ _)⟩
    case round =>
      obtain ⟨i, rfl, hi, HB⟩ := hrel
      by_cases hl : i < ps.length
      · obtain ⟨g, A1, c1, A2, c2, S, rfl, -, hg, hS, hir, hrg⟩ := (HO.out.below HB.out).mid i hl
        have hlf := HLf.out ps[i] (List.getElem_mem hl)
        have hsz := HSz.out ps[i] (List.getElem_mem hl)
        generalize ps[i] = x at *
        have c0 : wr.cell? ⟨g, i * 18, none⟩ = some (.int .i64 x.kind) := hrg 0 _ rfl
        have d0 : wr.cell? ⟨g, i * 18 + 1, none⟩ = some (.int .i64 x.inl.kind) := hrg 1 _ rfl
        clear HLf HSz HO
        by_cases hk : x.kind = 0
        · rcases hlf hk with h2 | h3 | hok
          · have z0 : ((x.kind : Int) == 0) = true := by rw [hk]; rfl
            have z2 : ((x.inl.kind : Int) != 2) = false := by rw [h2]; rfl
            clear hlf hsz hrg hir hS hk h2
            go_wp2_with fail
            go_roundw
            case rel => exact ⟨i + 1, by go_num, by omega, HB⟩
            case measure => simp [intOf]; omega
          · have z0 : ((x.kind : Int) == 0) = true := by rw [hk]; rfl
            have z2 : ((x.inl.kind : Int) != 2) = true := by rw [h3]; rfl
            have z3 : ((x.inl.kind : Int) != 3) = false := by rw [h3]; rfl
            clear hlf hsz hrg hir hS hk h3
            go_wp2_with fail
            go_roundw
            case rel => exact ⟨i + 1, by go_num, by omega, HB⟩
            case measure => simp [intOf]; omega
          · have z0 : ((x.kind : Int) == 0) = true := by rw [hk]; rfl
            have hkk : x.inl.kind ≠ 2 ∧ x.inl.kind ≠ 3 := by
              rcases hok with ⟨k, t, hk, ht, e⟩ | ⟨k, t, hk, ht, e⟩ | ⟨t, ht, e⟩ | ⟨t, zs, ht, h8, ha, e⟩ | ⟨cs, h0, hc, e⟩ | ⟨d, hd, e⟩ <;> rw [e]
              · show k ≠ 2 ∧ k ≠ 3
                omega
              · show k ≠ 2 ∧ k ≠ 3
                omega
              · exact ⟨(by decide : (14 : Nat) ≠ 2), (by decide : (14 : Nat) ≠ 3)⟩
              · exact ⟨(by decide : (15 : Nat) ≠ 2), (by decide : (15 : Nat) ≠ 3)⟩
              · exact ⟨(by decide : (13 : Nat) ≠ 2), (by decide : (13 : Nat) ≠ 3)⟩
              · exact ⟨(by decide : (16 : Nat) ≠ 2), (by decide : (16 : Nat) ≠ 3)⟩
            have z2 : ((x.inl.kind : Int) != 2) = true := bne_iff_ne.2 (by omega)
            have z3 : ((x.inl.kind : Int) != 3) = true := bne_iff_ne.2 (by omega)
            have d1 : wr.cell? ⟨g, i * 18 + 2, none⟩ = some (.string x.inl.text) := hrg 2 _ rfl
            have d2 : wr.cell? ⟨g, i * 18 + 3, none⟩ = some (.string x.inl.dest) := hrg 3 _ rfl
            have d3 : wr.cell? ⟨g, i * 18 + 4, none⟩ = some (.string x.inl.title) := hrg 4 _ rfl
            have d4 : wr.cell? ⟨g, i * 18 + 5, none⟩ = some (.string ⟨#[]⟩) := hrg 5 _ rfl
            have d5 : wr.cell? ⟨g, i * 18 + 6, none⟩ = some (.slice none 0 0) := hrg 6 _ rfl
            have d6 : wr.cell? ⟨g, i * 18 + 7, none⟩ = some (.slice none 0 0) := hrg 7 _ rfl
            have d7 : wr.cell? ⟨g, i * 18 + 8, none⟩ = some (.slice A1 x.inl.args.length c1) := hrg 8 _ rfl
            have d8 : wr.cell? ⟨g, i * 18 + 9, none⟩ = some (.slice A2 x.inl.cites.length c2) := hrg 9 _ rfl
            have d9 : wr.cell? ⟨g, i * 18 + 10, none⟩ = some (.slice none 0 0) := hrg 10 _ rfl
            have HLn : Hid (Calls Tryz.prog 14 #[.slice (some ⟨wr.heap.size, 0, none⟩) 1 1] (wr.alloc (.cells #[.int .i64 x.inl.kind, .string x.inl.text, .string x.inl.dest, .string x.inl.title, .string ⟨#[]⟩, .slice none 0 0, .slice none 0 0, .slice A1 x.inl.args.length c1, .slice A2 x.inl.cites.length c2, .slice none 0 0] 34)) fun e w' => e = .returned (.int .i64 0) ∧ Below wr.heap.size wr w') := Lib.hid (by
              have hb2 : Below wr.heap.size wr (wr.alloc (.cells #[.int .i64 x.inl.kind, .string x.inl.text, .string x.inl.dest, .string x.inl.title, .string ⟨#[]⟩, .slice none 0 0, .slice none 0 0, .slice A1 x.inl.args.length c1, .slice A2 x.inl.cites.length c2, .slice none 0 0] 34)) := (Below.refl _ wr).alloc (Nat.le_refl _) _
              refine (r4_Line x.inl A1 c1 A2 c2 S wr.heap.size _ hok hsz (Blk.new wr _ _) (hir.keep (fun g hg => hb2.block g (hS g hg)) fun _ h => h) fun g hg => Nat.lt_of_lt_of_le (hS g hg) hb2.size).mono ?_
              rintro e w' ⟨rfl, c9⟩
              exact ⟨rfl, hb2.trans (c9.mono (by simp))⟩)
            clear hlf hsz hrg hir hS hk hok hkk
            go_wp2_with fail
            ((with_reducible refine (HLn.out).mono ?_))
            rintro e w3 ⟨rfl, b3⟩
            have HB3 := Lib.hid (HB.out.trans (b3.mono HB.out.size))
            clear b3 HLn
            go_wp2_with fail
            go_roundw
            case rel => exact ⟨i + 1, by go_num, by omega, HB3⟩
            case measure => simp [intOf]; omega
        · have z0 : ((x.kind : Int) == 0) = false := beq_eq_false_iff_ne.2 (by omega)
          clear hlf hsz hrg hir hS hk
          go_wp2_with fail
          go_roundw
          case rel => exact ⟨i + 1, by go_num, by omega, HB⟩
          case measure => simp [intOf]; omega
      · have HB3 := Lib.hid (HB2.out.trans (HB.out.mono HB2.out.size))
        clear HLf HSz HO
        go_wp2_with fail
        ((with_reducible refine (HA.out _ HB3.out).mono ?_))
        rintro e w3 ⟨rfl, b3⟩
        go_wp2_with fail
        go_ret
        exact ⟨rfl, HB3.out.trans (b3.mono HB3.out.size)⟩

end Go.Proofs.YtcjkgmfidkgamaaGreatDoor
namespace Go.Pub
open Go.RowKit Go.WideShapes Go.ChangeShapes
section
variable {H : Type} {enc : TypeId × Value → H} {P : Program}
theorem post_of_below {f : Func} {s : ChangeSpec} {apart fresh handsOn again : Bool} {W W' : World} {args : Array Value} {v : Value} {ds gs : List (DataW H)} {before pa pv : List MemPlace}
    (hW : DataW.Whole enc P f.params.toList s.vars apart W args.toList ds gs before)
    (hres : ∀ (b : Nat) (sp : Nat → Bool) (hd : Bool), DataW.TrodAll enc P W' b sp hd f.resultTypes.toList (v.resultList f.resultTypes.size) (s.fn H (ds ++ gs)).results [])
    (hargs : ∀ sp : Nat → Bool, (∀ p ∈ before, sp p.block = true) → DataW.TrodAll enc P W' 0 sp true f.params.toList args.toList (s.fn H (ds ++ gs)).args pa)
    (hvars : ∀ sp : Nat → Bool, (∀ p ∈ before, sp p.block = true) → DataW.TrodVars enc P W' sp s.vars (s.fn H (ds ++ gs)).vars pv)
    (hps : before = pa ++ pv) (hb : Below W.heap.size W W')
    (hok : ∀ (j : Nat) (t : TypeId) (r : Value), f.resultTypes[j]? = some t → (v.resultList f.resultTypes.size)[j]? = some r → Value.okWide P W' .any 0 t r) :
    s.post enc P f apart fresh handsOn again W args v W' := by
  have hlt : ∀ p ∈ before, p.block < W.heap.size := fun p hp => hW.lt p hp
  have hold : ∀ p ∈ before, (fun b => decide (b < W.heap.size)) p.block = true := fun p hp => by simpa using hlt p hp
  refine ⟨ds, gs, before, [], pa, pv, hW, hres _ _ _, hargs _ hold, hvars _ hold, World.keptBut_mono (fun p hp => ⟨hp, ?_⟩) (hb.frame (· ∈ before)), fun _ => ?_⟩
  · rw [hps, List.mem_append] at hp
    exact Or.inr hp
  · obtain ⟨_, _, _, _, _, hz, hn⟩ := hW
    refine ⟨hok, _, _, ([] ++ pa) ++ pv, ⟨[] ++ pa, pv, trodAll_append (hargs _ (fun _ _ => rfl)) (hres _ _ _), hvars _ (fun _ _ => rfl), rfl, ?_, ?_⟩, ?_⟩
    · intro b off hp
      have hin : MemPlace.cell b off ∈ before := by rw [hps]; simpa using hp
      rw [hb.frozen (hlt _ hin)]
      exact hz b off hin
    · intro ha
      have := hn ha
      rw [hps] at this
      simpa using this
    · intro p hp _
      rw [hps]
      simpa using hp
end
end Go.Pub
