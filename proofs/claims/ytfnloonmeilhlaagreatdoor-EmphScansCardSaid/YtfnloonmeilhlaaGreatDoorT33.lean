/-
  Texts of the proof, put together (what this law reaches): ScP, ScAB, ScV, ScJ, ScT, ScW.
-/
import Derived.Test.YtfnloonmeilhlaaGreatDoorT32
import Derived.Test.YtfnloonmeilhlaaGreatDoorT30
import Derived.Test.YtfnloonmeilhlaaGreatDoorT31
import Derived.Test.YtfnloonmeilhlaaGreatDoorT29
import Derived.Shelf.SlSorted.Search
import Derived.Test.YtfnloonmeilhlaaGreatDoorT24
import Derived.Test.YtfnloonmeilhlaaGreatDoorT27
import Derived.Maps.GroupsBeside
set_option linter.unusedVariables false
set_option linter.unusedSimpArgs false
namespace Go.Pub
/-- The first byte of a set, from the bytes of a suffix. -/
theorem toE_index (s : ByteArray) (i : Nat) (cs : List UInt8) (p : Nat → Bool) (hp : ∀ b : UInt8, p b.toNat = cs.contains b) (hi : i ≤ s.size) :
    Lib.indexAny (bytesL (s.extract i s.size)) cs = if toE s i p < s.size then ((toE s i p - i : Nat) : Int) else -1 := by
  have hl : (bytesL (s.extract i s.size)).length = s.size - i := by rw [bytesL_length, ByteArray.size_extract]; omega
  rw [index_cnt, hl]
  have e : cntW (fun b => !cs.contains (UInt8.ofNat b)) (bytesL (s.extract i s.size)) = runF s i fun b => !p b := by
    have hx : bytesL (s.extract i s.size) = sfx s i := by
      rw [bytesL_sub]; unfold sub sfx; exact List.take_of_length_le (by rw [List.length_drop, bytesL_length]; omega)
    unfold runF
    rw [hx]
    apply cntW_fn
    intro b _
    show (!cs.contains (UInt8.ofNat b.toNat)) = !p b.toNat
    rw [hp]; simp
  rw [e]
  unfold toE
  have := runF_le s i fun b => !p b
  by_cases h : i + (runF s i fun b => !p b) < s.size
  · rw [if_pos h, if_pos (by omega)]; congr 1; omega
  · rw [if_neg h, if_neg (by omega)]
theorem u8_is (b : UInt8) (c : Nat) (hc : c < 256) : (b.toNat == c) = (b == UInt8.ofNat c) := by
  rw [Bool.eq_iff_iff, beq_iff_eq, beq_iff_eq, ← UInt8.toNat_inj, ofNat_toNat c hc]
theorem dol_set (b : UInt8) : (b.toNat == 36 || b.toNat == 10) = ([36, 10] : List UInt8).contains b := by
  rw [u8_is b 36 (by decide), u8_is b 10 (by decide)]
  show (b == 36 || b == 10) = (b == 36 || (b == 10 || false))
  rw [Bool.or_false]
theorem asc_dol : ∀ b ∈ bytesL (⟨#[36, 10]⟩ : ByteArray), b.toNat < 128 := by
  intro b hb
  have h : b ∈ ([36, 10] : List UInt8) := hb
  rcases List.mem_cons.1 h with rfl | h
  · decide
  · rw [List.mem_singleton.1 h]; decide
end Go.Pub
namespace Go.Proofs.YtfnloonmeilhlaaGreatDoor
open Go.RowKit Go.Pub
set_option maxRecDepth 100000 in
set_option maxHeartbeats 4000000 in
theorem s_dollars (s : ByteArray) (i : Nat) (w : World) (hs : s.size ≤ 1000000) (hi : i < s.size) : Calls Tryz.prog 34 #[.string s, .int .i64 i] w (InPost (dolI s i) w) := by
  have HI : Hid (∀ W, Calls Tryz.prog 58 #[.string (s.extract (i + 1) s.size), .string ⟨#[36, 10]⟩] W fun e w' => e = .returned (.int .i64 (if dolE s i < s.size then ((dolE s i - (i + 1) : Nat) : Int) else -1)) ∧ Below W.heap.size W w') := Lib.hid fun W => by
    have h := anyX (s.extract (i + 1) s.size) ⟨#[36, 10]⟩ W asc_dol (by decide) (by decide) (by rw [ByteArray.size_extract]; omega)
    rw [show bytesL (⟨#[36, 10]⟩ : ByteArray) = [36, 10] from rfl, toE_index s (i + 1) [36, 10] (fun b => b == 36 || b == 10) dol_set (by omega)] at h
    exact h
  have HD := Lib.hid fun (c : Int) W => digit_any c W
  have HG : Hid (∀ b : Nat, digitB (b : Int) = dgN b) := Lib.hid fun b => by unfold digitB dgN; rw [Bool.eq_iff_iff]; simp; omega
  have HT := Lib.hid (toE_stop s (i + 1) fun b => b == 36 || b == 10)
  have hEd : toE s (i + 1) (fun b => b == 36 || b == 10) = dolE s i := rfl
  have hge := toE_ge s (i + 1) fun b => b == 36 || b == 10
  rw [hEd] at HT hge
  clear hEd
  obtain ⟨R, hR⟩ : ∃ R, R = dolI s i := ⟨_, rfl⟩
  rw [← hR]
  unfold dolI at hR
  have HR := Lib.hid hR
  clear hR
  generalize dolE s i = D at *
  by_cases c1 : D < s.size
  · rw [if_pos c1] at HI
    have hgD := get_bt s D c1
    have HW : bt s D = 36 ∨ bt s D = 10 := by simpa using HT.out c1
    by_cases c2 : D = i + 1
    · have HF : Hid (R = none) := Lib.hid (by rw [HR.out, if_neg fun c => c.2.1 c2])
      have e0 : ((D - (i + 1) : Nat) : Int) = 0 := by omega
      rw [e0] at HI
      clear HR HT c2
      go_enter Tryz.func34, Tryz.ntmps34
      go_wp2_with fail
      ((with_reducible refine (HI.out _).mono ?_))
      rintro e w1 ⟨rfl, b1⟩
      have hbl := (Blk.new w 32 zIn).below b1 (by simp)
      have hbw := ((Below.refl w.heap.size w).alloc (Nat.le_refl _) (.cells zIn 32)).trans (b1.mono (by simp))
      obtain ⟨c0, c1, c2, c3, c4, c5, c6, c7, c8, c9, f0, f1, f2, f3, f4, f5, f6, f7, f8, f9⟩ := in_facts hbl
      go_wp2_with fail
      exact in_ret Tryz.results34 (blk10 hbl _ _ _ _ _ _ _ _ _ _) rfl rfl rfl (in_none HF.out (below10 hbw (Nat.le_refl _) _ _ _ _ _ _ _ _ _ _))
    · have e0 : (i : Int) + 1 + ((D - (i + 1) : Nat) : Int) = (D : Int) := by omega
      have d0 : decide (((D - (i + 1) : Nat) : Int) < 1) = false := decide_eq_false (by omega)
      have hn0 : (0 : Int) ≤ ((D - (i + 1) : Nat) : Int) ∧ ((D - (i + 1) : Nat) : Int) ≤ 1000000 := by omega
      generalize ((D - (i + 1) : Nat) : Int) = nn at *
      have hD1 : (D : Int) - 1 = ((D - 1 : Nat) : Int) := by omega
      have hgi := get_bt s (i + 1) (by omega)
      have hgd := get_bt s (D - 1) (by omega)
      have hi1 : i + 1 < s.size := by omega
      have hd1 : D - 1 < s.size := by omega
      have hsl : i + 1 ≤ D := hge
      have HQ : Hid (R = if bt s D = 36 ∧ bt s (i + 1) ≠ 32 ∧ bt s (D - 1) ≠ 32 ∧ ¬ (D + 1 < s.size ∧ dgN (bt s (D + 1)) = true) then some (spn 5 (s.extract (i + 1) D), D + 1) else none) := Lib.hid (by
        rw [HR.out]
        by_cases h : bt s D = 36 ∧ bt s (i + 1) ≠ 32 ∧ bt s (D - 1) ≠ 32 ∧ ¬ (D + 1 < s.size ∧ dgN (bt s (D + 1)) = true)
        · rw [if_pos h, if_pos ⟨c1, c2, h⟩]
        · rw [if_neg h, if_neg fun c => h c.2.2])
      have hg2 : ∀ h : D + 1 < s.size, ((s[D + 1]'h).toNat : Int) = (bt s (D + 1) : Int) := fun h => by rw [get_bt s (D + 1) h]
      have HG1 := Lib.hid (HG.out (bt s (D + 1)))
      have HD1 := Lib.hid fun W => HD.out (bt s (D + 1) : Int) W
      have hb2 := bt_lt s (D + 1)
      clear HG HD HR HT c2
      generalize bt s (i + 1) = bi at *
      generalize bt s (D - 1) = bd at *
      generalize bt s (D + 1) = b2 at *
      generalize bt s D = bD at *
      generalize dgN b2 = dg at *
      rw [HG1.out] at HD1
      clear HG1
      go_enter Tryz.func34, Tryz.ntmps34
      go_wp2_with fail
      ((with_reducible refine (HI.out _).mono ?_))
      rintro e w1 ⟨rfl, b1⟩
      have hbl := (Blk.new w 32 zIn).below b1 (by simp)
      have hbw := ((Below.refl w.heap.size w).alloc (Nat.le_refl _) (.cells zIn 32)).trans (b1.mono (by simp))
      have HBl := Lib.hid hbl
      have HBw := Lib.hid hbw
      obtain ⟨c0, c1', c2, c3, c4, c5, c6, c7, c8, c9, f0, f1, f2, f3, f4, f5, f6, f7, f8, f9⟩ := in_facts hbl
      clear hbl hbw b1 HI
      rcases HW with rfl | rfl
      · by_cases x1 : bi = 32
        · have HF : Hid (R = none) := Lib.hid (by rw [HQ.out, if_neg fun c => c.2.1 x1])
          subst x1
          clear HQ
          go_wp2_with fail
          exact in_ret Tryz.results34 (blk10 HBl.out _ _ _ _ _ _ _ _ _ _) rfl rfl rfl (in_none HF.out (below10 HBw.out (Nat.le_refl _) _ _ _ _ _ _ _ _ _ _))
        · have z1 : ((bi : Int) == 32) = false := beq_eq_false_iff_ne.2 (by omega)
          by_cases x2 : bd = 32
          · have HF : Hid (R = none) := Lib.hid (by rw [HQ.out, if_neg fun c => c.2.2.1 x2])
            subst x2
            clear HQ x1
            go_wp2_with fail
            exact in_ret Tryz.results34 (blk10 HBl.out _ _ _ _ _ _ _ _ _ _) rfl rfl rfl (in_none HF.out (below10 HBw.out (Nat.le_refl _) _ _ _ _ _ _ _ _ _ _))
          · have z2 : ((bd : Int) == 32) = false := beq_eq_false_iff_ne.2 (by omega)
            by_cases x3 : D + 1 < s.size
            · have hg3 := hg2 x3
              cases dg
              · have HF : Hid (R = some (spn 5 (s.extract (i + 1) D), D + 1)) := Lib.hid (by rw [HQ.out, if_pos ⟨rfl, x1, x2, fun c => by cases c.2⟩])
                clear HQ x1 x2
                go_wp2_with fail
                ((with_reducible refine (HD1.out _).mono ?_))
                rintro e w2 ⟨rfl, rfl⟩
                go_wp2_with fail
                exact in_ret Tryz.results34 (blk10 HBl.out _ _ _ _ _ _ _ _ _ _) rfl rfl rfl (in_some HF.out rfl rfl (below10 HBw.out (Nat.le_refl _) _ _ _ _ _ _ _ _ _ _) rfl (by omega))
              · have HF : Hid (R = none) := Lib.hid (by rw [HQ.out, if_neg fun c => c.2.2.2 ⟨x3, rfl⟩])
                clear HQ x1 x2
                go_wp2_with fail
                ((with_reducible refine (HD1.out _).mono ?_))
                rintro e w2 ⟨rfl, rfl⟩
                go_wp2_with fail
                exact in_ret Tryz.results34 (blk10 HBl.out _ _ _ _ _ _ _ _ _ _) rfl rfl rfl (in_none HF.out (below10 HBw.out (Nat.le_refl _) _ _ _ _ _ _ _ _ _ _))
            · have HF : Hid (R = some (spn 5 (s.extract (i + 1) D), D + 1)) := Lib.hid (by rw [HQ.out, if_pos ⟨rfl, x1, x2, fun c => x3 c.1⟩])
              clear HQ x1 x2
              go_wp2_with fail
              exact in_ret Tryz.results34 (blk10 HBl.out _ _ _ _ _ _ _ _ _ _) rfl rfl rfl (in_some HF.out rfl rfl (below10 HBw.out (Nat.le_refl _) _ _ _ _ _ _ _ _ _ _) rfl (by omega))
      · have HF : Hid (R = none) := Lib.hid (by rw [HQ.out, if_neg fun c => by cases c.1])
        clear HQ
        go_wp2_with fail
        exact in_ret Tryz.results34 (blk10 HBl.out _ _ _ _ _ _ _ _ _ _) rfl rfl rfl (in_none HF.out (below10 HBw.out (Nat.le_refl _) _ _ _ _ _ _ _ _ _ _))
  · rw [if_neg c1] at HI
    have HF : Hid (R = none) := Lib.hid (by rw [HR.out, if_neg fun c => c1 c.1])
    clear HR HT
    go_enter Tryz.func34, Tryz.ntmps34
    go_wp2_with fail
    ((with_reducible refine (HI.out _).mono ?_))
    rintro e w1 ⟨rfl, b1⟩
    have hbl := (Blk.new w 32 zIn).below b1 (by simp)
    have hbw := ((Below.refl w.heap.size w).alloc (Nat.le_refl _) (.cells zIn 32)).trans (b1.mono (by simp))
    obtain ⟨c0, c1, c2, c3, c4, c5, c6, c7, c8, c9, f0, f1, f2, f3, f4, f5, f6, f7, f8, f9⟩ := in_facts hbl
    go_wp2_with fail
    exact in_ret Tryz.results34 (blk10 hbl _ _ _ _ _ _ _ _ _ _) rfl rfl rfl (in_none HF.out (below10 hbw (Nat.le_refl _) _ _ _ _ _ _ _ _ _ _))

end Go.Proofs.YtfnloonmeilhlaaGreatDoor
namespace Go.Pub
theorem brk_set (b : UInt8) : (b.toNat == 91 || b.toNat == 93) = ([91, 93] : List UInt8).contains b := by
  rw [u8_is b 91 (by decide), u8_is b 93 (by decide)]
  show (b == 91 || b == 93) = (b == 91 || (b == 93 || false))
  rw [Bool.or_false]
theorem asc_brk : ∀ b ∈ bytesL (⟨#[91, 93]⟩ : ByteArray), b.toNat < 128 := by
  intro b hb
  have h : b ∈ ([91, 93] : List UInt8) := hb
  rcases List.mem_cons.1 h with rfl | h
  · decide
  · rw [List.mem_singleton.1 h]; decide
end Go.Pub
namespace Go.Proofs.YtfnloonmeilhlaaGreatDoor
open Go.RowKit Go.Pub
theorem heap10 (W : World) (g k : Nat) (h : k ≠ g) (y0 y1 y2 y3 y4 y5 y6 y7 y8 y9 : Value) : ((((((((((W.setCell ⟨g, 0, none⟩ y0).setCell ⟨g, 1, none⟩ y1).setCell ⟨g, 2, none⟩ y2).setCell ⟨g, 3, none⟩ y3).setCell ⟨g, 4, none⟩ y4).setCell ⟨g, 5, none⟩ y5).setCell ⟨g, 6, none⟩ y6).setCell ⟨g, 7, none⟩ y7).setCell ⟨g, 8, none⟩ y8).setCell ⟨g, 9, none⟩ y9).heap[k]? = W.heap[k]? := by
  have e : ∀ (V : World) (q : Nat) (y : Value), (V.setCell ⟨g, q, none⟩ y).heap[k]? = V.heap[k]? := fun V q y => Below.heap_setCell V ⟨g, q, none⟩ y k h
  rw [e, e, e, e, e, e, e, e, e, e]
theorem size10 (W : World) (g : Nat) (y0 y1 y2 y3 y4 y5 y6 y7 y8 y9 : Value) : ((((((((((W.setCell ⟨g, 0, none⟩ y0).setCell ⟨g, 1, none⟩ y1).setCell ⟨g, 2, none⟩ y2).setCell ⟨g, 3, none⟩ y3).setCell ⟨g, 4, none⟩ y4).setCell ⟨g, 5, none⟩ y5).setCell ⟨g, 6, none⟩ y6).setCell ⟨g, 7, none⟩ y7).setCell ⟨g, 8, none⟩ y8).setCell ⟨g, 9, none⟩ y9).heap.size = W.heap.size := by
  simp [World.setCell]
theorem in_cites {R : Option (InL × Nat)} {w W : World} {cs : List CitL} {A : Option Addr} {c k : Nat} {B : Nat} (hR : R = some ({ kind := 13, cites := cs }, k)) (hb : Below w.heap.size w W) (hB : w.heap.size < B) (hr : ReadsS W (Rg B W) 4 A cs.length (citCs cs)) (y0 y1 y2 y3 y4 y5 y6 y7 y8 y9 : Value) {n : Int} (hn : n = k) :
    InPost R w (.returned (.tuple #[.agg #[.int .i64 13, .string ⟨#[]⟩, .string ⟨#[]⟩, .string ⟨#[]⟩, .string ⟨#[]⟩, .slice none 0 0, .slice none 0 0, .slice none 0 0, .slice A cs.length c, .slice none 0 0], .int .i64 n])) ((((((((((W.setCell ⟨w.heap.size, 0, none⟩ y0).setCell ⟨w.heap.size, 1, none⟩ y1).setCell ⟨w.heap.size, 2, none⟩ y2).setCell ⟨w.heap.size, 3, none⟩ y3).setCell ⟨w.heap.size, 4, none⟩ y4).setCell ⟨w.heap.size, 5, none⟩ y5).setCell ⟨w.heap.size, 6, none⟩ y6).setCell ⟨w.heap.size, 7, none⟩ y7).setCell ⟨w.heap.size, 8, none⟩ y8).setCell ⟨w.heap.size, 9, none⟩ y9) := by
  subst hR; subst hn
  refine ⟨below10 hb (Nat.le_refl _) _ _ _ _ _ _ _ _ _ _, none, 0, A, c, rfl, ReadsS.none_, ?_⟩
  exact hr.keep (fun g hg => heap10 W _ g (by have := hg.1; omega) _ _ _ _ _ _ _ _ _ _) fun g hg => ⟨by have := hg.1; omega, by rw [size10]; exact hg.2⟩
set_option maxRecDepth 100000 in
set_option maxHeartbeats 4000000 in
theorem s_cite (s : ByteArray) (i : Nat) (w : World) (hs : s.size ≤ 1000000) (hi : i < s.size) : Calls Tryz.prog 39 #[.string s, .int .i64 i] w (InPost (citI s i) w) := by
  have HI : Hid (∀ W, Calls Tryz.prog 58 #[.string (s.extract (i + 1) s.size), .string ⟨#[91, 93]⟩] W fun e w' => e = .returned (.int .i64 (if citE s i < s.size then ((citE s i - (i + 1) : Nat) : Int) else -1)) ∧ Below W.heap.size W w') := Lib.hid fun W => by
    have h := anyX (s.extract (i + 1) s.size) ⟨#[91, 93]⟩ W asc_brk (by decide) (by decide) (by rw [ByteArray.size_extract]; omega)
    rw [show bytesL (⟨#[91, 93]⟩ : ByteArray) = [91, 93] from rfl, toE_index s (i + 1) [91, 93] (fun b => b == 91 || b == 93) brk_set (by omega)] at h
    exact h
  have HT := Lib.hid (toE_stop s (i + 1) fun b => b == 91 || b == 93)
  have hEd : toE s (i + 1) (fun b => b == 91 || b == 93) = citE s i := rfl
  have hge := toE_ge s (i + 1) fun b => b == 91 || b == 93
  rw [hEd] at HT hge
  clear hEd
  obtain ⟨R, hR⟩ : ∃ R, R = citI s i := ⟨_, rfl⟩
  rw [← hR]
  unfold citI at hR
  have HR := Lib.hid hR
  clear hR
  generalize citE s i = D at *
  by_cases c1 : D < s.size
  · rw [if_pos c1] at HI
    have hgD := get_bt s D c1
    have HW : bt s D = 91 ∨ bt s D = 93 := by simpa using HT.out c1
    have HC := Lib.hid fun W => s_Cites (s.extract (i + 1) D) W (by rw [ByteArray.size_extract]; omega)
    have HQ : Hid (R = if bt s D = 93 then (citesI (s.extract (i + 1) D)).map (fun cs => ({ kind := 13, cites := cs }, D + 1)) else none) := Lib.hid (by
      rw [HR.out]
      by_cases h : bt s D = 93
      · rw [if_pos h, if_pos ⟨c1, h⟩]
      · rw [if_neg h, if_neg fun c => h c.2])
    have e0 : (i : Int) + 1 + ((D - (i + 1) : Nat) : Int) = (D : Int) := by omega
    have hn0 : (0 : Int) ≤ ((D - (i + 1) : Nat) : Int) ∧ ((D - (i + 1) : Nat) : Int) ≤ 1000000 := by omega
    have e3 : (i : Int) + ((D - (i + 1) : Nat) : Int) = (D : Int) - 1 := by omega
    have hsl : i + 1 ≤ D := hge
    generalize ((D - (i + 1) : Nat) : Int) = nn at *
    generalize citesI (s.extract (i + 1) D) = C at *
    clear HR HT hge
    generalize bt s D = bD at *
    go_enter Tryz.func39, Tryz.ntmps39
    go_wp2_with fail
    ((with_reducible refine (HI.out _).mono ?_))
    rintro e w1 ⟨rfl, b1⟩
    have hbl := (Blk.new w 32 zIn).below b1 (by simp)
    have hbw := ((Below.refl w.heap.size w).alloc (Nat.le_refl _) (.cells zIn 32)).trans (b1.mono (by simp))
    have HBl := Lib.hid hbl
    have HBw := Lib.hid hbw
    have hz1 := hbl.lt
    rcases HW with rfl | rfl
    · have HF : Hid (R = none) := Lib.hid (by rw [HQ.out, if_neg (by decide)])
      obtain ⟨c0, c1', c2, c3, c4, c5, c6, c7, c8, c9, f0, f1, f2, f3, f4, f5, f6, f7, f8, f9⟩ := in_facts hbl
      clear HQ HC hbl hbw b1
      go_wp2_with fail
      exact in_ret Tryz.results39 (blk10 HBl.out _ _ _ _ _ _ _ _ _ _) rfl rfl rfl (in_none HF.out (below10 HBw.out (Nat.le_refl _) _ _ _ _ _ _ _ _ _ _))
    · have HQ2 := Lib.hid (HQ.out.trans (if_pos rfl))
      clear HQ hbl hbw b1
      go_wp2_with fail
      ((with_reducible refine (HC.out _).mono ?_))
      rintro e w2 ⟨b2, hp⟩
      have hb2 := Lib.hid (HBl.out.below b2 hz1)
      have hw2 := Lib.hid (HBw.out.trans (b2.mono (by omega)))
      obtain ⟨c0, c1', c2, c3, c4, c5, c6, c7, c8, c9, f0, f1, f2, f3, f4, f5, f6, f7, f8, f9⟩ := in_facts hb2.out
      clear b2 HBl HBw HC
      cases C with
      | none =>
        have HF : Hid (R = none) := Lib.hid HQ2.out
        obtain rfl := hp
        clear HQ2
        go_wp2_with fail
        exact in_ret Tryz.results39 (blk10 hb2.out _ _ _ _ _ _ _ _ _ _) rfl rfl rfl (in_none HF.out (below10 hw2.out (Nat.le_refl _) _ _ _ _ _ _ _ _ _ _))
      | some cs =>
        have HF : Hid (R = some ({ kind := 13, cites := cs }, D + 1)) := Lib.hid HQ2.out
        obtain ⟨A, c, rfl, hrd⟩ := hp
        have HRd := Lib.hid hrd
        clear HQ2 hrd
        go_wp2_with fail
        exact in_ret Tryz.results39 (blk10 hb2.out _ _ _ _ _ _ _ _ _ _) rfl rfl rfl (in_cites HF.out hw2.out hz1 HRd.out _ _ _ _ _ _ _ _ _ _ (by omega))
  · rw [if_neg c1] at HI
    have HF : Hid (R = none) := Lib.hid (by rw [HR.out, if_neg fun c => c1 c.1])
    clear HR HT
    go_enter Tryz.func39, Tryz.ntmps39
    go_wp2_with fail
    ((with_reducible refine (HI.out _).mono ?_))
    rintro e w1 ⟨rfl, b1⟩
    have hbl := (Blk.new w 32 zIn).below b1 (by simp)
    have hbw := ((Below.refl w.heap.size w).alloc (Nat.le_refl _) (.cells zIn 32)).trans (b1.mono (by simp))
    obtain ⟨c0, c1, c2, c3, c4, c5, c6, c7, c8, c9, f0, f1, f2, f3, f4, f5, f6, f7, f8, f9⟩ := in_facts hbl
    go_wp2_with fail
    exact in_ret Tryz.results39 (blk10 hbl _ _ _ _ _ _ _ _ _ _) rfl rfl rfl (in_none HF.out (below10 hbw (Nat.le_refl _) _ _ _ _ _ _ _ _ _ _))

end Go.Proofs.YtfnloonmeilhlaaGreatDoor
namespace Go.Proofs.YtfnloonmeilhlaaGreatDoor
open Go.RowKit Go.Pub
theorem repl_sp (s : ByteArray) (m : Int) (w : World) (hs : s.size ≤ 1000000) (hm : w.cell? ⟨0, 0, none⟩ = some (.int .i64 m)) :
    Calls Tryz.prog 76 #[.string s, .string ⟨#[10]⟩, .string ⟨#[32]⟩] w fun e w' => e = .returned (.string (mk (unLF (bytesL s)))) ∧ Below w.heap.size w w' := by
  have hc := countLF_le (bytesL s)
  rw [bytesL_length] at hc
  have h := Tryz.strings_ReplaceAll s ⟨#[10]⟩ ⟨#[32]⟩ m w (by omega) hm (by decide) (by
    show s.size + Lib.count (bytesL s) [10] * 1 ≤ _
    omega)
  refine h.mono ?_
  rintro e w' ⟨rfl, hb⟩
  refine ⟨?_, hb⟩
  show Ending.returned (.string ⟨(Lib.replaceAll (bytesL s) [10] [32]).toArray⟩) = _
  rw [replAll_lf]; rfl
theorem sub_inner (T : ByteArray) : bytesL (T.extract 1 (T.size - 1)) = ((bytesL T).drop 1).dropLast := by
  rw [bytesL_sub]; unfold sub
  rw [List.dropLast_eq_take, List.length_drop, bytesL_length]
set_option maxRecDepth 100000 in
set_option maxHeartbeats 4000000 in
theorem s_content (s : ByteArray) (m : Int) (w : World) (hs : s.size ≤ 1000000) (hm : w.cell? ⟨0, 0, none⟩ = some (.int .i64 m)) :
    Calls Tryz.prog 57 #[.string s] w fun e w' => e = .returned (.string (mk (codeT (bytesL s)))) ∧ Below w.heap.size w w' := by
  have HC := Lib.hid (repl_sp s m w hs hm)
  have HU := Lib.hid (codeT_eq (bytesL s))
  obtain ⟨T, hT⟩ : ∃ T, T = mk (unLF (bytesL s)) := ⟨_, rfl⟩
  have hTb : bytesL T = unLF (bytesL s) := by rw [hT]; exact bytesL_mk' _
  have hTz : T.size ≤ 1000000 := by
    have h1 : (bytesL T).length = T.size := bytesL_length T
    rw [hTb] at h1; unfold unLF at h1; rw [List.length_map, bytesL_length] at h1; omega
  rw [← hT] at HC
  rw [← hTb] at HU
  have HP : Hid (∀ W, Calls Tryz.prog 50 #[.string T, .string ⟨#[32]⟩] W fun e w' => e = .returned (.bool (Lib.hasPrefix (bytesL T) [32])) ∧ W = w') := Lib.hid fun W => (Tryz.strings_HasPrefix T ⟨#[32]⟩ W).mono (by rintro e w' ⟨rfl, rfl⟩; exact ⟨rfl, rfl⟩)
  have HS : Hid (∀ W, Calls Tryz.prog 77 #[.string T, .string ⟨#[32]⟩] W fun e w' => e = .returned (.bool (Lib.hasSuffix (bytesL T) [32])) ∧ W = w') := Lib.hid fun W => (Tryz.strings_HasSuffix T ⟨#[32]⟩ W (by omega)).mono (by rintro e w' ⟨rfl, rfl⟩; exact ⟨rfl, rfl⟩)
  have HT := Lib.hid fun W => trim_any T W hTz
  have h1 := pre_sp (bytesL T)
  have h2 := suf_sp (bytesL T)
  have h3 := trim_nil (bytesL T)
  have HIn := Lib.hid (sub_inner T)
  have hp1 : Lib.hasPrefix (bytesL T) [32] = true → 1 ≤ T.size := fun h => by
    have := h1.1 h
    rcases Nat.eq_zero_or_pos T.size with h | h
    · have hb : bytesL T = [] := List.eq_nil_of_length_eq_zero (by rw [bytesL_length]; exact h)
      rw [hb] at this; cases this
    · exact h
  have hp2 : (bytesL T).any (· != 32) = true → Lib.hasPrefix (bytesL T) [32] = true → 2 ≤ T.size := fun h h' => by
    have h0 := hp1 h'
    rcases Nat.lt_or_ge T.size 2 with h5 | h5
    · exfalso
      have hl : (bytesL T).length = 1 := by rw [bytesL_length]; omega
      obtain ⟨a, ha⟩ := List.length_eq_one_iff.1 hl
      have := h1.1 h'
      rw [ha] at this h
      simp at this
      subst this
      simp at h
    · exact h5
  generalize codeT (bytesL s) = R at *
  have h3' : trimL (bytesL T) = [] ↔ (bytesL T).any (· != 32) = false := h3
  generalize trimL (bytesL T) = X at *
  generalize Lib.hasPrefix (bytesL T) [32] = p at *
  generalize Lib.hasSuffix (bytesL T) [32] = q at *
  generalize (bytesL T).any (· != 32) = r at *
  have HF0 : Hid (¬ (p = true ∧ q = true ∧ r = true) → mk R = T) := Lib.hid fun h => by
    rw [HU.out, if_neg fun c => h ⟨h1.2 c.1, h2.2 c.2.1, c.2.2⟩]; exact mk_bytesL T
  have HF1 : Hid (p = true ∧ q = true ∧ r = true → mk R = T.extract 1 (T.size - 1)) := Lib.hid fun h => by
    rw [HU.out, if_pos ⟨h1.1 h.1, h2.1 h.2.1, h.2.2⟩, ← HIn.out]; exact mk_bytesL _
  clear h1 h2 h3 HU hT hTb HIn hm
  cases p
  · have HF := Lib.hid (HF0.out (by simp))
    go_enter Tryz.func57, Tryz.ntmps57
    go_wp2_with fail
    ((with_reducible refine HC.out.mono ?_))
    rintro e w1 ⟨rfl, b1⟩
    go_wp2_with fail
    ((with_reducible refine (HP.out _).mono ?_))
    rintro e w2 ⟨rfl, rfl⟩
    go_wp2_with fail
    go_ret
    exact ⟨ret_str HF.out.symm, b1⟩
  · cases q
    · have HF := Lib.hid (HF0.out (by simp))
      go_enter Tryz.func57, Tryz.ntmps57
      go_wp2_with fail
      ((with_reducible refine HC.out.mono ?_))
      rintro e w1 ⟨rfl, b1⟩
      go_wp2_with fail
      ((with_reducible refine (HP.out _).mono ?_))
      rintro e w2 ⟨rfl, rfl⟩
      go_wp2_with fail
      ((with_reducible refine (HS.out _).mono ?_))
      rintro e w2 ⟨rfl, rfl⟩
      go_wp2_with fail
      go_ret
      exact ⟨ret_str HF.out.symm, b1⟩
    · cases r
      · have HF := Lib.hid (HF0.out (by simp))
        obtain rfl : X = [] := h3'.2 rfl
        obtain ⟨x1, x2⟩ := nil_list (mk []) rfl
        go_enter Tryz.func57, Tryz.ntmps57
        go_wp2_with fail
        ((with_reducible refine HC.out.mono ?_))
        rintro e w1 ⟨rfl, b1⟩
        go_wp2_with fail
        ((with_reducible refine (HP.out _).mono ?_))
        rintro e w2 ⟨rfl, rfl⟩
        go_wp2_with fail
        ((with_reducible refine (HS.out _).mono ?_))
        rintro e w2 ⟨rfl, rfl⟩
        go_wp2_with fail
        ((with_reducible refine (HT.out _).mono ?_))
        rintro e w2 ⟨rfl, b2⟩
        go_wp2_with fail
        go_ret
        exact ⟨ret_str HF.out.symm, b1.trans (b2.mono b1.size)⟩
      · have HF := Lib.hid (HF1.out ⟨rfl, rfl, rfl⟩)
        have hX : X ≠ [] := fun e => by have := h3'.1 e; cases this
        obtain ⟨x1, x2⟩ := cons_list (mk X) (by rw [bytesL_mk']; exact hX)
        have h5 := hp2 rfl rfl
        have ez : (T.size : Int) - 1 = ((T.size - 1 : Nat) : Int) := by omega
        have hsl : 1 ≤ T.size - 1 := by omega
        go_enter Tryz.func57, Tryz.ntmps57
        go_wp2_with fail
        ((with_reducible refine HC.out.mono ?_))
        rintro e w1 ⟨rfl, b1⟩
        go_wp2_with fail
        ((with_reducible refine (HP.out _).mono ?_))
        rintro e w2 ⟨rfl, rfl⟩
        go_wp2_with fail
        ((with_reducible refine (HS.out _).mono ?_))
        rintro e w2 ⟨rfl, rfl⟩
        go_wp2_with fail
        ((with_reducible refine (HT.out _).mono ?_))
        rintro e w2 ⟨rfl, b2⟩
        go_wp2_with fail
        go_ret
        exact ⟨ret_str HF.out.symm, b1.trans (b2.mono b1.size)⟩

end Go.Proofs.YtfnloonmeilhlaaGreatDoor
namespace Go.Pub
/-- The runs of backticks from i on: where, how long. -/
def runsF (s : ByteArray) : Nat → Nat → List (Nat × Nat)
  | 0, _ => []
  | f + 1, i => if i < s.size then (if bt s i = 96 then (i, runF s i tick) :: runsF s f (i + runF s i tick) else runsF s f (i + 1)) else []
def runsL (s : ByteArray) : List (Nat × Nat) := runsF s s.size 0
/-- A dollar sign stands at k. -/
def dolAt (s : ByteArray) (k : Nat) : Bool := decide (k < s.size) && bt s k == 36
/-- The runs that count: with a dollar sign behind them if d. -/
def runsD (s : ByteArray) (d : Bool) (l : List (Nat × Nat)) : List (Nat × Nat) := l.filter fun p => !d || dolAt s (p.1 + p.2)
/-- Where the runs of n are. -/
def posL (n : Nat) (l : List (Nat × Nat)) : List Nat := (l.filter fun p => p.2 == n).map (·.1)
theorem tick_at {s : ByteArray} {i : Nat} (h : bt s i = 96) : tick (bt s i) = true := by rw [h]; rfl
theorem tick_pos {s : ByteArray} {i : Nat} (hi : i < s.size) (h : bt s i = 96) : 0 < runF s i tick := by
  rw [runF_yes s i tick hi (tick_at h)]; omega
theorem later_head (s : ByteArray) (n : Nat) (d : Bool) : ∀ f i, laterF s n d f i = (posL n (runsD s d (runsF s f i))).head?
  | 0, _ => rfl
  | f + 1, i => by
    unfold laterF runsF
    by_cases h1 : i < s.size
    · rw [if_pos h1, if_pos h1]
      by_cases h2 : bt s i = 96
      · rw [if_pos h2, if_pos h2]
        by_cases h3 : runF s i tick = n ∧ (d = true → i + n < s.size ∧ bt s (i + n) = 36)
        · rw [if_pos h3]
          obtain ⟨h4, h5⟩ := h3
          have h6 : (!d || dolAt s (i + runF s i tick)) = true := by
            cases d
            · rfl
            · have := h5 rfl
              unfold dolAt
              rw [h4, decide_eq_true this.1, this.2]; rfl
          unfold runsD posL
          rw [List.filter_cons, if_pos h6, List.filter_cons, if_pos (by simpa using h4)]
          rfl
        · rw [if_neg h3, later_head s n d f]
          unfold runsD posL
          rw [List.filter_cons]
          split
          · rename_i h6
            rw [List.filter_cons, if_neg]
            simp only [beq_iff_eq]
            intro h4
            refine h3 ⟨h4, fun hd => ?_⟩
            subst hd
            unfold dolAt at h6
            simp only [Bool.not_true, Bool.false_or, Bool.and_eq_true, decide_eq_true_eq, beq_iff_eq] at h6
            rw [← h4]; exact h6
          · rfl
      · rw [if_neg h2, if_neg h2, later_head s n d f]
    · rw [if_neg h1, if_neg h1]; rfl
theorem runsF_ge (s : ByteArray) : ∀ f i, ∀ p ∈ runsF s f i, i ≤ p.1
  | 0, _, p, h => by cases h
  | f + 1, i, p, h => by
    unfold runsF at h
    split at h
    · split at h
      · rw [List.mem_cons] at h
        rcases h with rfl | h
        · exact Nat.le_refl _
        · have := runsF_ge s f _ p h; omega
      · have := runsF_ge s f _ p h; omega
    · cases h
theorem runsF_asc (s : ByteArray) : ∀ f i, (runsF s f i).Pairwise fun p q => p.1 < q.1
  | 0, _ => List.Pairwise.nil
  | f + 1, i => by
    unfold runsF
    split
    · rename_i hi
      split
      · rename_i hb
        refine List.Pairwise.cons (fun q hq => ?_) (runsF_asc s f _)
        have := runsF_ge s f _ q hq
        have := tick_pos hi hb
        show i < q.1
        omega
      · exact runsF_asc s f _
    · exact List.Pairwise.nil
theorem runsF_len (s : ByteArray) : ∀ f i, (runsF s f i).length ≤ s.size - i
  | 0, _ => Nat.zero_le _
  | f + 1, i => by
    unfold runsF
    split
    · rename_i hi
      split
      · rename_i hb
        have := runsF_len s f (i + runF s i tick)
        have := tick_pos hi hb
        rw [List.length_cons]; omega
      · have := runsF_len s f (i + 1); omega
    · exact Nat.zero_le _
theorem runsF_fuel (s : ByteArray) : ∀ f g i, s.size - i ≤ f → s.size - i ≤ g → runsF s f i = runsF s g i
  | 0, 0, _, _, _ => rfl
  | 0, g + 1, i, h, _ => by unfold runsF; rw [if_neg (by omega)]
  | f + 1, 0, i, _, h => by unfold runsF; rw [if_neg (by omega)]
  | f + 1, g + 1, i, h1, h2 => by
    unfold runsF
    by_cases hi : i < s.size
    · rw [if_pos hi, if_pos hi]
      by_cases hb : bt s i = 96
      · have := tick_pos hi hb
        rw [if_pos hb, if_pos hb, runsF_fuel s f g _ (by omega) (by omega)]
      · rw [if_neg hb, if_neg hb, runsF_fuel s f g _ (by omega) (by omega)]
    · rw [if_neg hi, if_neg hi]
/-- No run of backticks reaches over i. -/
def bnd (s : ByteArray) (i : Nat) : Prop := s.size ≤ i ∨ bt s i ≠ 96 ∨ i = 0 ∨ bt s (i - 1) ≠ 96
theorem bnd_runE {s : ByteArray} {i : Nat} (h : bt s i = 96) : bnd s (runE s i) := by
  have k := (runF_all s (fun b => b == bt s i) s.size i (by omega)).2
  unfold bnd
  by_cases hl : runE s i < s.size
  · refine .inr (.inl fun e => ?_)
    have := k hl
    unfold runE at e
    rw [e, h] at this
    cases this
  · exact .inl (by omega)
theorem runE_tick {s : ByteArray} {i : Nat} (h : bt s i = 96) : runE s i = i + runF s i tick := by
  unfold runE
  congr 1
  rw [h]; rfl
theorem runs_from (s : ByteArray) (i : Nat) (hb : bnd s i) : ∀ f j, j ≤ i → s.size - j ≤ f → (runsF s f j).filter (fun p => decide (i ≤ p.1)) = runsF s (s.size - i) i
  | 0, j, hj, hf => by
    rw [runsF_fuel s (s.size - i) 0 i (Nat.le_refl _) (by omega)]; rfl
  | f + 1, j, hj, hf => by
    by_cases he : j = i
    · subst he
      rw [runsF_fuel s (s.size - j) (f + 1) j (Nat.le_refl _) hf]
      exact List.filter_eq_self.2 fun p hp => decide_eq_true (runsF_ge s _ _ p hp)
    · rw [show runsF s (f + 1) j = if j < s.size then (if bt s j = 96 then (j, runF s j tick) :: runsF s f (j + runF s j tick) else runsF s f (j + 1)) else [] from rfl]
      by_cases hl : j < s.size
      · rw [if_pos hl]
        by_cases ht : bt s j = 96
        · rw [if_pos ht, List.filter_cons, if_neg (by simp; omega)]
          refine runs_from s i hb f (j + runF s j tick) ?_ (by have := tick_pos hl ht; omega)
          rcases Nat.lt_or_ge i (j + runF s j tick) with h1 | h1
          · exfalso
            have k := (runF_all s tick s.size j (by omega)).1
            have hle := runF_le s j tick
            have a1 := k i (by omega) h1
            have a2 := k (i - 1) (by omega) (by omega)
            unfold tick at a1 a2
            rw [beq_iff_eq] at a1 a2
            unfold bnd at hb
            rcases hb with h2 | h2 | h2 | h2
            · omega
            · exact h2 a1
            · omega
            · exact h2 a2
          · exact h1
        · rw [if_neg ht]
          exact runs_from s i hb f (j + 1) (by omega) (by omega)
      · rw [if_neg hl, runsF_fuel s (s.size - i) 0 i (Nat.le_refl _) (by omega)]; rfl
theorem asc_drop (x : Nat) : ∀ l : List Nat, l.Pairwise (· < ·) → l.drop (l.countP fun y => !decide (x ≤ y)) = l.filter fun y => decide (x ≤ y)
  | [], _ => rfl
  | y :: l, h => by
    rw [List.pairwise_cons] at h
    rw [List.countP_cons, List.filter_cons]
    by_cases hx : x ≤ y
    · have h0 : l.countP (fun y => !decide (x ≤ y)) = 0 := by
        rw [List.countP_eq_zero]
        intro z hz
        have := h.1 z hz
        simp; omega
      rw [h0, decide_eq_true hx]
      simp only [Bool.not_true, Bool.false_eq_true, if_false, Nat.zero_add, List.drop_zero, if_true]
      rw [List.filter_eq_self.2]
      intro z hz
      have := h.1 z hz
      simp; omega
    · rw [decide_eq_false hx]
      simp only [Bool.not_false, if_true, Bool.false_eq_true, if_false, List.drop_succ_cons]
      exact asc_drop x l h.2
theorem posL_asc (s : ByteArray) (n : Nat) (d : Bool) : (posL n (runsD s d (runsL s))).Pairwise (· < ·) := by
  unfold posL runsD
  rw [List.pairwise_map]
  exact ((runsF_asc s _ _).filter _).filter _
/-- The first run of n from a boundary on, out of the places of all. -/
theorem later_pos (s : ByteArray) (n : Nat) (d : Bool) (i : Nat) (hb : bnd s i) : laterA s i n d = (posL n (runsD s d (runsL s)))[(posL n (runsD s d (runsL s))).countP fun y => !decide (i ≤ y)]? := by
  have h1 := asc_drop i _ (posL_asc s n d)
  have h2 : ∀ (l : List Nat) (k : Nat), l[k]? = (l.drop k).head? := fun l k => by rw [List.head?_drop]
  rw [h2, h1]
  unfold laterA
  rw [later_head]
  have h3 := runs_from s i hb s.size 0 (Nat.zero_le _) (by omega)
  rw [← h3]
  congr 1
  unfold posL runsD runsL
  rw [List.filter_map, List.filter_filter, List.filter_filter, List.filter_filter, List.filter_filter]
  congr 1
  refine List.filter_congr fun p hp => ?_
  show _ = _
  simp only [Function.comp]
  cases (p.2 == n) <;> cases (!d || dolAt s (p.1 + p.2)) <;> cases (decide (i ≤ p.1)) <;> rfl
end Go.Pub
namespace Go.Pub
open Go.RowKit Go.Maps
def numsV (l : List Nat) : List Value := l.map fun x : Nat => Value.int .i64 x
/-- Block b is a map that holds at each number n the numbers f n; all lies in blocks of S. -/
def TickM (P : Program) (w : World) (S : Nat → Prop) (t : TypeId) (b : Nat) (f : Nat → List Nat) : Prop :=
  ∀ W : World, (∀ g, S g → W.heap[g]? = w.heap[g]?) → ∀ n : Nat, n ≤ 1000000 → ∃ A c, (Instr.lookup t (.map (some b)) (.int .i64 n) false).run P W = .ok (.slice A (f n).length c) W ∧ ReadsS W S 1 A (f n).length (numsV (f n))
theorem TickM.keep {P : Program} {w w' : World} {S S' : Nat → Prop} {t : TypeId} {b : Nat} {f : Nat → List Nat} (h : TickM P w S t b f) (hk : ∀ g, S g → w'.heap[g]? = w.heap[g]?) (hS : ∀ g, S g → S' g) : TickM P w' S' t b f := by
  intro W hW n hn
  obtain ⟨A, c, h1, h2⟩ := h W (fun g hg => (hW g (hS g hg)).trans (hk g hg)) n hn
  exact ⟨A, c, h1, h2.keep (fun _ _ => rfl) hS⟩
/-- What a map's datum holds at each number. -/
def itemsD {H : Type} (d : DataW H) : List (DataW H) := match d with
  | .slice es _ => es
  | _ => []
def HoldsN {H : Type} (D : DataW H) (f : Nat → List Nat) : Prop := ∀ n : Nat, itemsD (D.atKey (.int .i64 n) .nil) = Go.ChangeShapes.lits .i64 ((f n).map fun x : Nat => (x : Int))
theorem lits_inj {H : Type} : ∀ {a b : List Int}, Go.ChangeShapes.lits (H := H) .i64 a = Go.ChangeShapes.lits .i64 b → a = b := by
  intro a b h
  unfold Go.ChangeShapes.lits at h
  exact (List.map_inj_right (fun x y hxy => by injection hxy with h1; injection h1)).1 h
theorem items_row {H : Type} {w : World} {base : Nat} {e : TypeId} {v : Value} {zs : List Int} (h : w.ownsInts base e .i64 v zs) : itemsD (rowDatum (H := H) .i64 v zs) = Go.ChangeShapes.lits .i64 zs := by
  rcases h.datum (H := H) with ⟨h1, rfl⟩ | h1 <;> rw [h1]
  · rfl
  · rfl
end Go.Pub
namespace Go.Proofs.YtfnloonmeilhlaaGreatDoor
open Go.RowKit Go.Pub Go.Maps
/-- A map of groups, read later. -/
theorem tick_groups {H : Type} {P : Program} {w : World} {k E t : TypeId} {base : Nat} {e : TypeId} {b m : Nat} {D : DataW H} {f : Nat → List Nat} {B : Nat} (h : w.ownsGroups P k base e .i64 b m D) (K : Keyed P k) (ht : P.underlying t = some (.map k E)) (hz : ∀ W, (zeroValue E).run P W = .ok (.slice none 0 0) W)
    (hk : ∀ n : Nat, n ≤ 1000000 → keyOf P k (.int .i64 n) = some (.int .i64 n)) (hf : HoldsN D f) (hB : B ≤ base) (hBb : B ≤ b) : TickM P w (Rg B w) t b f := by
  intro W hW n hn
  obtain ⟨es, clock, hb, F, hs, rfl, hbb, hlen, hap⟩ := h
  have hlt : b < w.heap.size := (Array.getElem?_eq_some_iff.1 hb).1
  have hb' : W.heap[b]? = some (.map es clock) := (hW b ⟨hBb, hlt⟩).trans hb
  have hn' := hf n
  rcases Maps.fit_look false K ht (hz W) hb' F (hk n hn) with ⟨hrun, _, hat⟩ | ⟨e0, y, hm0, h3, hrun, hR, hat, _⟩
  · rw [hat] at hn'
    have h0 : f n = [] := by
      have := lits_inj (H := H) (a := []) (b := (f n).map fun x : Nat => (x : Int)) hn'
      cases hq : f n with
      | nil => rfl
      | cons a l => rw [hq] at this; cases this
    refine ⟨none, 0, ?_, ?_⟩
    · rw [h0]; exact hrun
    · rw [h0]; exact ReadsS.none_
  · obtain ⟨zs, ho, rfl⟩ := rowElem_inv hR
    rw [hat, items_row ho] at hn'
    have hz2 := lits_inj hn'
    have hv : ∃ A c, e0.val = .slice A zs.length c := by
      rcases ho.1.2 with ⟨hv, h0⟩ | ⟨g, cap, cur, hv, _⟩
      · exact ⟨none, 0, by rw [hv, h0]⟩
      · exact ⟨_, _, hv⟩
    obtain ⟨A, c, hv⟩ := hv
    have ho1 := ho.1
    rw [hv] at ho1 hrun
    have hrd := ReadsS.of_own ho1
    subst hz2
    rw [List.length_map] at hrd hrun
    refine ⟨A, c, hrun, ?_⟩
    have e1 : numsV (f n) = ((f n).map fun x : Nat => (x : Int)).map (Value.int .i64) := by unfold numsV; rw [List.map_map]; rfl
    rw [e1]
    exact hrd.keep (fun g hg => hW g ⟨Nat.le_trans hB hg.1, hg.2⟩) fun g hg => ⟨Nat.le_trans hB hg.1, hg.2⟩
end Go.Proofs.YtfnloonmeilhlaaGreatDoor
namespace Go.Pub
open Go.Maps
theorem HoldsN.made {H : Type} : HoldsN (.map [] : DataW H) fun _ => [] := fun n => by
  show itemsD (DataW.atKey (.map []) (.int .i64 n) .nil) = []
  rfl
theorem HoldsN.put {H : Type} {D : DataW H} {f : Nat → List Nat} {w : World} {base : Nat} {e : TypeId} {v : Value} {zs : List Int} (h : HoldsN D f) (hm : IsMap D) (n x : Nat) (ho : w.ownsInts base e .i64 v (zs ++ [(x : Int)])) (hz : zs = (f n).map fun x : Nat => (x : Int)) :
    HoldsN (D.put (.int .i64 n) (rowDatum .i64 v (zs ++ [(x : Int)]))) fun m => if m = n then f n ++ [x] else f m := by
  intro m
  show itemsD _ = Go.ChangeShapes.lits .i64 ((if m = n then f n ++ [x] else f m).map fun x : Nat => (x : Int))
  by_cases hmn : m = n
  · subst hmn
    rw [if_pos rfl, Maps.atKey_put_same hm (show WideAt.IsKeyLit (.int .i64 m) from trivial), items_row ho, hz, List.map_append]; rfl
  · rw [if_neg hmn, Maps.atKey_put_other (by intro e; injection e with _ e1; exact hmn (by omega))]
    exact h m
/-- What is held at a number, out of what a look-up hands over. -/
theorem HoldsN.row {H : Type} {D : DataW H} {f : Nat → List Nat} {w : World} {base : Nat} {e : TypeId} {v : Value} {zs : List Int} (h : HoldsN D f) {n : Nat} (hat : D.atKey (.int .i64 n) .nil = rowDatum .i64 v zs) (ho : w.ownsInts base e .i64 v zs) : zs = (f n).map fun x : Nat => (x : Int) := by
  have := h n
  rw [hat, items_row ho] at this
  exact lits_inj this
end Go.Pub
namespace Go.Pub
/-- The first of ascending numbers that is at least x, or -1. -/
def laterV (l : List Nat) (x : Nat) : Int := match l[l.countP fun y => !decide (x ≤ y)]? with
  | some y => y
  | none => -1
end Go.Pub
namespace Go.Proofs.YtfnloonmeilhlaaGreatDoor
open Go.RowKit Go.Pub
theorem search_any (w : World) (S : Nat → Prop) (A : Option Addr) (c : Nat) (l : List Nat) (x : Nat) (hr : ReadsS w S 1 A l.length (numsV l)) (hl : l.length ≤ 1000000) (ha : l.Pairwise (· < ·)) :
    Calls Tryz.prog 75 #[.slice A l.length c, .int .i64 x] w fun e w' => e = .returned (.int .i64 (l.countP fun y => !decide (x ≤ y) : Nat)) ∧ Below w.heap.size w w' := by
  rcases Nat.eq_zero_or_pos l.length with h0 | h0
  · have hn : l = [] := List.length_eq_zero_iff.1 h0
    subst hn
    exact Any.sort_SearchInts_none Tryz.searchInts A c x w
  · obtain ⟨b, off, rfl, hS, hc⟩ := hr.row h0 (by decide)
    have hsz : (l.map fun y : Nat => (y : Int)).toArray.size = l.length := by simp
    have hb : b < w.heap.size := World.block_lt_of_cell? _ _ (hc 0 (.int .i64 (l[0] : Nat)) (by unfold numsV; rw [List.getElem?_map, List.getElem?_eq_getElem h0]; rfl))
    have hg : ∀ i, (h : i < l.length) → (l.map fun y : Nat => (y : Int)).toArray[i]! = (l[i] : Int) := fun i h => by
      rw [getElem!_pos _ i (by rw [hsz]; exact h)]; simp
    have h := Any.sort_SearchInts Tryz.searchInts b off c (l.map fun y : Nat => (y : Int)).toArray x w (fun i hi => by
        rw [hsz] at hi
        rw [hg i hi]
        exact hc i _ (by unfold numsV; rw [List.getElem?_map, List.getElem?_eq_getElem hi]; rfl)) hb (by rw [hsz]; omega) (fun p q hpq hq hx => by
        rw [hsz] at hq
        rw [hg q hq]
        rw [hg p (by omega)] at hx
        have hx' := of_decide_eq_true hx
        apply decide_eq_true
        rcases Nat.lt_or_ge p q with h | h
        · have := List.pairwise_iff_getElem.1 ha p q (by omega) hq h
          omega
        · have : p = q := by omega
          subst this; exact hx')
    rw [hsz] at h
    have e1 : (l.map fun y : Nat => (y : Int)).toArray.toList.countP (fun y => !decide ((x : Int) ≤ y)) = l.countP fun y => !decide (x ≤ y) := by
      rw [List.countP_map]
      congr 1
      funext y
      simp
    rw [e1] at h
    exact h
set_option maxRecDepth 100000 in
set_option maxHeartbeats 1000000 in
theorem s_later (w : World) (S : Nat → Prop) (A : Option Addr) (c : Nat) (l : List Nat) (x : Nat) (hr : ReadsS w S 1 A l.length (numsV l)) (hl : l.length ≤ 1000000) (ha : l.Pairwise (· < ·)) :
    Calls Tryz.prog 56 #[.slice A l.length c, .int .i64 x] w fun e w' => e = .returned (.int .i64 (laterV l x)) ∧ Below w.heap.size w w' := by
  have HS := Lib.hid (search_any w S A c l x hr hl ha)
  have HV : Hid (laterV l x = match l[l.countP fun y => !decide (x ≤ y)]? with | some y => (y : Int) | none => -1) := Lib.hid rfl
  generalize laterV l x = V at *
  generalize (l.countP fun y => !decide (x ≤ y)) = k at *
  by_cases hk : k < l.length
  · obtain ⟨b, off, rfl, hSb, hc⟩ := hr.row (by omega) (by decide)
    have hck := hc k (.int .i64 (l[k] : Nat)) (by unfold numsV; rw [List.getElem?_map, List.getElem?_eq_getElem hk]; rfl)
    have hb := World.block_lt_of_cell? _ _ hck
    have HF : Hid (V = (l[k] : Int)) := Lib.hid (by rw [HV.out, List.getElem?_eq_getElem hk])
    have Hck := Lib.hid hck
    generalize l[k] = y at *
    clear hc hck hr HV
    go_enter Tryz.func56, Tryz.ntmps56
    go_wp2_with fail
    ((with_reducible refine HS.out.mono ?_))
    rintro e w1 ⟨rfl, b1⟩
    have hc1 : w1.cell? ⟨b, off + k, none⟩ = some (.int .i64 y) := (b1.cell (p := ⟨b, off + k, none⟩) hb).trans Hck.out
    go_wp2_with fail
    go_ret
    exact ⟨ret_int HF.out.symm, b1⟩
  · have HF : Hid (V = -1) := Lib.hid (by rw [HV.out, List.getElem?_eq_none (by omega)])
    clear hr HV
    go_enter Tryz.func56, Tryz.ntmps56
    go_wp2_with fail
    ((with_reducible refine HS.out.mono ?_))
    rintro e w1 ⟨rfl, b1⟩
    go_wp2_with fail
    go_ret
    exact ⟨ret_int HF.out.symm, b1⟩

end Go.Proofs.YtfnloonmeilhlaaGreatDoor
