/-
  Texts of the proof, put together (what this law reaches): ScQ, ScAH.
-/
import Derived.Test.YtfnloonmeilhlaaGreatDoorT28
import Derived.Test.YtfnloonmeilhlaaGreatDoorT27
import Derived.Test.YtfnloonmeilhlaaGreatDoorT22
import Derived.Test.YtfnloonmeilhlaaGreatDoorT10
import Derived.Deep.AppendLies
import Derived.Test.YtfnloonmeilhlaaGreatDoorT36
import Derived.Test.YtfnloonmeilhlaaGreatDoorT32
import Derived.Test.YtfnloonmeilhlaaGreatDoorT37
set_option linter.unusedVariables false
set_option linter.unusedSimpArgs false
namespace Go.Proofs.YtfnloonmeilhlaaGreatDoor
open Go.RowKit Go.Pub
def useC (t : ByteArray) (A : Option Addr) (n c : Nat) : Array Value := #[.int .i64 15, .string t, .string ⟨#[]⟩, .string ⟨#[]⟩, .string ⟨#[]⟩, .slice none 0 0, .slice none 0 0, .slice A n c, .slice none 0 0, .slice none 0 0]
/-- The memory of a use that is being read. -/
structure UseW (w : World) (t : ByteArray) (xs : List ByteArray) (A : Option Addr) (c : Nat) (wr : World) : Prop where
  res : Blk wr w.heap.size 32 zIn
  inl : Blk wr (w.heap.size + 1) 32 (useC t A xs.length c)
  own : wr.ownsRow (w.heap.size + 2) 9 1 (.slice A xs.length c) xs.length (strs xs)
  bel : Below w.heap.size w wr
theorem UseW.start (w : World) (t : ByteArray) : UseW w t [] none 0 ((w.alloc (.cells zIn 32)).alloc (.cells (useC t none 0 0) 32)) := by
  refine ⟨(Blk.new w _ _).alloc _, ?_, World.ownsRow_nil _ _ _ _, ((Below.refl _ _).alloc (Nat.le_refl _) _).alloc (by simp) _⟩
  have := Blk.new (w.alloc (.cells zIn 32)) 32 (useC t none 0 0)
  simpa using this
theorem UseW.size {w : World} {t : ByteArray} {xs : List ByteArray} {A : Option Addr} {c : Nat} {wr : World} (h : UseW w t xs A c wr) : w.heap.size + 2 ≤ wr.heap.size := by have := h.inl.lt; omega
theorem UseW.drewN {w : World} {t : ByteArray} {xs : List ByteArray} {A : Option Addr} {c : Nat} {wr : World} (h : UseW w t xs A c wr) (n : Nat) : UseW w t xs A c (wr.drewN n) :=
  ⟨h.res.drewN n, h.inl.drewN n, h.own.kept (grown_of_below (below_drewN (Below.refl _ _) n) none) (by cases (Value.slice A xs.length c).ownBlock <;> simp), below_drewN h.bel n⟩
/-- Behind an argument that is appended. -/
theorem UseW.put {w wd w1 w2 : World} {t : ByteArray} {xs : List ByteArray} {A : Option Addr} {c : Nat} {y : ByteArray} {g cap : Nat} (h : UseW w t xs A c wd) (h1 : w1 = wd.alloc (.cells #[.string y] 9))
    (ho : w2.ownsRow (w.heap.size + 2) 9 1 (.slice (some ⟨g, 0, none⟩) (xs.length + 1) cap) (xs.length + 1) (strs xs ++ [.string y])) (hg : w1.grownBy w2 (Value.slice A xs.length c).ownBlock) :
    UseW w t (xs ++ [y]) (some ⟨g, 0, none⟩) cap (w2.setCell ⟨w.heap.size + 1, 7, none⟩ (.slice (some ⟨g, 0, none⟩) (xs.length + 1) cap)) := by
  subst h1
  have hz := h.size
  have hne : ∀ k, k < w.heap.size + 2 → some k ≠ (Value.slice A xs.length c).ownBlock := fun k hk e => by have := (h.own.lt k e.symm).1; omega
  have e1 : strs (xs ++ [y]) = strs xs ++ [.string y] := by unfold strs; rw [List.map_append]; rfl
  have e2 : (xs ++ [y]).length = xs.length + 1 := by simp
  refine ⟨?_, ?_, ?_, ?_⟩
  · exact ((h.res.alloc _).grown hg (hne _ (by omega))).far (by simp) _
  · rw [e2]
    exact ((h.inl.alloc _).grown hg (hne _ (by omega))).set_ 7 _
  · rw [e1, e2]
    exact ownsRow_setCell_below ho (by simp) _
  · exact ((h.bel.alloc (by omega) _).grown hg (by simp; omega) (fun k hk => by have := (h.own.lt k hk).1; omega)).setCell (by simp) _
theorem in_use {R : Option (InL × Nat)} {w wr : World} {t : ByteArray} {xs : List ByteArray} {A : Option Addr} {c k : Nat} (hR : R = some ({ kind := 15, text := t, args := xs }, k)) (h : UseW w t xs A c wr) (y0 y1 y2 y3 y4 y5 y6 y7 y8 y9 : Value) {n : Int} (hn : n = k) :
    InPost R w (.returned (.tuple #[.agg (useC t A xs.length c), .int .i64 n])) ((((((((((wr.setCell ⟨w.heap.size, 0, none⟩ y0).setCell ⟨w.heap.size, 1, none⟩ y1).setCell ⟨w.heap.size, 2, none⟩ y2).setCell ⟨w.heap.size, 3, none⟩ y3).setCell ⟨w.heap.size, 4, none⟩ y4).setCell ⟨w.heap.size, 5, none⟩ y5).setCell ⟨w.heap.size, 6, none⟩ y6).setCell ⟨w.heap.size, 7, none⟩ y7).setCell ⟨w.heap.size, 8, none⟩ y8).setCell ⟨w.heap.size, 9, none⟩ y9) := by
  subst hR; subst hn
  refine ⟨below10 h.bel (Nat.le_refl _) _ _ _ _ _ _ _ _ _ _, A, c, none, 0, rfl, ?_, ReadsS.none_⟩
  have h2 : ∀ q : Nat, (⟨w.heap.size, q, none⟩ : Addr).block < w.heap.size + 2 := fun q => by show w.heap.size < w.heap.size + 2; omega
  have ho := ownsRow_setCell_below (ownsRow_setCell_below (ownsRow_setCell_below (ownsRow_setCell_below (ownsRow_setCell_below (ownsRow_setCell_below (ownsRow_setCell_below (ownsRow_setCell_below (ownsRow_setCell_below (ownsRow_setCell_below h.own (h2 0) y0) (h2 1) y1) (h2 2) y2) (h2 3) y3) (h2 4) y4) (h2 5) y5) (h2 6) y6) (h2 7) y7) (h2 8) y8) (h2 9) y9
  exact (ReadsS.of_own ho).keep (fun _ _ => rfl) fun g hg => ⟨by have := hg.1; omega, hg.2⟩
end Go.Proofs.YtfnloonmeilhlaaGreatDoor
namespace Go.Proofs.YtfnloonmeilhlaaGreatDoor
open Go.RowKit Go.Pub
set_option maxRecDepth 100000 in
set_option maxHeartbeats 8000000 in
theorem s_use (s : ByteArray) (i : Nat) (w : World) (hs : s.size ≤ 1000000) (hi : i < s.size) : Calls Tryz.prog 37 #[.string s, .int .i64 i] w (InPost (useI s i) w) := by
  have HN := Lib.hid fun W => s_nameEnd s (i + 2) W hs
  have HA := Lib.hid fun W => name_any (s.extract (i + 2) (wordAt s (i + 2))) W (by rw [ByteArray.size_extract]; omega)
  have HP1 := Lib.hid fun W => pre_any s i ⟨#[123, 123]⟩ W
  rw [show bytesL (⟨#[123, 123]⟩ : ByteArray) = [123, 123] from rfl] at HP1
  have HP2 := Lib.hid fun (k : Nat) W => pre_any s k ⟨#[125, 125]⟩ W
  rw [show bytesL (⟨#[125, 125]⟩ : ByteArray) = [125, 125] from rfl] at HP2
  obtain ⟨i0, hi0, hz0, hz1, hz2⟩ := info_parts str_info
  obtain ⟨R, hR⟩ : ∃ R, R = useI s i := ⟨_, rfl⟩
  rw [← hR]
  rw [useI_eq] at hR
  by_cases hq : begB s i [123, 123] = true
  · have hl := begB_len hq (by simp)
    rw [if_pos hq] at hR
    rw [hq] at HP1
    have hk1 := (wordAt_bd s (i + 2)).1
    have hk2 := (wordAt_bd s (i + 2)).2 hl
    clear hq hl
    generalize wordAt s (i + 2) = K at *
    generalize hnm : nameB (s.extract (i + 2) K) = nm at *
    cases nm
    · have HF : Hid (R = none) := Lib.hid (by rw [hR, if_neg (by simp)])
      clear hR hnm HP2
      go_enter Tryz.func37, Tryz.ntmps37
      go_wp2_with fail
      ((with_reducible refine (HP1.out _).mono ?_))
      rintro e w1 ⟨rfl, rfl⟩
      go_wp2_with fail
      (refine (HN.out _).mono ?_)
      rintro e w1 ⟨rfl, rfl⟩
      go_wp2_with fail
      ((with_reducible refine (HA.out _).mono ?_))
      rintro e w1 ⟨rfl, rfl⟩
      go_wp2_with fail
      exact in_ret Tryz.results37 ((Blk.new w _ _).alloc _) rfl rfl rfl (in_none HF.out (((Below.refl _ w).alloc (Nat.le_refl _) _).alloc (by simp) _))
    · clear hnm
      rw [if_pos rfl] at hR
      have HR := Lib.hid hR
      obtain ⟨AA, hAA⟩ : ∃ AA, AA = argsF s 8 K := ⟨_, rfl⟩
      rw [← hAA] at HR
      have HAA : Hid (AA = ([] ++ (argsF s (8 - ([] : List ByteArray).length) K).1, (argsF s (8 - ([] : List ByteArray).length) K).2)) := Lib.hid (by rw [hAA]; rfl)
      clear hR hAA
      have HZ := Lib.hid (UseW.start w (s.extract (i + 2) K))
      have HT : Hid (s.extract (i + 2) K = s.extract (i + 2) K) := Lib.hid rfl
      go_enter Tryz.func37, Tryz.ntmps37
      go_wp2_with fail
      ((with_reducible refine (HP1.out _).mono ?_))
      rintro e w1 ⟨rfl, rfl⟩
      go_wp2_with fail
      (refine (HN.out _).mono ?_)
      rintro e w1 ⟨rfl, rfl⟩
      go_wp2_with fail
      ((with_reducible refine (HA.out _).mono ?_))
      rintro e w1 ⟨rfl, rfl⟩
      go_wp2_with fail
      go_loopw [6, 7] (fun _ v7 wr => ∃ (k : Nat) (xs : List ByteArray) (A : Option Addr) (c : Nat), v7 = .int .i64 k ∧ K ≤ k ∧ k ≤ s.size ∧ xs.length ≤ 8 ∧ Hid (AA = (xs ++ (argsF s (8 - xs.length) k).1, (argsF s (8 - xs.length) k).2)) ∧ Hid (UseW w (s.extract (i + 2) K) xs A c wr)) (fun _ v7 _ => s.size - (intOf v7).toNat)
      case atStart => exact ⟨K, [], none, 0, rfl, Nat.le_refl _, hk2, Nat.zero_le _, HAA, HZ⟩
      case round =>
        clear HAA HZ HP1 HN HA
        obtain ⟨k, xs, A, c, rfl, hKk, hk, hx8, HX, HU⟩ := hrel
        have HT := Lib.hid (show ∃ T, T = s.extract (i + 2) K from ⟨_, rfl⟩)
        generalize s.extract (i + 2) K = T at *
        by_cases hg : k < s.size ∧ bt s k = 124
        · obtain ⟨hl, h124⟩ := hg
          have hgk := get_bt s k hl
          rw [h124] at hgk
          have c7 : wr.cell? ⟨w.heap.size + 1, 7, none⟩ = some (.slice A xs.length c) := HU.out.inl.cell 7
          have f7 : wr.frozen? ⟨w.heap.size + 1, 7, none⟩ = false := HU.out.inl.frozen 7
          by_cases h8 : xs.length = 8
          · have HF : Hid (R = none) := Lib.hid (by
              have e1 := args_full s AA xs k h8 HX.out
              rw [HR.out, e1]
              have hbb : begB s k [125, 125] = false := by
                cases hb : begB s k [125, 125] with
                | false => rfl
                | true =>
                  have h2 : bt s k = 125 := begB_at hb
                  omega
              show (if begB s k [125, 125] = true then _ else _) = none
              rw [hbb]; rfl)
            rw [h8] at c7
            clear h124 HX HR HP2
            obtain ⟨r0, r1, r2, r3, r4, r5, r6, r7, r8, r9, p0, p1, p2, p3, p4, p5, p6, p7, p8, p9⟩ := in_facts HU.out.res
            go_wp2_with fail
            exact in_ret Tryz.results37 (blk10 HU.out.res _ _ _ _ _ _ _ _ _ _) rfl rfl rfl (in_none HF.out (below10 HU.out.bel (Nat.le_refl _) _ _ _ _ _ _ _ _ _ _))
          · have e8 : ((xs.length : Int) == 8) = false := beq_eq_false_iff_ne.2 (by omega)
            have hx7 : xs.length < 8 := by omega
            have HE := Lib.hid fun e h1 h2 h3 h4 => argE_eq s k e h1 h2 h3 h4
            have HST := Lib.hid fun e he => args_step s AA xs k e hx7 hl h124 he HX.out
            clear h124 HX HR HP2 h8
            go_wp2_with fail
            go_loop [7] (fun v => ∃ e : Nat, v = .int .i64 e ∧ k + 1 ≤ e ∧ e ≤ s.size ∧ Hid (∀ j, k + 1 ≤ j → j < e → bt s j ≠ 124 ∧ bt s j ≠ 123 ∧ bt s j ≠ 125 ∧ bt s j ≠ 10)) (fun v => s.size - (intOf v).toNat)
            case atStart => exact ⟨k + 1, by go_num, Nat.le_refl _, hl, Lib.hid fun j h1 h2 => by omega⟩
            case round =>
              clear hgk
              obtain ⟨e, rfl, hke, he, HJ⟩ := hrel
              obtain ⟨q, hq⟩ : ∃ q, q = (decide (e < s.size) && !(bt s e == 124 || bt s e == 123 || bt s e == 125 || bt s e == 10)) := ⟨_, rfl⟩
              have HQ := Lib.hid hq
              clear hq
              go_upto_region 13 with fail
              go_cut [75] from 48 to 77 (fun s75 wx => s75 = .bool q ∧ wr = wx)
              case first =>
                clear c7 f7 e8
                by_cases hl2 : e < s.size
                · have hg := get_bt s e hl2
                  by_cases hb : bt s e = 124 ∨ bt s e = 123 ∨ bt s e = 125 ∨ bt s e = 10
                  · have HQ2 : Hid (q = false) := Lib.hid (by rw [HQ.out]; rcases hb with h | h | h | h <;> rw [h] <;> simp)
                    clear HQ
                    rcases hb with h | h | h | h
                    all_goals
                      rw [h] at hg
                      clear h
                      go_wp2_with fail
                      go_meet
                      case rel => exact ⟨by rw [HQ2.out], rfl⟩
                  · have HQ2 : Hid (q = true) := Lib.hid (by
                      rw [HQ.out, decide_eq_true hl2]
                      have n1 : (bt s e == 124) = false := beq_eq_false_iff_ne.2 fun x => hb (.inl x)
                      have n2 : (bt s e == 123) = false := beq_eq_false_iff_ne.2 fun x => hb (.inr (.inl x))
                      have n3 : (bt s e == 125) = false := beq_eq_false_iff_ne.2 fun x => hb (.inr (.inr (.inl x)))
                      have n4 : (bt s e == 10) = false := beq_eq_false_iff_ne.2 fun x => hb (.inr (.inr (.inr x)))
                      rw [n1, n2, n3, n4]; rfl)
                    have n1 : ((bt s e : Int) != 124) = true := bne_iff_ne.2 (by omega)
                    have n2 : ((bt s e : Int) != 123) = true := bne_iff_ne.2 (by omega)
                    have n3 : ((bt s e : Int) != 125) = true := bne_iff_ne.2 (by omega)
                    have n4 : ((bt s e : Int) != 10) = true := bne_iff_ne.2 (by omega)
                    clear HQ hb
                    generalize bt s e = b at *
                    go_wp2_with fail
                    go_meet
                    case rel => exact ⟨by rw [HQ2.out], rfl⟩
                · have HQ2 : Hid (q = false) := Lib.hid (by rw [HQ.out, decide_eq_false hl2]; rfl)
                  clear HQ
                  go_wp2_with fail
                  go_meet
                  case rel => exact ⟨by rw [HQ2.out], rfl⟩
              case rest =>
              obtain ⟨rfl, rfl⟩ := hcut
              cases q
              · have HEe : Hid (argE s k = e) := Lib.hid (HE.out e hke he HJ.out fun h => by
                  have := HQ.out
                  rw [decide_eq_true h, Bool.true_and] at this
                  simp at this
                  omega)
                have HNX := Lib.hid (HST.out e HEe.out)
                have hsl : k + 1 ≤ e := hke
                have HY := Lib.hid (show ∃ Y, Y = s.extract (k + 1) e from ⟨_, rfl⟩)
                clear HQ HE HST HEe HJ
                go_wp2_with fail
                refine wp_region_held_drew (S := fun _ => True) (by kernel_rfl) trivial (fun hHeld => ?_)
                refine tk 0 (.pointer (some ⟨w.heap.size + 1, 7, none⟩)) rfl hHeld (fun W' hSw => ?_) ?_
                · go_simp
                refine tk 2 (.string s) rfl hHeld (fun W' hSw => ?_) ?_
                · go_simp
                refine tk 3 (.int .i64 ((k : Int) + 1)) rfl hHeld (fun W' hSw => ?_) ?_
                · go_simp
                refine tk 4 (.int .i64 e) rfl hHeld (fun W' hSw => ?_) ?_
                · go_simp
                refine tk 5 (.string (s.extract (k + 1) e)) rfl hHeld (fun W' hSw => ?_) ?_
                · go_simp
                  intro h
                  exfalso
                  have := h (by omega)
                  omega
                have hz := HU.out.size
                have HUd := Lib.hid (HU.out.drewN 1)
                change Hid (UseW w T xs A c wr.drew) at HUd
                have c7d : wr.drew.cell? ⟨w.heap.size + 1, 7, none⟩ = some (.slice A xs.length c) := c7
                have c7a := HUd.out.inl.alloc (.cells #[.string (s.extract (k + 1) e)] 9)
                have c7b : (wr.drew.alloc (.cells #[.string (s.extract (k + 1) e)] 9)).cell? ⟨w.heap.size + 1, 7, none⟩ = some (.slice A xs.length c) := c7a.cell 7
                have c7e : (wr.alloc (.cells #[.string (s.extract (k + 1) e)] 9)).drew.cell? ⟨w.heap.size + 1, 7, none⟩ = some (.slice A xs.length c) := c7b
                have hzd : wr.drew.heap.size = wr.heap.size := rfl
                generalize s.extract (k + 1) e = y at *
                refine wpAnyH_ready (rs := [1, 6]) (by kernel_rfl) (by simp) (AllReadyH.cons rfl (fun K hK => ?_) (AllReadyH.cons rfl (fun K hK => ?_) AllReadyH.nil))
                · go_simp
                  refine hK.out _ _ trivial (fun hHeld => ?_)
                  clear hK K
                  refine rd1 6 rfl (fun K hK => ?_)
                  go_simp
                  refine hK.out _ _ trivial (fun hHeld => ?_)
                  clear hK K
                  refine rd1 7 rfl (fun K hK => ?_)
                  refine step_append_lies _ rfl (.tmp 79) (.tmp 84) 25 rfl (w.heap.size + 2) 9 i0 _ 1 16 Tryz.underlying25 hi0 hz0 hz1 hz2 rfl (by decide) _ _ _ rfl (HUd.out.own.alloc _) ⟨wr.drew.heap.size, 0, none⟩ 1 1 [.string y] rfl rfl ?c1 ?c2 (by decide) ?c3 ?c4 ?c5 (wr.heap.size + 1) ?c6 ?_
                  case c1 => exact World.news_of_block (t := 9) (fr := (0, 0)) (cs := #[.string y]) (heap_alloc_new wr.drew _)
                  case c2 => intro u hu; simp at hu; subst hu; rfl
                  case c3 => unfold maxLen; omega
                  case c4 => omega
                  case c5 => simp; omega
                  case c6 => simp
                  intro g7 cap7 w2 hown3 hgrow hlies hlt3
                  have HP := Lib.hid (HUd.out.put rfl hown3 hgrow)
                  have hne : some (w.heap.size + 1) ≠ (Value.slice A xs.length c).ownBlock := fun e => by have := (HUd.out.own.lt _ e.symm).1; omega
                  have f9 : w2.frozen? ⟨w.heap.size + 1, 7, none⟩ = false := (c7a.grown hgrow hne).frozen 7
                  have c9 : w2.cell? ⟨w.heap.size + 1, 7, none⟩ = some (.slice A xs.length c) := (c7a.grown hgrow hne).cell 7
                  clear hlies hown3 hgrow
                  go_simp
                  refine hK.out _ _ trivial (fun hHeld => ?_)
                  clear hK K
                  refine rd1 8 rfl (fun K hK => ?_)
                  go_simp
                  refine hK.out _ _ trivial (fun hHeld => ?_)
                  clear hK K
                  refine rd1 9 rfl (fun K hK => ?_)
                  go_simp
                  refine hK.out _ _ trivial (fun hHeld => ?_)
                  clear hK K
                  refine wpAnyH_done (by kernel_rfl) ?_ _
                  go_wp2_with fail
                  go_roundw
                  case rel => exact ⟨e, xs ++ [y], some ⟨g7, 0, none⟩, cap7, rfl, by omega, he, by simp; omega, HNX, HP⟩
                  case measure => simp [intOf]; omega
                · go_simp
                  refine hK.out _ _ trivial (fun hHeld => ?_)
                  clear hK K
                  refine rd1 1 rfl (fun K hK => ?_)
                  go_simp
                  refine hK.out _ _ trivial (fun hHeld => ?_)
                  clear hK K
                  refine rd1 7 rfl (fun K hK => ?_)
                  refine step_append_lies _ rfl (.tmp 79) (.tmp 84) 25 rfl (w.heap.size + 2) 9 i0 _ 1 16 Tryz.underlying25 hi0 hz0 hz1 hz2 rfl (by decide) _ _ _ rfl (HUd.out.own.alloc _) ⟨wr.drew.heap.size, 0, none⟩ 1 1 [.string y] rfl rfl ?d1 ?d2 (by decide) ?d3 ?d4 ?d5 (wr.heap.size + 1) ?d6 ?_
                  case d1 => exact World.news_of_block (t := 9) (fr := (0, 0)) (cs := #[.string y]) (heap_alloc_new wr.drew _)
                  case d2 => intro u hu; simp at hu; subst hu; rfl
                  case d3 => unfold maxLen; omega
                  case d4 => omega
                  case d5 => simp; omega
                  case d6 => simp
                  intro g7 cap7 w2 hown3 hgrow hlies hlt3
                  have HP := Lib.hid (HUd.out.put rfl hown3 hgrow)
                  have hne : some (w.heap.size + 1) ≠ (Value.slice A xs.length c).ownBlock := fun e => by have := (HUd.out.own.lt _ e.symm).1; omega
                  have f9 : w2.frozen? ⟨w.heap.size + 1, 7, none⟩ = false := (c7a.grown hgrow hne).frozen 7
                  have c9 : w2.cell? ⟨w.heap.size + 1, 7, none⟩ = some (.slice A xs.length c) := (c7a.grown hgrow hne).cell 7
                  clear hlies hown3 hgrow
                  go_simp
                  refine hK.out _ _ trivial (fun hHeld => ?_)
                  clear hK K
                  refine rd1 8 rfl (fun K hK => ?_)
                  go_simp
                  refine hK.out _ _ trivial (fun hHeld => ?_)
                  clear hK K
                  refine rd1 9 rfl (fun K hK => ?_)
                  go_simp
                  refine hK.out _ _ trivial (fun hHeld => ?_)
                  clear hK K
                  refine wpAnyH_done (by kernel_rfl) ?_ _
                  go_wp2_with fail
                  go_roundw
                  case rel => exact ⟨e, xs ++ [y], some ⟨g7, 0, none⟩, cap7, rfl, by omega, he, by simp; omega, HNX, HP⟩
                  case measure => simp [intOf]; omega
              · have hl2 : e < s.size ∧ (bt s e ≠ 124 ∧ bt s e ≠ 123 ∧ bt s e ≠ 125 ∧ bt s e ≠ 10) := by
                  have := HQ.out
                  simp at this
                  exact ⟨this.1, by omega⟩
                have HJ2 : Hid (∀ j, k + 1 ≤ j → j < e + 1 → bt s j ≠ 124 ∧ bt s j ≠ 123 ∧ bt s j ≠ 125 ∧ bt s j ≠ 10) := Lib.hid fun j h1 h2 => by
                  by_cases x : j = e
                  · subst x; exact hl2.2
                  · exact HJ.out j h1 (by omega)
                have hl3 := hl2.1
                clear hl2 HQ
                go_wp2_with fail
                go_round
                case rel => exact ⟨e + 1, by go_num, by omega, by omega, HJ2⟩
                case measure => simp [intOf]; omega
        · have HAX := Lib.hid (args_stop s AA xs _ k hg HX.out)
          have HPk := Lib.hid fun W => HP2.out k W
          have HQ2 : Hid (R = if begB s k [125, 125] = true then some ({ kind := 15, text := T, args := xs }, k + 2) else none) := Lib.hid (by rw [HR.out, HAX.out])
          obtain ⟨r0, r1, r2, r3, r4, r5, r6, r7, r8, r9, p0, p1, p2, p3, p4, p5, p6, p7, p8, p9⟩ := in_facts HU.out.res
          obtain ⟨u0', u1', u2', u3', u4', u5', u6', u7', u8', u9', z0, z1, z2, z3, z4, z5, z6, z7, z8, z9⟩ := in_facts (show Blk wr (w.heap.size + 1) 32 #[.int .i64 15, .string T, .string ⟨#[]⟩, .string ⟨#[]⟩, .string ⟨#[]⟩, .slice none 0 0, .slice none 0 0, .slice A xs.length c, .slice none 0 0, .slice none 0 0] from HU.out.inl)
          clear HX HR HP2 HAX
          generalize begB s k [125, 125] = q at *
          have hgg : ¬ k < s.size ∨ (k < s.size ∧ bt s k ≠ 124) := by
            by_cases h : k < s.size
            · exact .inr ⟨h, fun x => hg ⟨h, x⟩⟩
            · exact .inl h
          clear hg
          rcases hgg with hl | ⟨hl, hb⟩
          · cases q
            · have HF : Hid (R = none) := Lib.hid (by rw [HQ2.out, if_neg (by simp)])
              clear HQ2
              go_wp2_with fail
              ((with_reducible refine (HPk.out _).mono ?_))
              rintro e w1 ⟨rfl, rfl⟩
              go_wp2_with fail
              exact in_ret Tryz.results37 (blk10 HU.out.res _ _ _ _ _ _ _ _ _ _) rfl rfl rfl (in_none HF.out (below10 HU.out.bel (Nat.le_refl _) _ _ _ _ _ _ _ _ _ _))
            · have HF : Hid (R = some ({ kind := 15, text := T, args := xs }, k + 2)) := Lib.hid (by rw [HQ2.out, if_pos rfl])
              clear HQ2
              go_wp2_with fail
              ((with_reducible refine (HPk.out _).mono ?_))
              rintro e w1 ⟨rfl, rfl⟩
              go_wp2_with fail
              exact in_ret Tryz.results37 (blk10 HU.out.res _ _ _ _ _ _ _ _ _ _) rfl rfl rfl (in_use HF.out HU.out _ _ _ _ _ _ _ _ _ _ (by omega))
          · have hgk := get_bt s k hl
            have n1 : ((bt s k : Int) == 124) = false := beq_eq_false_iff_ne.2 (by omega)
            clear hb
            generalize bt s k = b at *
            cases q
            · have HF : Hid (R = none) := Lib.hid (by rw [HQ2.out, if_neg (by simp)])
              clear HQ2
              go_wp2_with fail
              ((with_reducible refine (HPk.out _).mono ?_))
              rintro e w1 ⟨rfl, rfl⟩
              go_wp2_with fail
              exact in_ret Tryz.results37 (blk10 HU.out.res _ _ _ _ _ _ _ _ _ _) rfl rfl rfl (in_none HF.out (below10 HU.out.bel (Nat.le_refl _) _ _ _ _ _ _ _ _ _ _))
            · have HF : Hid (R = some ({ kind := 15, text := T, args := xs }, k + 2)) := Lib.hid (by rw [HQ2.out, if_pos rfl])
              clear HQ2
              go_wp2_with fail
              ((with_reducible refine (HPk.out _).mono ?_))
              rintro e w1 ⟨rfl, rfl⟩
              go_wp2_with fail
              exact in_ret Tryz.results37 (blk10 HU.out.res _ _ _ _ _ _ _ _ _ _) rfl rfl rfl (in_use HF.out HU.out _ _ _ _ _ _ _ _ _ _ (by omega))
  · have hqf : begB s i [123, 123] = false := by simpa using hq
    rw [if_neg hq] at hR
    rw [hqf] at HP1
    have HF := Lib.hid hR
    clear hR HN HA HP2 hq hqf
    go_enter Tryz.func37, Tryz.ntmps37
    go_wp2_with fail
    ((with_reducible refine (HP1.out _).mono ?_))
    rintro e w1 ⟨rfl, rfl⟩
    go_wp2_with fail
    exact in_ret Tryz.results37 (Blk.new w _ _) rfl rfl rfl (in_none HF.out ((Below.refl _ w).alloc (Nat.le_refl _) _))

end Go.Proofs.YtfnloonmeilhlaaGreatDoor
namespace Go.Pub
theorem spAt_runE {s : ByteArray} {i : Nat} (hi : i < s.size) (h : bt s i = 32) : runE s i = spAt s i := by
  obtain ⟨h1, h2⟩ := spAt_spec s i
  obtain ⟨h3, h4⟩ := spAt_bd' s i
  have h5 := h4 (by omega)
  unfold runE
  have : runF s i (fun b => b == bt s i) = spAt s i - i := runF_eq s _ i _ (by omega) (fun j h6 h7 => by rw [h1 j h6 (by omega), h]; rfl) fun h6 => by
    rw [show i + (spAt s i - i) = spAt s i by omega] at h6 ⊢
    rw [h]
    exact beq_eq_false_iff_ne.2 fun e => h2 ⟨h6, e⟩
  omega
theorem spAt_stay {s : ByteArray} {i : Nat} (h : bt s i ≠ 32) : spAt s i = i := by unfold spAt; exact spEnd_stop s _ i fun c => h c.2
theorem piece_of {s : ByteArray} {i : Nat} {p : PcL} (h : spec s i = some p) : pieceA s i = (p, false) := by unfold pieceA; rw [h]
theorem piece_lit {s : ByteArray} {i : Nat} (h : spec s i = none) : pieceA s i = (litP s i (litE s i), true) := by unfold pieceA; rw [h]
theorem piece_opt {s : ByteArray} {i e : Nat} {o : Option (InL × Nat)} (h : spec s i = o.map (pcI · i)) (he : litE s i = e) : pieceA s i = match (motive := Option (InL × Nat) → PcL × Bool) o with | some x => (pcI x i, false) | none => (litP s i e, true) := by
  cases o with
  | none => rw [piece_lit (by rw [h]; rfl), he]
  | some x => exact piece_of (by rw [h]; rfl)
theorem litE_next {s : ByteArray} {i : Nat} (h : bt s i ≠ 32 ∧ bt s i ≠ 96 ∧ bt s i ≠ 126) : litE s i = i + (Utf8.decode s i).2 := by
  unfold litE; rw [if_neg (by omega)]
theorem piece_92 {s : ByteArray} {i : Nat} (h : bt s i = 92) : pieceA s i = match (motive := Option (InL × Nat) → PcL × Bool) escI s i with | some x => (pcI x i, false) | none => (litP s i (i + (Utf8.decode s i).2), true) := piece_opt (by unfold spec; simp [h]) (litE_next (by omega))
theorem piece_38 {s : ByteArray} {i : Nat} (h : bt s i = 38) : pieceA s i = match (motive := Option (InL × Nat) → PcL × Bool) entI s i with | some x => (pcI x i, false) | none => (litP s i (i + (Utf8.decode s i).2), true) := piece_opt (by unfold spec; simp [h]) (litE_next (by omega))
theorem piece_60 {s : ByteArray} {i : Nat} (h : bt s i = 60) : pieceA s i = match (motive := Option (InL × Nat) → PcL × Bool) autI s i with | some x => (pcI x i, false) | none => (litP s i (i + (Utf8.decode s i).2), true) := piece_opt (by unfold spec; simp [h]) (litE_next (by omega))
theorem piece_123 {s : ByteArray} {i : Nat} (h : bt s i = 123) : pieceA s i = match (motive := Option (InL × Nat) → PcL × Bool) useI s i with | some x => (pcI x i, false) | none => (litP s i (i + (Utf8.decode s i).2), true) := piece_opt (by unfold spec; simp [h]) (litE_next (by omega))
theorem piece_36 {s : ByteArray} {i : Nat} (h : bt s i = 36) : pieceA s i = match (motive := Option (InL × Nat) → PcL × Bool) (mathI s i).or (dolI s i) with | some x => (pcI x i, false) | none => (litP s i (i + (Utf8.decode s i).2), true) := piece_opt (by unfold spec; simp [h]) (litE_next (by omega))
theorem piece_96 {s : ByteArray} {i : Nat} (h : bt s i = 96) : pieceA s i = match (motive := Option (InL × Nat) → PcL × Bool) codeI s i with | some x => (pcI x i, false) | none => (litP s i (runE s i), true) := piece_opt (by unfold spec; simp [h]) (by unfold litE; rw [if_pos (.inr (.inl h))])
theorem piece_32 {s : ByteArray} {i : Nat} (hi : i < s.size) (h : bt s i = 32 ∨ bt s i = 10) : pieceA s i = if spAt s i < s.size ∧ bt s (spAt s i) = 10 then (pcI ({ kind := 2 }, spAt s (spAt s i + 1)) i, false) else (litP s i (spAt s i), true) := by
  have hs : spec s i = if spAt s i < s.size ∧ bt s (spAt s i) = 10 then some (pcI ({ kind := 2 }, spAt s (spAt s i + 1)) i) else none := by
    unfold spec; rcases h with h | h <;> simp [h]
  by_cases c : spAt s i < s.size ∧ bt s (spAt s i) = 10
  · rw [if_pos c] at hs ⊢; exact piece_of hs
  · rw [if_neg c] at hs ⊢
    rcases h with h | h
    · rw [piece_lit hs]; unfold litE; rw [if_pos (.inl h), spAt_runE hi h]
    · exact absurd ⟨by rw [spAt_stay (by omega)]; exact hi, by rw [spAt_stay (by omega)]; exact h⟩ c
theorem piece_91 {s : ByteArray} {i : Nat} (h : bt s i = 91) : pieceA s i = (match (motive := Option (InL × Nat) → PcL) (namI s i).or (citI s i) with | some r => pcI r i | none => { kind := 2, bg := i, nd := i + 1 }, false) := piece_of (by unfold spec; simp [h]; cases (namI s i).or (citI s i) <;> rfl)
theorem piece_33 {s : ByteArray} {i : Nat} (h : bt s i = 33) : pieceA s i = if i + 1 < s.size ∧ bt s (i + 1) = 91 then ({ kind := 2, img := true, bg := i, nd := i + 2 }, false) else (litP s i (i + (Utf8.decode s i).2), true) := by
  have hs : spec s i = if i + 1 < s.size ∧ bt s (i + 1) = 91 then some { kind := 2, img := true, bg := i, nd := i + 2 } else none := by unfold spec; simp [h]
  by_cases c : i + 1 < s.size ∧ bt s (i + 1) = 91
  · rw [if_pos c] at hs ⊢; exact piece_of hs
  · rw [if_neg c] at hs ⊢; rw [piece_lit hs, litE_next (by omega)]
theorem piece_93 {s : ByteArray} {i : Nat} (h : bt s i = 93) : pieceA s i = ({ kind := 3, bg := i, nd := i + 1 }, false) := piece_of (by unfold spec; simp [h])
def kindB (b : Nat) : Bool := [92, 32, 10, 38, 36, 96, 60, 123, 91, 33, 93, 42, 95, 126].contains b
theorem piece_els {s : ByteArray} {i : Nat} (h : kindB (bt s i) = false) : pieceA s i = (litP s i (i + (Utf8.decode s i).2), true) := by
  unfold kindB at h
  simp at h
  rw [piece_lit (by unfold spec; simp [h]), litE_next (by omega)]
end Go.Pub
namespace Go.Proofs.YtfnloonmeilhlaaGreatDoor
open Go.RowKit Go.Pub
/-- The memory of piece: its reader, its result, the inline, the end. -/
def PcSt (s : ByteArray) (b1 b2 : Nat) (vs : Array Value) (t : Int) (w W : World) : Prop :=
  Blk W w.heap.size 63 #[.string s, .map (some b1), .map (some b2)] ∧ Blk W (w.heap.size + 1) 34 zPc ∧ Blk W (w.heap.size + 1 + 1) 32 vs ∧ Blk W (w.heap.size + 1 + 1 + 1) 3 #[.int .i64 t] ∧ Below w.heap.size w W
theorem PcSt.start (s : ByteArray) (b1 b2 : Nat) (w : World) : PcSt s b1 b2 zIn 0 w ((((w.alloc (.cells #[.string s, .map (some b1), .map (some b2)] 63)).alloc (.cells #[.int .i64 0, .int .i64 0, .string ⟨#[]⟩, .string ⟨#[]⟩, .string ⟨#[]⟩, .string ⟨#[]⟩, .slice none 0 0, .slice none 0 0, .slice none 0 0, .slice none 0 0, .slice none 0 0, .string ⟨#[]⟩, .int .i64 0, .bool false, .bool false, .bool false, .int .i64 0, .int .i64 0] 34)).alloc (.cells #[.int .i64 0, .string ⟨#[]⟩, .string ⟨#[]⟩, .string ⟨#[]⟩, .string ⟨#[]⟩, .slice none 0 0, .slice none 0 0, .slice none 0 0, .slice none 0 0, .slice none 0 0] 32)).alloc (.cells #[.int .i64 0] 3)) := by
  refine ⟨(((Blk.new w _ _).alloc _).alloc _).alloc _, ?_, ?_, ?_, ((((Below.refl _ _).alloc (Nat.le_refl _) _).alloc (by simp) _).alloc (by simp; omega) _).alloc (by simp; omega) _⟩
  · have := (Blk.new (w.alloc (.cells #[.string s, .map (some b1), .map (some b2)] 63)) 34 zPc)
    rw [World.size_alloc] at this
    exact (this.alloc _).alloc _
  · have := (Blk.new ((w.alloc (.cells #[.string s, .map (some b1), .map (some b2)] 63)).alloc (.cells zPc 34)) 32 zIn)
    simp only [World.size_alloc] at this
    exact this.alloc _
  · have := (Blk.new (((w.alloc (.cells #[.string s, .map (some b1), .map (some b2)] 63)).alloc (.cells zPc 34)).alloc (.cells zIn 32)) 3 #[.int .i64 0])
    simp only [World.size_alloc] at this
    exact this
theorem PcSt.below {s : ByteArray} {b1 b2 : Nat} {vs : Array Value} {t : Int} {w W W' : World} (h : PcSt s b1 b2 vs t w W) (hb : Below W.heap.size W W') : PcSt s b1 b2 vs t w W' := by
  obtain ⟨h1, h2, h3, h4, h5⟩ := h
  have := h1.lt
  exact ⟨h1.below hb h1.lt, h2.below hb h2.lt, h3.below hb h3.lt, h4.below hb h4.lt, h5.trans (hb.mono (by omega))⟩
theorem pc_foundN {s : ByteArray} {b1 b2 : Nat} {w W : World} (h : PcSt s b1 b2 zIn 0 w W) :
    Calls Tryz.prog 28 #[.agg zIn, .int .i64 0, .pointer (some ⟨w.heap.size + 1 + 1, 0, none⟩), .pointer (some ⟨w.heap.size + 1 + 1 + 1, 0, none⟩)] W fun e W' => e = .returned (.bool false) ∧ PcSt s b1 b2 zIn 0 w W' := by
  obtain ⟨h1, h2, h3, h4, h5⟩ := h
  refine (s_found (w.heap.size + 1 + 1) (w.heap.size + 1 + 1 + 1) 0 0 0 ⟨#[]⟩ ⟨#[]⟩ ⟨#[]⟩ none 0 0 none 0 0 _ _ _ _ _ _ _ _ _ _ W h3 h4 (by omega)).mono ?_
  rintro e W' ⟨rfl, g1, g2, g3, _⟩
  have hz := h4.lt
  have g4 := g3 (w.heap.size + 1 + 1) (by omega) (by omega) (by omega)
  exact ⟨rfl, h1.below g4 (by omega), h2.below g4 (by omega), g1, g2, h5.trans (g4.mono (by omega))⟩
theorem pc_foundS {s : ByteArray} {b1 b2 : Nat} {w W : World} (h : PcSt s b1 b2 zIn 0 w W) (x : InL) (k : Nat) (A1 : Option Addr) (c1 : Nat) (A2 : Option Addr) (c2 : Nat) (hk : 0 < k) :
    Calls Tryz.prog 28 #[.agg (inC x A1 c1 A2 c2), .int .i64 k, .pointer (some ⟨w.heap.size + 1 + 1, 0, none⟩), .pointer (some ⟨w.heap.size + 1 + 1 + 1, 0, none⟩)] W fun e W' => e = .returned (.bool true) ∧ PcSt s b1 b2 (inC x A1 c1 A2 c2) k w W' ∧ (∀ g, g < W.heap.size → g ≠ w.heap.size + 1 + 1 → g ≠ w.heap.size + 1 + 1 + 1 → W'.heap[g]? = W.heap[g]?) ∧ W.heap.size ≤ W'.heap.size := by
  obtain ⟨h1, h2, h3, h4, h5⟩ := h
  refine (s_found (w.heap.size + 1 + 1) (w.heap.size + 1 + 1 + 1) k 0 x.kind x.text x.dest x.title A1 x.args.length c1 A2 x.cites.length c2 _ _ _ _ _ _ _ _ _ _ W h3 h4 (by omega)).mono ?_
  rintro e W' ⟨rfl, g1, g2, g3, g5⟩
  have hz := h4.lt
  have g4 := g3 (w.heap.size + 1 + 1) (by omega) (by omega) (by omega)
  exact ⟨by rw [decide_eq_true (by omega)], ⟨h1.below g4 (by omega), h2.below g4 (by omega), g1, g2, h5.trans (g4.mono (by omega))⟩, g5, g4.size⟩
/-- What is handed back, an inline was found. -/
theorem pc_found {w V W : World} {x : InL × Nat} {i : Nat} {A1 A2 : Option Addr} {c1 c2 : Nat} {v : Value} {B : Nat} (hb : Below w.heap.size w W) (hir : InR V (Rg B V) x.1 A1 A2) (hk : (∀ g, g < V.heap.size → g ≠ w.heap.size + 1 + 1 → g ≠ w.heap.size + 1 + 1 + 1 → W.heap[g]? = V.heap[g]?) ∧ V.heap.size ≤ W.heap.size) (hB : w.heap.size + 1 + 1 + 1 < B)
    (hv : v = .agg (pcC (noBg (pcI x i)) A1 c1 A2 c2)) (cs : Array Value) :
    PcPost (noBg (pcI x i)) false w (.returned (.tuple #[v, .bool false])) (W.setRow (w.heap.size + 1) cs) := by
  subst hv
  refine ⟨row_below hb (by omega) _, A1, c1, A2, c2, rfl, ?_⟩
  refine InR.keep (x := x.1) hir (fun g hg => ?_) fun g hg => ⟨by have := hg.1; omega, by rw [row_size]; have := hg.2; omega⟩
  rw [row_far _ _ _ _ (by have := hg.1; omega)]
  exact hk.1 g hg.2 (by have := hg.1; omega) (by have := hg.1; omega)
/-- What another function has read is handed back. -/
theorem pc_again {w W : World} {p : PcL} {pl : Bool} {A1 A2 : Option Addr} {c1 c2 : Nat} {v : Value} {B : Nat} (hb : Below w.heap.size w W) (hir : InR W (Rg B W) p.inl A1 A2) (hB : w.heap.size + 1 + 1 + 1 < B) (hv : v = .agg (pcC p A1 c1 A2 c2)) (cs : Array Value) :
    PcPost p pl w (.returned (.tuple #[v, .bool pl])) (W.setRow (w.heap.size + 1) cs) := by
  subst hv
  refine ⟨row_below hb (by omega) _, A1, c1, A2, c2, rfl, ?_⟩
  exact InR.keep hir (fun g hg => row_far _ _ _ _ (by have := hg.1; omega)) fun g hg => ⟨by have := hg.1; omega, by rw [row_size]; have := hg.2; omega⟩
end Go.Proofs.YtfnloonmeilhlaaGreatDoor
