/-
  Texts of the proof, put together (what this law reaches): NsW, NsX, NsXA, NsXB.
-/
import Derived.Test.YtpoafhgbhnblmaaGreatDoorD18
import Derived.Test.YtpoafhgbhnblmaaGreatDoorD19
import Derived.Test.YtpoafhgbhnblmaaGreatDoorD15
import Derived.Test.YtpoafhgbhnblmaaGreatDoorD06
set_option linter.unusedVariables false
set_option linter.unusedSimpArgs false
namespace Go.Proofs.YtpoafhgbhnblmaaGreatDoor
open Go.RowKit Go.Pub
theorem n_at (rec1 rec2 : List ByteArray → Option (List BkT)) (d : Nat) (hd : d ≤ 15) (zs : List ByteArray) (A : Option Addr) (c i B : Nat) (MM : Int) (A9 : Option Addr) (c9 : Nat) (A10 : Option Addr) (c10 : Nat) (w : World) (h1 : RecP rec1 (d + 1) MM) (h2 : d + 1 ≤ 15 → RecP rec2 (d + 2) MM) (hL : LinesAt w A zs MM) (hi : i < zs.length) (hb : blankB (ln zs i) = false) (hc : zs.length ≤ c) (hcm : c ≤ maxLen) (hB : B ≤ w.heap.size) (ha : AttR w (Rg B w) (markM (ln zs i)).att A9 A10) :
    Calls Tryz.prog 39 #[.slice A zs.length c, .int .i64 i, .agg ((markM (ln zs i)).cells (.slice A9 (markM (ln zs i)).att.cl.length c9) (.slice A10 (markM (ln zs i)).att.pr.length c10)), .int .i64 d] w
      (BkPost B (blockT rec1 rec2 (decide (d + 1 ≤ 15)) (decide (d + 2 ≤ 15)) zs i (markM (ln zs i))) w) := by
  have hk := (mark_kinds (ln zs i)).2 hb
  have hls := ln_size hL.sz i
  have hoff : (markM (ln zs i)).off ≤ 1000000 := Nat.le_trans (mark_small (ln zs i)).2 (by omega)
  have hok : (markM (ln zs i)).kind = 5 ∨ (markM (ln zs i)).kind = 6 → MkOk (markM (ln zs i)) := mkOk (ln zs i) hls
  have hok10 : (markM (ln zs i)).kind = 10 → MkOk (markM (ln zs i)) := fun h => ⟨hoff, Nat.le_trans (mark_rest (ln zs i) (by omega)).1 hls, fun e => by omega⟩
  generalize markM (ln zs i) = m at *
  unfold blockT
  by_cases e2 : m.kind = 2
  · rw [if_pos e2]; exact n_at2 d hd zs A c i B MM m A9 c9 A10 c10 w hL hi hc hcm hB ha e2
  rw [if_neg e2]
  by_cases e3 : m.kind = 3
  · rw [if_pos e3]; exact n_at3 d hd zs A c i B MM m A9 c9 A10 c10 w hL hi hc hcm hB ha e3
  rw [if_neg e3]
  by_cases e11 : m.kind = 11
  · rw [if_pos e11]; exact n_at11 d hd zs A c i B MM m A9 c9 A10 c10 w hL hi hc hcm hB ha e11
  rw [if_neg e11]
  by_cases e4 : m.kind = 4
  · rw [if_pos e4]; exact n_at4 rec1 d hd zs A c i B MM m A9 c9 A10 c10 w hL hi hc hcm hB ha e4 h1
  rw [if_neg e4]
  by_cases e7 : m.kind = 7
  · rw [if_pos e7]; exact n_at7 d hd zs A c i B MM m A9 c9 A10 c10 w hL hi hc hcm hB ha e7 hoff
  rw [if_neg e7]
  by_cases e8 : m.kind = 8
  · rw [if_pos e8]; exact n_at8 d hd zs A c i B MM m A9 c9 A10 c10 w hL hi hc hcm hB ha e8
  rw [if_neg e8]
  by_cases e9 : m.kind = 9
  · rw [if_pos e9]; exact n_at9 rec1 d hd zs A c i B MM m A9 c9 A10 c10 w hL hi hc hcm hB ha e9 h1
  rw [if_neg e9]
  by_cases e10 : m.kind = 10
  · rw [if_pos e10]; exact n_at10 rec1 d hd zs A c i B MM m A9 c9 A10 c10 w hL hi hc hcm hB ha e10 h1 (hok10 e10)
  rw [if_neg e10]
  by_cases e56 : m.kind = 5 ∨ m.kind = 6
  · rw [if_pos e56]; exact n_at56 rec2 d hd zs A c i B MM m A9 c9 A10 c10 w hL hi hc hcm hB ha e56 h2 (hok e56)
  rw [if_neg e56]
  have e0 : m.kind = 0 := by omega
  by_cases hh : headAt zs i = true
  · rw [if_pos hh]; exact n_atT d hd zs A c i B MM m A9 c9 A10 c10 w hL hi hc hcm hB ha e0 hh
  · rw [if_neg hh]; exact n_atP d hd zs A c i B MM m A9 c9 A10 c10 w hL hi hc hcm hB ha e0 (by simpa using hh)
/-- The blocks at a depth. -/
def AllP (n : Nat) : Prop := ∀ (d : Nat), n + d = 16 → ∀ (zs : List ByteArray) (A : Option Addr) (c : Nat) (MM : Int) (w : World), LinesAt w A zs MM → zs.length ≤ c → c ≤ maxLen → Calls Tryz.prog 30 #[.slice A zs.length c, .int .i64 d] w (BksPostC (blocksN n zs) w)
theorem recP_of (n d : Nat) (hnd : n + d = 16) (MM : Int) (h : AllP n) : RecP (fun l => (blocksN n l).map (·.1)) d MM := fun zs A c W hL hc hcm => (h d hnd zs A c MM W hL hc hcm).mono fun e w' hp => by
  obtain ⟨hb, hp⟩ := hp
  refine ⟨?_, hb⟩
  cases hr : blocksN n zs with
  | none => rw [hr] at hp; simp only [hr, Option.map_none]; exact hp
  | some p =>
    rw [hr] at hp
    obtain ⟨v, A2, c2, rfl, hk, _, _⟩ := hp
    obtain ⟨A1, c1, vs, rfl, h1, h2⟩ := hk
    simp only [hr, Option.map_some]
    exact ⟨A1, c1, A2, _, c2, rfl, A1, c1, vs, rfl, h1, h2⟩
theorem n_all : ∀ n, AllP n := by
  intro n
  induction n using Nat.strongRecOn with
  | ind n ih =>
    intro d hnd zs A c MM w hL hc hcm
    refine n_blocksC n d hnd zs A c MM w hL ?_
    intro hn0 i B W A9 c9 A10 c10 hi hb hB hLW ha
    match n, hn0, hnd, ih with
    | 0, hn0, hnd, ih =>
      exact absurd rfl hn0
    | 1, hn0, hnd, ih =>
      have hd : d = 15 := by omega
      subst hd
      rw [atN_one]
      have := n_at (fun l => (blocksN 0 l).map (·.1)) (fun _ => none) 15 (by omega) zs A c i B MM A9 c9 A10 c10 W (recP_of 0 16 rfl MM (ih 0 (by omega))) (fun h => absurd h (by omega)) hLW hi hb hc hcm hB ha
      exact this
    | n + 2, hn0, hnd, ih =>
      rw [atN_two]
      have e1 : decide (d + 1 ≤ 15) = true := decide_eq_true (by omega)
      have e2 : decide (d + 2 ≤ 15) = decide (1 ≤ n) := decide_eq_decide.2 (by omega)
      have := n_at (fun l => (blocksN (n + 1) l).map (·.1)) (fun l => (blocksN n l).map (·.1)) d (by omega) zs A c i B MM A9 c9 A10 c10 W (recP_of (n + 1) (d + 1) (by omega) MM (ih (n + 1) (by omega))) (fun _ => recP_of n (d + 2) (by omega) MM (ih n (by omega))) hLW hi hb hc hcm hB ha
      rw [e1, e2] at this
      exact this
end Go.Proofs.YtpoafhgbhnblmaaGreatDoor
namespace Go.Proofs.YtpoafhgbhnblmaaGreatDoor
open Go.RowKit Go.Pub
theorem n_parse (zs : List ByteArray) (A : Option Addr) (c : Nat) (MM : Int) (w : World) (hL : LinesAt w A zs MM) (hc : zs.length ≤ c) (hcm : c ≤ maxLen) :
    Calls Tryz.prog 22 #[.slice A zs.length c] w (BksPostC (blocksN 16 zs) w) := by
  have hlen := hL.len
  have HB : Hid (Calls Tryz.prog 30 #[.slice A zs.length c, .int .i64 0] w (BksPostC (blocksN 16 zs) w)) := Lib.hid (n_all 16 0 rfl zs A c MM w hL hc hcm)
  have d1 : decide (16384 < (zs.length : Int)) = false := decide_eq_false (by omega)
  have d2 : decide (16384 < zs.length) = false := decide_eq_false (by omega)
  obtain ⟨R, hR⟩ : ∃ R, R = blocksN 16 zs := ⟨_, rfl⟩
  rw [← hR] at HB ⊢
  clear hL hR
  go_enter Tryz.func22, Tryz.ntmps22
  go_wp2_with fail
  ((with_reducible refine (HB.out).mono ?_))
  rintro e w1 ⟨b1, hp⟩
  have HB1 := Lib.hid b1
  cases R with
  | none =>
    subst hp
    unfold bkErr
    go_wp2_with fail
    go_ret3
    exact ⟨HB1.out, rfl⟩
  | some p =>
    obtain ⟨v, A2, c2, rfl, hk, hr, A', c', hcv, hcc⟩ := hp
    have HK := Lib.hid hk
    have HR := Lib.hid hr
    obtain ⟨A1, c1, vs, rfl, _, _⟩ := hk
    have hcap : p.1.length ≤ c1 := by injection hcv with _ _ e; rw [e]; exact hcc
    clear hcv hcc
    clear hr
    go_wp2_with fail
    go_ret3
    exact ⟨HB1.out, _, _, _, rfl, HK.out, HR.out, _, _, rfl, hcap⟩
/-- The blocks, or the error. -/
def NsPPost (r : Option (List BkT × List (Nat × Nat))) (w : World) (e : Ending) (w' : World) : Prop :=
  Below w.heap.size w w' ∧ match r with
  | none => e = .returned (.tuple #[.slice none 0 0, .int .i64 11])
  | some p => ∃ A c, e = .returned (.tuple #[.slice A p.1.length c, .int .i64 0]) ∧ KidsV w' (Rg w.heap.size w') (.slice A p.1.length c) p.1 ∧ p.1.length ≤ c
/-- The ranges, or the error. -/
def NsRPost (r : Option (List BkT × List (Nat × Nat))) (w : World) (e : Ending) (w' : World) : Prop :=
  Below w.heap.size w w' ∧ match r with
  | none => e = .returned (.tuple #[.slice none 0 0, .int .i64 11])
  | some p => ∃ A c, e = .returned (.tuple #[.slice A p.2.length c, .int .i64 0]) ∧ ReadsS w' (Rg w.heap.size w') 2 A p.2.length (rngs p.2)
theorem n_Parse (zs : List ByteArray) (A : Option Addr) (c : Nat) (MM : Int) (w : World) (hL : LinesAt w A zs MM) (hc : zs.length ≤ c) (hcm : c ≤ maxLen) :
    Calls Tryz.prog 12 #[.slice A zs.length c] w (NsPPost (blocksN 16 zs) w) := by
  have HB := Lib.hid (n_parse zs A c MM w hL hc hcm)
  obtain ⟨R, hR⟩ : ∃ R, R = blocksN 16 zs := ⟨_, rfl⟩
  rw [← hR] at HB ⊢
  clear hL hR
  go_enter Tryz.func12, Tryz.ntmps12
  go_wp2_with fail
  ((with_reducible refine (HB.out).mono ?_))
  rintro e w1 ⟨b1, hp⟩
  have HB1 := Lib.hid b1
  cases R with
  | none =>
    subst hp
    unfold bkErr
    go_wp2_with fail
    go_ret2
    exact ⟨HB1.out, rfl⟩
  | some p =>
    obtain ⟨v, A2, c2, rfl, hk, hr, A', c', hcv, hcc⟩ := hp
    have HK := Lib.hid hk
    obtain ⟨A1, c1, vs, rfl, _, _⟩ := hk
    have hcap : p.1.length ≤ c1 := by injection hcv with _ _ e; rw [e]; exact hcc
    clear hcv hcc
    clear hr
    go_wp2_with fail
    go_ret2
    exact ⟨HB1.out, _, _, rfl, HK.out, hcap⟩
theorem n_Ranges (zs : List ByteArray) (A : Option Addr) (c : Nat) (MM : Int) (w : World) (hL : LinesAt w A zs MM) (hc : zs.length ≤ c) (hcm : c ≤ maxLen) :
    Calls Tryz.prog 15 #[.slice A zs.length c] w (NsRPost (blocksN 16 zs) w) := by
  have HB := Lib.hid (n_parse zs A c MM w hL hc hcm)
  obtain ⟨R, hR⟩ : ∃ R, R = blocksN 16 zs := ⟨_, rfl⟩
  rw [← hR] at HB ⊢
  clear hL hR
  go_enter Tryz.func15, Tryz.ntmps15
  go_wp2_with fail
  ((with_reducible refine (HB.out).mono ?_))
  rintro e w1 ⟨b1, hp⟩
  have HB1 := Lib.hid b1
  cases R with
  | none =>
    subst hp
    unfold bkErr
    go_wp2_with fail
    go_ret2
    exact ⟨HB1.out, rfl⟩
  | some p =>
    obtain ⟨v, A2, c2, rfl, hk, hr, A', c', hcv, hcc⟩ := hp
    have HR := Lib.hid hr
    obtain ⟨A1, c1, vs, rfl, _, _⟩ := hk
    have hcap : p.1.length ≤ c1 := by injection hcv with _ _ e; rw [e]; exact hcc
    clear hcv hcc
    clear hr
    go_wp2_with fail
    go_ret2
    exact ⟨HB1.out, _, _, rfl, HR.out⟩
end Go.Proofs.YtpoafhgbhnblmaaGreatDoor
namespace Go.Proofs.YtpoafhgbhnblmaaGreatDoor
open Go.RowKit Go.Pub
def exL1 : List ByteArray := [⟨#[45, 32, 97]⟩, ⟨#[32, 32, 45, 32, 98]⟩]
def exL2 : List ByteArray := [⟨#[97]⟩, ⟨#[]⟩, ⟨#[35, 32, 84]⟩]
def exB1 : List BkT := [.mk 7 0 ⟨#[]⟩ ⟨#[]⟩ ⟨#[]⟩ ⟨#[]⟩ emptyA ⟨#[]⟩ [kidB 9 [leafB 1 ⟨#[97]⟩, .mk 7 0 ⟨#[]⟩ ⟨#[]⟩ ⟨#[]⟩ ⟨#[]⟩ emptyA ⟨#[]⟩ [kidB 9 [leafB 1 ⟨#[98]⟩]]]]]
theorem ex_b1 : blocksN 16 exL1 = some (exB1, [(0, 2)]) := by kernel_rfl
theorem ex_b2 : (blocksN 16 exL2).map (·.2) = some [(0, 1), (2, 3)] := by kernel_rfl
end Go.Proofs.YtpoafhgbhnblmaaGreatDoor
namespace Go.Proofs.YtpoafhgbhnblmaaGreatDoor
open Go.RowKit Go.Pub
def CleanOk (zs : List ByteArray) : Prop := zs.length ≤ 60 ∧ ∀ z ∈ zs, z.size ≤ 150
def ClnPost (zs : List ByteArray) (w : World) (e : Ending) (w' : World) : Prop := (∃ b : Bool, e = .returned (.bool b) ∧ (b = true → CleanOk zs)) ∧ Below w.heap.size w w'
set_option maxRecDepth 100000 in
set_option maxHeartbeats 2000000 in
theorem l7_clean (zs : List ByteArray) (A : Option Addr) (c : Nat) (w : World) (hr : Reads w w.heap.size 1 A zs.length (strs zs)) (hl : zs.length ≤ maxLen) (hx : ∀ x ∈ zs, x.size ≤ maxLen) :
    Calls Tryz.prog 10 #[.slice A zs.length c] w (ClnPost zs w) := by
  unfold maxLen at hl hx
  by_cases h60 : 60 < zs.length
  · have d1 : decide (60 < (zs.length : Int)) = true := decide_eq_true (by omega)
    have d2 : decide (60 < zs.length) = true := decide_eq_true h60
    clear hr
    go_enter Tryz.func10, Tryz.ntmps10
    go_wp2_with fail
    go_ret
    exact ⟨⟨false, rfl, fun h => by cases h⟩, Below.refl _ _⟩
  have d1 : decide (60 < (zs.length : Int)) = false := decide_eq_false (by omega)
  have d2 : decide (60 < zs.length) = false := decide_eq_false h60
  have HRd := Lib.hid hr
  have HX := Lib.hid hx
  have HFa : Hid (∀ w' b, Below w.heap.size w w' → (b = true → CleanOk zs) → ClnPost zs w (.returned (.bool b)) w') := Lib.hid fun w' b h1 h2 => ⟨⟨b, rfl, h2⟩, h1⟩
  have HVa : Hid (∀ z : ByteArray, z.size ≤ 150 → ∀ W, Calls Tryz.prog 21 #[.string z] W fun e w' => e = .returned (.bool (validB z)) ∧ Below W.heap.size W w') := Lib.hid fun z hz W => rValid_any z W (by omega)
  clear hr hx
  go_enter Tryz.func10, Tryz.ntmps10
  go_wp2_with fail
  go_loopw [3] (fun v3 wr => ∃ k : Nat, v3 = .int .i64 k ∧ k ≤ zs.length ∧ Below w.heap.size w wr ∧ Hid (∀ j (h : j < zs.length), j < k → zs[j].size ≤ 150)) (fun v _ => zs.length - (intOf v).toNat)
  case atStart => exact ⟨0, rfl, Nat.zero_le _, Below.refl _ _, Lib.hid fun j h hj => absurd hj (by omega)⟩
  case round =>
    obtain ⟨k, rfl, hk, hbw, Hs⟩ := hrel
    have HBW := Lib.hid hbw
    by_cases hlt : k < zs.length
    · obtain ⟨b, off, rfl, hbB, hcell⟩ := reads_get HRd.out (by omega)
      have hc : wr.cell? ⟨b, off + k, none⟩ = some (.string zs[k]) := (hbw.cell (p := ⟨b, off + k, none⟩) hbB).trans (hcell k hlt)
      have hzx := HX.out zs[k] (List.getElem_mem hlt)
      by_cases h150 : 150 < zs[k].size
      · have z1 : decide (150 < (zs[k].size : Int)) = true := decide_eq_true (by omega)
        have z2 : decide (150 < zs[k].size) = true := decide_eq_true h150
        clear hcell hbw h150
        generalize zs[k] = z at *
        go_wp2_with fail
        go_ret
        exact HFa.out _ false HBW.out (fun h => by cases h)
      · have z1 : decide (150 < (zs[k].size : Int)) = false := decide_eq_false (by omega)
        have z2 : decide (150 < zs[k].size) = false := decide_eq_false h150
        have HV := Lib.hid (HVa.out zs[k] (by omega))
        have HNx : Hid (∀ j (h : j < zs.length), j < k + 1 → zs[j].size ≤ 150) := Lib.hid fun j h hj => by
          by_cases e : j = k
          · subst e; omega
          · exact Hs.out j h (by omega)
        have HCl : Hid (∀ W, Below wr.heap.size wr W → W.cell? ⟨b, off + k, none⟩ = some (.string zs[k])) := Lib.hid fun W h => ((hbw.trans (h.mono hbw.size)).cell (p := ⟨b, off + k, none⟩) hbB).trans (hcell k hlt)
        have hzs : zs[k].size ≤ 150 := by omega
        clear hcell h150 Hs HVa
        generalize hvb : validB zs[k] = vb at *
        clear hvb
        generalize zs[k] = z at *
        cases vb with
        | false =>
          go_wp2_with fail
          ((with_reducible refine (HV.out _).mono ?_))
          rintro e w1 ⟨rfl, b1⟩
          go_wp2_with fail
          go_ret
          exact HFa.out _ false (HBW.out.trans (b1.mono HBW.out.size)) (fun h => by cases h)
        | true =>
          go_wp2_with fail
          ((with_reducible refine (HV.out _).mono ?_))
          rintro e w1 ⟨rfl, b1⟩
          have hc1 := HCl.out w1 b1
          have HB1 := Lib.hid (HBW.out.trans (b1.mono HBW.out.size))
          clear b1 hc hbw HCl HV
          go_wp2_with fail
          go_loop [4] (fun v4 => ∃ j : Nat, v4 = .int .i64 j ∧ j ≤ z.size) (fun v => z.size - (intOf v).toNat)
          case atStart => exact ⟨0, rfl, Nat.zero_le _⟩
          case round =>
            obtain ⟨j, rfl, hj⟩ := hrel
            by_cases hjl : j < z.size
            · have hb256 : ((z[j].toNat : Nat) : Int) < 256 := by rw [get_bt z j hjl]; have := bt_lt z j; omega
              by_cases h10 : z[j].toNat = 10
              · have y1 : (((z[j].toNat : Nat) : Int) == 10) = true := by rw [beq_iff_eq]; omega
                clear h10
                go_wp2_with fail
                go_ret
                exact HFa.out _ false HB1.out (fun h => by cases h)
              · have y1 : (((z[j].toNat : Nat) : Int) == 10) = false := by rw [beq_eq_false_iff_ne]; omega
                clear h10
                go_wp2_with fail
                go_round
                case rel => exact ⟨j + 1, by go_num, by omega⟩
                case measure => simp [intOf]; omega
            · go_wp2_with fail
              go_roundw
              case rel => exact ⟨k + 1, by go_num, by omega, HB1.out, HNx⟩
              case measure => simp [intOf]; omega
    · go_wp2_with fail
      go_ret
      refine HFa.out _ true hbw fun _ => ⟨by omega, fun z hz => ?_⟩
      obtain ⟨j, hj, rfl⟩ := List.mem_iff_getElem.1 hz
      exact Hs.out j hj (by omega)

end Go.Proofs.YtpoafhgbhnblmaaGreatDoor
