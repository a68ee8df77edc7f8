/-
  Texts of the proof, put together (what this law reaches): NsX, NsXA, NsXB, NsXC, NsT, NsY, Row, RowS.
-/
import Derived.Test.YtpoafhgbhnblmaaGreatDoorC19
import Derived.Test.YtpoafhgbhnblmaaGreatDoorC10
import Derived.Test.YtpoafhgbhnblmaaGreatDoorC04
import Derived.Below
import Derived.ChangeSame
import Derived.ProofKit
import Derived.Handed
import Derived.HandedShaped
set_option linter.unusedVariables false
set_option linter.unusedSimpArgs false
namespace Go.Proofs.YtpoafhgbhnblmaaGreatDoor
open Go.RowKit Go.Pub
theorem n_parse (zs : List ByteArray) (A : Option Addr) (c : Nat) (MM : Int) (w : World) (hL : LinesAt w A zs MM) (hc : zs.length ≤ c) (hcm : c ≤ maxLen) :
    Calls Tryz.prog 22 #[.slice A zs.length c] w (BksPost (blocksN 16 zs) w) := by
  have hlen := hL.len
  have HB : Hid (Calls Tryz.prog 30 #[.slice A zs.length c, .int .i64 0] w (BksPost (blocksN 16 zs) w)) := Lib.hid (n_all 16 0 rfl zs A c MM w hL hc hcm)
  have d1 : decide (16384 < (zs.length : Int)) = false := decide_eq_false (by omega)
  have d2 : decide (16384 < zs.length) = false := decide_eq_false (by omega)
  obtain ⟨R, hR⟩ : ∃ R, R = blocksN 16 zs := ⟨_, rfl⟩
  rw [← hR] at HB ⊢
  clear hL hR
  go_enter Tryz.func22, Tryz.ntmps22
  go_wp2_with fail
  ((with_reducible refine (HB.out).mono ?_))
  rintro e w1 ⟨b1, hp⟩
  have HB1 := Lib.hid b1
  cases R with
  | none =>
    subst hp
    unfold bkErr
    go_wp2_with fail
    go_ret3
    exact ⟨HB1.out, rfl⟩
  | some p =>
    obtain ⟨v, A2, c2, rfl, hk, hr⟩ := hp
    have HK := Lib.hid hk
    have HR := Lib.hid hr
    obtain ⟨A1, c1, vs, rfl, _, _⟩ := hk
    clear hr
    go_wp2_with fail
    go_ret3
    exact ⟨HB1.out, _, _, _, rfl, HK.out, HR.out⟩
/-- The blocks, or the error. -/
def NsPPost (r : Option (List BkT × List (Nat × Nat))) (w : World) (e : Ending) (w' : World) : Prop :=
  Below w.heap.size w w' ∧ match r with
  | none => e = .returned (.tuple #[.slice none 0 0, .int .i64 11])
  | some p => ∃ A c, e = .returned (.tuple #[.slice A p.1.length c, .int .i64 0]) ∧ KidsV w' (Rg w.heap.size w') (.slice A p.1.length c) p.1
/-- The ranges, or the error. -/
def NsRPost (r : Option (List BkT × List (Nat × Nat))) (w : World) (e : Ending) (w' : World) : Prop :=
  Below w.heap.size w w' ∧ match r with
  | none => e = .returned (.tuple #[.slice none 0 0, .int .i64 11])
  | some p => ∃ A c, e = .returned (.tuple #[.slice A p.2.length c, .int .i64 0]) ∧ ReadsS w' (Rg w.heap.size w') 2 A p.2.length (rngs p.2)
theorem n_Parse (zs : List ByteArray) (A : Option Addr) (c : Nat) (MM : Int) (w : World) (hL : LinesAt w A zs MM) (hc : zs.length ≤ c) (hcm : c ≤ maxLen) :
    Calls Tryz.prog 12 #[.slice A zs.length c] w (NsPPost (blocksN 16 zs) w) := by
  have HB := Lib.hid (n_parse zs A c MM w hL hc hcm)
  obtain ⟨R, hR⟩ : ∃ R, R = blocksN 16 zs := ⟨_, rfl⟩
  rw [← hR] at HB ⊢
  clear hL hR
  go_enter Tryz.func12, Tryz.ntmps12
  go_wp2_with fail
  ((with_reducible refine (HB.out).mono ?_))
  rintro e w1 ⟨b1, hp⟩
  have HB1 := Lib.hid b1
  cases R with
  | none =>
    subst hp
    unfold bkErr
    go_wp2_with fail
    go_ret2
    exact ⟨HB1.out, rfl⟩
  | some p =>
    obtain ⟨v, A2, c2, rfl, hk, hr⟩ := hp
    have HK := Lib.hid hk
    obtain ⟨A1, c1, vs, rfl, _, _⟩ := hk
    clear hr
    go_wp2_with fail
    go_ret2
    exact ⟨HB1.out, _, _, rfl, HK.out⟩
theorem n_Ranges (zs : List ByteArray) (A : Option Addr) (c : Nat) (MM : Int) (w : World) (hL : LinesAt w A zs MM) (hc : zs.length ≤ c) (hcm : c ≤ maxLen) :
    Calls Tryz.prog 15 #[.slice A zs.length c] w (NsRPost (blocksN 16 zs) w) := by
  have HB := Lib.hid (n_parse zs A c MM w hL hc hcm)
  obtain ⟨R, hR⟩ : ∃ R, R = blocksN 16 zs := ⟨_, rfl⟩
  rw [← hR] at HB ⊢
  clear hL hR
  go_enter Tryz.func15, Tryz.ntmps15
  go_wp2_with fail
  ((with_reducible refine (HB.out).mono ?_))
  rintro e w1 ⟨b1, hp⟩
  have HB1 := Lib.hid b1
  cases R with
  | none =>
    subst hp
    unfold bkErr
    go_wp2_with fail
    go_ret2
    exact ⟨HB1.out, rfl⟩
  | some p =>
    obtain ⟨v, A2, c2, rfl, hk, hr⟩ := hp
    have HR := Lib.hid hr
    obtain ⟨A1, c1, vs, rfl, _, _⟩ := hk
    clear hr
    go_wp2_with fail
    go_ret2
    exact ⟨HB1.out, _, _, rfl, HR.out⟩
end Go.Proofs.YtpoafhgbhnblmaaGreatDoor
namespace Go.Proofs.YtpoafhgbhnblmaaGreatDoor
open Go.RowKit Go.Pub
def exL1 : List ByteArray := [⟨#[45, 32, 97]⟩, ⟨#[32, 32, 45, 32, 98]⟩]
def exL2 : List ByteArray := [⟨#[97]⟩, ⟨#[]⟩, ⟨#[35, 32, 84]⟩]
def exB1 : List BkT := [.mk 7 0 ⟨#[]⟩ ⟨#[]⟩ ⟨#[]⟩ ⟨#[]⟩ emptyA ⟨#[]⟩ [kidB 9 [leafB 1 ⟨#[97]⟩, .mk 7 0 ⟨#[]⟩ ⟨#[]⟩ ⟨#[]⟩ ⟨#[]⟩ emptyA ⟨#[]⟩ [kidB 9 [leafB 1 ⟨#[98]⟩]]]]]
theorem ex_b1 : blocksN 16 exL1 = some (exB1, [(0, 2)]) := by kernel_rfl
theorem ex_b2 : (blocksN 16 exL2).map (·.2) = some [(0, 1), (2, 3)] := by kernel_rfl
end Go.Proofs.YtpoafhgbhnblmaaGreatDoor
namespace Go.Proofs.YtpoafhgbhnblmaaGreatDoor
open Go.RowKit Go.Pub
def CleanOk (zs : List ByteArray) : Prop := zs.length ≤ 60 ∧ ∀ z ∈ zs, z.size ≤ 150
def ClnPost (zs : List ByteArray) (w : World) (e : Ending) (w' : World) : Prop := (∃ b : Bool, e = .returned (.bool b) ∧ (b = true → CleanOk zs)) ∧ Below w.heap.size w w'
set_option maxRecDepth 100000 in
set_option maxHeartbeats 2000000 in
theorem l7_clean (zs : List ByteArray) (A : Option Addr) (c : Nat) (w : World) (hr : Reads w w.heap.size 1 A zs.length (strs zs)) (hl : zs.length ≤ maxLen) (hx : ∀ x ∈ zs, x.size ≤ maxLen) :
    Calls Tryz.prog 10 #[.slice A zs.length c] w (ClnPost zs w) := by
  unfold maxLen at hl hx
  by_cases h60 : 60 < zs.length
  · have d1 : decide (60 < (zs.length : Int)) = true := decide_eq_true (by omega)
    have d2 : decide (60 < zs.length) = true := decide_eq_true h60
    clear hr
    go_enter Tryz.func10, Tryz.ntmps10
    go_wp2_with fail
    go_ret
    exact ⟨⟨false, rfl, fun h => by cases h⟩, Below.refl _ _⟩
  have d1 : decide (60 < (zs.length : Int)) = false := decide_eq_false (by omega)
  have d2 : decide (60 < zs.length) = false := decide_eq_false h60
  have HRd := Lib.hid hr
  have HX := Lib.hid hx
  have HFa : Hid (∀ w' b, Below w.heap.size w w' → (b = true → CleanOk zs) → ClnPost zs w (.returned (.bool b)) w') := Lib.hid fun w' b h1 h2 => ⟨⟨b, rfl, h2⟩, h1⟩
  have HVa : Hid (∀ z : ByteArray, z.size ≤ 150 → ∀ W, Calls Tryz.prog 21 #[.string z] W fun e w' => e = .returned (.bool (validB z)) ∧ Below W.heap.size W w') := Lib.hid fun z hz W => rValid_any z W (by omega)
  clear hr hx
  go_enter Tryz.func10, Tryz.ntmps10
  go_wp2_with fail
  go_loopw [3] (fun v3 wr => ∃ k : Nat, v3 = .int .i64 k ∧ k ≤ zs.length ∧ Below w.heap.size w wr ∧ Hid (∀ j (h : j < zs.length), j < k → zs[j].size ≤ 150)) (fun v _ => zs.length - (intOf v).toNat)
  case atStart => exact ⟨0, rfl, Nat.zero_le _, Below.refl _ _, Lib.hid fun j h hj => absurd hj (by omega)⟩
  case round =>
    obtain ⟨k, rfl, hk, hbw, Hs⟩ := hrel
    have HBW := Lib.hid hbw
    by_cases hlt : k < zs.length
    · obtain ⟨b, off, rfl, hbB, hcell⟩ := reads_get HRd.out (by omega)
      have hc : wr.cell? ⟨b, off + k, none⟩ = some (.string zs[k]) := (hbw.cell (p := ⟨b, off + k, none⟩) hbB).trans (hcell k hlt)
      have hzx := HX.out zs[k] (List.getElem_mem hlt)
      by_cases h150 : 150 < zs[k].size
      · have z1 : decide (150 < (zs[k].size : Int)) = true := decide_eq_true (by omega)
        have z2 : decide (150 < zs[k].size) = true := decide_eq_true h150
        clear hcell hbw h150
        generalize zs[k] = z at *
        go_wp2_with fail
        go_ret
        exact HFa.out _ false HBW.out (fun h => by cases h)
      · have z1 : decide (150 < (zs[k].size : Int)) = false := decide_eq_false (by omega)
        have z2 : decide (150 < zs[k].size) = false := decide_eq_false h150
        have HV := Lib.hid (HVa.out zs[k] (by omega))
        have HNx : Hid (∀ j (h : j < zs.length), j < k + 1 → zs[j].size ≤ 150) := Lib.hid fun j h hj => by
          by_cases e : j = k
          · subst e; omega
          · exact Hs.out j h (by omega)
        have HCl : Hid (∀ W, Below wr.heap.size wr W → W.cell? ⟨b, off + k, none⟩ = some (.string zs[k])) := Lib.hid fun W h => ((hbw.trans (h.mono hbw.size)).cell (p := ⟨b, off + k, none⟩) hbB).trans (hcell k hlt)
        have hzs : zs[k].size ≤ 150 := by omega
        clear hcell h150 Hs HVa
        generalize hvb : validB zs[k] = vb at *
        clear hvb
        generalize zs[k] = z at *
        cases vb with
        | false =>
          go_wp2_with fail
          ((with_reducible refine (HV.out _).mono ?_))
          rintro e w1 ⟨rfl, b1⟩
          go_wp2_with fail
          go_ret
          exact HFa.out _ false (HBW.out.trans (b1.mono HBW.out.size)) (fun h => by cases h)
        | true =>
          go_wp2_with fail
          ((with_reducible refine (HV.out _).mono ?_))
          rintro e w1 ⟨rfl, b1⟩
          have hc1 := HCl.out w1 b1
          have HB1 := Lib.hid (HBW.out.trans (b1.mono HBW.out.size))
          clear b1 hc hbw HCl HV
          go_wp2_with fail
          go_loop [4] (fun v4 => ∃ j : Nat, v4 = .int .i64 j ∧ j ≤ z.size) (fun v => z.size - (intOf v).toNat)
          case atStart => exact ⟨0, rfl, Nat.zero_le _⟩
          case round =>
            obtain ⟨j, rfl, hj⟩ := hrel
            by_cases hjl : j < z.size
            · have hb256 : ((z[j].toNat : Nat) : Int) < 256 := by rw [get_bt z j hjl]; have := bt_lt z j; omega
              by_cases h10 : z[j].toNat = 10
              · have y1 : (((z[j].toNat : Nat) : Int) == 10) = true := by rw [beq_iff_eq]; omega
                clear h10
                go_wp2_with fail
                go_ret
                exact HFa.out _ false HB1.out (fun h => by cases h)
              · have y1 : (((z[j].toNat : Nat) : Int) == 10) = false := by rw [beq_eq_false_iff_ne]; omega
                clear h10
                go_wp2_with fail
                go_round
                case rel => exact ⟨j + 1, by go_num, by omega⟩
                case measure => simp [intOf]; omega
            · go_wp2_with fail
              go_roundw
              case rel => exact ⟨k + 1, by go_num, by omega, HB1.out, HNx⟩
              case measure => simp [intOf]; omega
    · go_wp2_with fail
      go_ret
      refine HFa.out _ true hbw fun _ => ⟨by omega, fun z hz => ?_⟩
      obtain ⟨j, hj, rfl⟩ := List.mem_iff_getElem.1 hz
      exact Hs.out j hj (by omega)

end Go.Proofs.YtpoafhgbhnblmaaGreatDoor
namespace Go.Proofs.YtpoafhgbhnblmaaGreatDoor
open Go.RowKit Go.Pub
def kindT : BkT → Nat | .mk k _ _ _ _ _ _ _ _ => k
def kidsT : BkT → List BkT | .mk _ _ _ _ _ _ _ _ ks => ks
theorem RepB.look {w : World} {S : Nat → Prop} {v : Array Value} {b : BkT} (h : RepB w S v b) : v[0]? = some (.int .i64 (kindT b)) ∧ ∃ A c, v[10]? = some (.slice A (kidsT b).length c) ∧ KidsV w S (.slice A (kidsT b).length c) (kidsT b) := by
  cases h with
  | mk kind level info text dest title att line kids A1 A2 A4 c1 c2 c4 vL vs ha hl hr hc =>
    exact ⟨rfl, A4, c4, rfl, A4, c4, vs, rfl, hr, hc⟩
/-- A block among others, looked at. -/
theorem KidsV.look {w : World} {S : Nat → Prop} {A : Option Addr} {n c : Nat} {bs : List BkT} (h : KidsV w S (.slice A n c) bs) (hn : 0 < bs.length) : ∃ g off, A = some ⟨g, off, none⟩ ∧ n = bs.length ∧ ∀ k (hk : k < bs.length), w.cell? ⟨g, off + k * 11, none⟩ = some (.int .i64 (kindT bs[k])) ∧
    ∃ A' c', w.cell? ⟨g, off + (k * 11 + 10), none⟩ = some (.slice A' (kidsT bs[k]).length c') ∧ KidsV w S (.slice A' (kidsT bs[k]).length c') (kidsT bs[k]) := by
  obtain ⟨g, off, c0, e, _, hc⟩ := h.get hn
  injection e with e1 e2 _
  refine ⟨g, off, e1, e2, fun k hk => ?_⟩
  obtain ⟨vb, h1, h2⟩ := hc k hk
  obtain ⟨l1, A', c', l2, l3⟩ := h1.look
  exact ⟨(h2 0 (by omega)).trans l1, A', c', (h2 10 (by omega)).trans l2, l3⟩
theorem lines_lit (w : World) (zs : List ByteArray) (MM : Int) (hm : w.cell? ⟨0, 0, none⟩ = some (.int .i64 MM)) (hl : zs.length ≤ 10000) (hs : ∀ z ∈ zs, z.size ≤ 100000) : LinesAt (w.alloc (.cells (strs zs).toArray 9)) (some ⟨w.heap.size, 0, none⟩) zs MM :=
  ⟨(reads_block (heap_alloc_new w _)).more (by simp), hl, hs, (World.cell?_alloc_lt w _ _ (World.block_lt_of_cell? _ _ hm)).trans hm⟩
set_option maxRecDepth 100000 in
set_option maxHeartbeats 2000000 in
theorem l7_awake (MM : Int) (w : World) (hm : w.cell? ⟨0, 0, none⟩ = some (.int .i64 MM)) : Calls Tryz.prog 11 #[] w fun e w' => e = .returned (.bool true) ∧ Below w.heap.size w w' := by
  have hB1 := (Below.refl _ w).alloc (Nat.le_refl _) (.cells #[.string ⟨#[45, 32, 97]⟩, .string ⟨#[32, 32, 45, 32, 98]⟩] 9)
  have HP : Hid (Calls Tryz.prog 12 #[.slice (some ⟨w.heap.size, 0, none⟩) 2 2] (w.alloc (.cells #[.string ⟨#[45, 32, 97]⟩, .string ⟨#[32, 32, 45, 32, 98]⟩] 9)) (NsPPost (blocksN 16 exL1) (w.alloc (.cells #[.string ⟨#[45, 32, 97]⟩, .string ⟨#[32, 32, 45, 32, 98]⟩] 9)))) := Lib.hid (n_Parse exL1 _ 2 MM _ (lines_lit w exL1 MM hm (by decide) (by decide)) (by decide) (by decide))
  have HQ : Hid (∀ W : World, W.cell? ⟨0, 0, none⟩ = some (.int .i64 MM) → Calls Tryz.prog 15 #[.slice (some ⟨W.heap.size, 0, none⟩) 3 3] (W.alloc (.cells #[.string ⟨#[97]⟩, .string ⟨#[]⟩, .string ⟨#[35, 32, 84]⟩] 9)) (NsRPost (blocksN 16 exL2) (W.alloc (.cells #[.string ⟨#[97]⟩, .string ⟨#[]⟩, .string ⟨#[35, 32, 84]⟩] 9)))) := Lib.hid fun W h => n_Ranges exL2 _ 3 MM _ (lines_lit W exL2 MM h (by decide) (by decide)) (by decide) (by decide)
  rw [ex_b1] at HP
  have hp0 := World.block_lt_of_cell? _ _ hm
  have HB1 := Lib.hid hB1
  have HM := Lib.hid hm
  obtain ⟨p2, hp2⟩ : ∃ p, blocksN 16 exL2 = some p ∧ p.2 = [(0, 1), (2, 3)] := by
    obtain ⟨p, h1, h2⟩ := opt_map_some ex_b2
    exact ⟨p, h1, h2.symm⟩
  rw [hp2.1] at HQ
  unfold NsPPost at HP
  unfold NsRPost at HQ
  simp only [hp2.2] at HQ
  clear hB1 hm hp2
  go_enter Tryz.func11, Tryz.ntmps11
  go_wp2_with fail
  ((with_reducible refine (HP.out).mono ?_))
  rintro e w1 ⟨b1, A, c, rfl, hk⟩
  have HB2 := Lib.hid (HB1.out.trans (b1.mono (by simp)))
  have HK := Lib.hid hk
  have hm1 := Lib.hid ((HB2.out.cell (p := ⟨0, 0, none⟩) hp0).trans HM.out)
  clear b1 hk
  go_wp2_with fail
  ((with_reducible refine (HQ.out _ hm1.out).mono ?_))
  rintro e w2 ⟨b2, A2, c2, rfl, hr⟩
  have b2' : Below w1.heap.size w1 w2 := ((Below.refl _ w1).alloc (Nat.le_refl _) _).trans (b2.mono (by simp))
  have HB3 := Lib.hid (HB2.out.trans (b2'.mono HB2.out.size))
  have hk2 := HK.out.keep (S' := fun _ => True) (fun g hg => b2'.block g hg.2) (fun _ _ => trivial)
  obtain ⟨g1, o1, rfl, -, h1⟩ := hk2.look (by decide)
  obtain ⟨f1, A3, c3, f2, hk3⟩ := h1 0 (by decide)
  obtain ⟨g2, o2, rfl, -, h2⟩ := hk3.look (by decide)
  obtain ⟨f3, A4, c4, f4, hk4⟩ := h2 0 (by decide)
  obtain ⟨g3, o3, rfl, -, h3⟩ := hk4.look (by decide)
  obtain ⟨f5, A5, c5, f6, -⟩ := h3 0 (by decide)
  obtain ⟨f7, A6, c6, f8, -⟩ := h3 1 (by decide)
  obtain ⟨g4, o4, rfl, -, hc⟩ := hr.row (by decide) (by decide)
  have r0 := hc 0 _ rfl
  have r1 := hc 1 _ rfl
  have r2 := hc 2 _ rfl
  have r3 := hc 3 _ rfl
  have F1 : w2.cell? ⟨g1, o1, none⟩ = some (.int .i64 7) := f1
  have F2 : w2.cell? ⟨g1, o1 + 10, none⟩ = some (.slice (some ⟨g2, o2, none⟩) 1 c3) := f2
  have F4 : w2.cell? ⟨g2, o2 + 10, none⟩ = some (.slice (some ⟨g3, o3, none⟩) 2 c4) := f4
  have F5 : w2.cell? ⟨g3, o3, none⟩ = some (.int .i64 1) := f5
  have F7 : w2.cell? ⟨g3, o3 + 11, none⟩ = some (.int .i64 7) := f7
  have R0 : w2.cell? ⟨g4, o4, none⟩ = some (.int .i64 0) := r0
  have R1 : w2.cell? ⟨g4, o4 + 1, none⟩ = some (.int .i64 1) := r1
  have R2 : w2.cell? ⟨g4, o4 + 2, none⟩ = some (.int .i64 2) := r2
  have R3 : w2.cell? ⟨g4, o4 + 3, none⟩ = some (.int .i64 3) := r3
  clear hc hr h1 h2 h3 hk2 hk3 hk4 b2 b2' HP HQ HK f1 f2 f3 f4 f5 f6 f7 f8 r0 r1 r2 r3
  go_wp2_with fail
  go_ret
  exact ⟨rfl, HB3.out⟩

end Go.Proofs.YtpoafhgbhnblmaaGreatDoor
namespace Go.Proofs.YtpoafhgbhnblmaaGreatDoor
open Go.RowKit Go.Pub
/-- The ranges ascend from a line on, none is empty, and the lines outside of them are blank. -/
def covB (zs : List ByteArray) : Nat → List (Nat × Nat) → Prop
  | a, [] => ∀ k, a ≤ k → k < zs.length → blankB (ln zs k) = true
  | a, r :: rs => a ≤ r.1 ∧ r.1 < r.2 ∧ r.2 ≤ zs.length ∧ (∀ k, a ≤ k → k < r.1 → blankB (ln zs k) = true) ∧ covB zs r.2 rs
theorem covB_back (zs : List ByteArray) (a : Nat) (hb : blankB (ln zs a) = true) : ∀ rs, covB zs (a + 1) rs → covB zs a rs
  | [], h => fun k h1 h2 => by
    by_cases e : k = a
    · subst e; exact hb
    · exact h k (by omega) h2
  | r :: rs, h => ⟨by have := h.1; omega, h.2.1, h.2.2.1, fun k h1 h2 => by
    by_cases e : k = a
    · subst e; exact hb
    · exact h.2.2.2.1 k (by omega) h2, h.2.2.2.2⟩
theorem restT_cov (n : Nat) (zs : List ByteArray) : ∀ (d i : Nat) (p : List BkT × List (Nat × Nat)), zs.length - i ≤ d → i ≤ zs.length → restT (atN n zs) zs i = some p → covB zs i p.2 ∧ p.1.length = p.2.length := by
  intro d
  induction d with
  | zero =>
    intro i p hd hi h
    rw [restT_end _ _ _ (by omega)] at h
    injection h with h
    subst h
    exact ⟨fun k h1 h2 => by omega, rfl⟩
  | succ d ih =>
    intro i p hd hi h
    by_cases he : zs.length ≤ i
    · rw [restT_end _ _ _ he] at h
      injection h with h
      subst h
      exact ⟨fun k h1 h2 => by omega, rfl⟩
    · cases hb : blankB (ln zs i) with
      | true =>
        rw [restT_blank _ _ _ (by omega) hb] at h
        obtain ⟨h1, h2⟩ := ih (i + 1) p (by omega) (by omega) h
        exact ⟨covB_back zs i hb _ h1, h2⟩
      | false =>
        rw [restT_step _ _ (fun i r h e => (atN_bd n zs i r h e).1) i (by omega) hb] at h
        cases hm : atN n zs i (markM (ln zs i)) with
        | none => rw [hm] at h; cases h
        | some r =>
          obtain ⟨b, tq⟩ := r
          have hbd := atN_bd n zs i _ (by omega) hm
          simp only [] at hbd
          rw [hm] at h
          simp only [] at h
          obtain ⟨q, hq, rfl⟩ := opt_map_some h
          obtain ⟨h1, h2⟩ := ih tq q (by omega) hbd.2 hq
          exact ⟨⟨Nat.le_refl _, hbd.1, hbd.2, fun k a b => by simp only [] at b; omega, h1⟩, by simp [h2]⟩
theorem blocksN_cov (n : Nat) (zs : List ByteArray) (p : List BkT × List (Nat × Nat)) (h : blocksN n zs = some p) : covB zs 0 p.2 ∧ p.1.length = p.2.length := by
  rw [blocksN_rest] at h
  exact restT_cov n zs _ 0 p (Nat.le_refl _) (Nat.zero_le _) h
/-- No more blocks than lines. -/
theorem covB_len (zs : List ByteArray) : ∀ (rs : List (Nat × Nat)) (a : Nat), a ≤ zs.length → covB zs a rs → a + rs.length ≤ zs.length
  | [], a, ha, h => ha
  | r :: rs, a, ha, h => by
    have := covB_len zs rs r.2 h.2.2.1 h.2.2.2.2
    have h1 := h.1
    have h2 := h.2.1
    rw [List.length_cons]; omega
end Go.Proofs.YtpoafhgbhnblmaaGreatDoor
namespace Go.Proofs.YtpoafhgbhnblmaaGreatDoor
open Go.RowKit Go.Pub
theorem rngs_at (rs : List (Nat × Nat)) (k : Nat) (h : k < rs.length) : (rngs rs)[k * 2]? = some (.int .i64 rs[k].1) ∧ (rngs rs)[k * 2 + 1]? = some (.int .i64 rs[k].2) := by
  induction rs generalizing k with
  | nil => exact absurd h (by simp)
  | cons r rs ih =>
    unfold rngs at ih ⊢
    rw [List.flatMap_cons]
    cases k with
    | zero => exact ⟨rfl, rfl⟩
    | succ k =>
      obtain ⟨h1, h2⟩ := ih k (by simpa using h)
      rw [show (k + 1) * 2 = k * 2 + 2 by omega, show k * 2 + 2 + 1 = (k * 2 + 1) + 2 by omega]
      exact ⟨by rw [List.getElem?_append_right (by simp)]; simpa using h1, by rw [List.getElem?_append_right (by simp)]; simpa using h2⟩
theorem covB_drop {zs : List ByteArray} {a k : Nat} {rs : List (Nat × Nat)} (hk : k < rs.length) (h : covB zs a (rs.drop k)) : a ≤ rs[k].1 ∧ rs[k].1 < rs[k].2 ∧ rs[k].2 ≤ zs.length ∧ (∀ j, a ≤ j → j < rs[k].1 → blankB (ln zs j) = true) ∧ covB zs rs[k].2 (rs.drop (k + 1)) := by
  rw [List.drop_eq_getElem_cons hk] at h
  exact h
set_option maxRecDepth 100000 in
set_option maxHeartbeats 2000000 in
theorem law7_covers (MM : Int) (zs : List ByteArray) (A : Option Addr) (c : Nat) (w : World) (hm : w.cell? ⟨0, 0, none⟩ = some (.int .i64 MM)) (hr : Reads w w.heap.size 1 A zs.length (strs zs)) (hl : zs.length ≤ maxLen) (hx : ∀ x ∈ zs, x.size ≤ maxLen) (hc : zs.length ≤ c) (hcm : c ≤ maxLen) :
    Calls Tryz.prog 5 #[.slice A zs.length c] w fun e w' => e = .returned (.bool true) ∧ Below w.heap.size w w' := by
  have hp0 := World.block_lt_of_cell? _ _ hm
  have HM : Hid (∀ W, Below w.heap.size w W → W.cell? ⟨0, 0, none⟩ = some (.int .i64 MM)) := Lib.hid fun W h => (h.cell (p := ⟨0, 0, none⟩) hp0).trans hm
  have HA : Hid (∀ W, Below w.heap.size w W → Calls Tryz.prog 11 #[] W fun e w' => e = .returned (.bool true) ∧ Below W.heap.size W w') := Lib.hid fun W h => l7_awake MM W (HM.out W h)
  have HCl := Lib.hid (l7_clean zs A c w hr hl hx)
  have HLn : Hid (CleanOk zs → LinesAt w A zs MM) := Lib.hid fun h => ⟨hr, by have := h.1; omega, fun z hz => Nat.le_trans (h.2 z hz) (by decide), hm⟩
  have HC := Lib.hid hc
  have HCM := Lib.hid hcm
  clear hr hl hx hm hc hcm
  go_enter Tryz.func5, Tryz.ntmps5
  go_wp2_with fail
  ((with_reducible refine (HCl.out).mono ?_))
  rintro e w1 ⟨⟨b, rfl, hok⟩, b1⟩
  have HB1 := Lib.hid b1
  cases b with
  | false =>
    go_wp2_with fail
    ((with_reducible refine (HA.out _ HB1.out).mono ?_))
    rintro e w2 ⟨rfl, b2⟩
    go_wp2_with fail
    go_ret
    exact ⟨rfl, HB1.out.trans (b2.mono HB1.out.size)⟩
  | true =>
    have hL := HLn.out (hok rfl)
    have hlen := hL.len
    have h60 := (hok rfl).1
    have HL := Lib.hid hL
    have HP : Hid (∀ W, Below w.heap.size w W → Calls Tryz.prog 12 #[.slice A zs.length c] W (NsPPost (blocksN 16 zs) W)) := Lib.hid fun W h => n_Parse zs A c MM W (HL.out.below h) HC.out HCM.out
    have HR : Hid (∀ W, Below w.heap.size w W → Calls Tryz.prog 15 #[.slice A zs.length c] W (NsRPost (blocksN 16 zs) W)) := Lib.hid fun W h => n_Ranges zs A c MM W (HL.out.below h) HC.out HCM.out
    have HBl : Hid (∀ j W, Calls Tryz.prog 17 #[.string (ln zs j)] W fun e w' => e = .returned (.bool (blankB (ln zs j))) ∧ W = w') := Lib.hid fun j W => r2_blank (ln zs j) W (Nat.le_trans (ln_size hL.sz j) (by decide))
    have HCov := Lib.hid (blocksN_cov 16 zs)
    have hcell : 0 < zs.length → ∃ b off, A = some ⟨b, off, none⟩ ∧ b < w.heap.size ∧ ∀ k, k < zs.length → w.cell? ⟨b, off + k, none⟩ = some (.string (ln zs k)) := hL.get
    have HCell := Lib.hid hcell
    clear hL hok b1 HLn HCl hcell
    unfold NsPPost at HP
    unfold NsRPost at HR
    cases hbk : blocksN 16 zs with
    | none =>
      rw [hbk] at HP HR
      simp only [] at HP HR
      clear hbk HCov
      go_wp2_with fail
      ((with_reducible refine (HP.out _ HB1.out).mono ?_))
      rintro e w2 ⟨b2, rfl⟩
      have HB2 := Lib.hid (HB1.out.trans (b2.mono HB1.out.size))
      clear b2
      go_wp2_with fail
      ((with_reducible refine (HR.out _ HB2.out).mono ?_))
      rintro e w3 ⟨b3, rfl⟩
      have HB3 := Lib.hid (HB2.out.trans (b3.mono HB2.out.size))
      clear b3 HP HR
      go_wp2_with fail
      go_loop [7, 8] (fun v7 v8 => v7 = .int .i64 0 ∧ v8 = .int .i64 0) (fun _ _ => 0)
      case atStart => exact ⟨rfl, rfl⟩
      case round =>
        obtain ⟨rfl, rfl⟩ := hrel
        go_wp2_with fail
        go_loop [10] (fun v10 => v10 = .int .i64 0) (fun _ => 0)
        case atStart => rfl
        case round =>
          obtain rfl := hrel
          by_cases hz : 0 < zs.length
          · have d1 : decide ((0 : Int) < (zs.length : Int)) = true := decide_eq_true (by omega)
            go_wp2_with fail
            ((with_reducible refine (HA.out _ HB3.out).mono ?_))
            rintro e w4 ⟨rfl, b4⟩
            go_wp2_with fail
            go_ret
            exact ⟨rfl, HB3.out.trans (b4.mono HB3.out.size)⟩
          · have d1 : decide ((0 : Int) < (zs.length : Int)) = false := decide_eq_false (by omega)
            go_wp2_with fail
            ((with_reducible refine (HA.out _ HB3.out).mono ?_))
            rintro e w4 ⟨rfl, b4⟩
            go_wp2_with fail
            go_ret
            exact ⟨rfl, HB3.out.trans (b4.mono HB3.out.size)⟩
    | some p =>
      rw [hbk] at HP HR
      simp only [] at HP HR
      obtain ⟨hcov, hll⟩ := HCov.out p hbk
      have hrl := covB_len zs p.2 0 (Nat.zero_le _) hcov
      have HCv := Lib.hid hcov
      have HLL := Lib.hid hll
      rw [hll] at HP
      clear hbk HCov hcov hll
      generalize p.2 = rs at *
      generalize p.1 = bs at *
      go_wp2_with fail
      ((with_reducible refine (HP.out _ HB1.out).mono ?_))
      rintro e w2 ⟨b2, A2, c2, rfl, -⟩
      have HB2 := Lib.hid (HB1.out.trans (b2.mono HB1.out.size))
      clear b2
      go_wp2_with fail
      ((with_reducible refine (HR.out _ HB2.out).mono ?_))
      rintro e w3 ⟨b3, A3, c3, rfl, hrd⟩
      have HB3 := Lib.hid (HB2.out.trans (b3.mono HB2.out.size))
      have HRd := Lib.hid hrd
      clear b3 hrd HP HR
      go_wp2_with fail
      go_loopw [7, 8] (fun v7 v8 wr => ∃ k a : Nat, v8 = .int .i64 k ∧ v7 = .int .i64 a ∧ k ≤ rs.length ∧ a ≤ zs.length ∧ Hid (covB zs a (rs.drop k)) ∧ Hid (Below w3.heap.size w3 wr)) (fun _ v8 _ => rs.length - (intOf v8).toNat)
      case atStart => exact ⟨0, 0, rfl, rfl, Nat.zero_le _, Nat.zero_le _, Lib.hid HCv.out, Lib.hid (Below.refl _ _)⟩
      case round =>
        obtain ⟨k, a, rfl, rfl, hk, ha, Hcov, HBW⟩ := hrel
        have HBr := Lib.hid (HB3.out.trans (HBW.out.mono HB3.out.size))
        by_cases hlt : k < rs.length
        · obtain ⟨h1, h2, h3, h4, h5⟩ := covB_drop hlt Hcov.out
          obtain ⟨g4, o4, rfl, hg4, hcs⟩ := HRd.out.row (by omega) (by decide)
          have hf := (HBW.out.cell (p := ⟨g4, o4 + k * 2, none⟩) hg4.2).trans (hcs (k * 2) _ (rngs_at rs k hlt).1)
          have ht : w3.cell? ⟨g4, o4 + k * 2 + 1, none⟩ = some (.int .i64 rs[k].2) := by rw [Nat.add_assoc]; exact hcs (k * 2 + 1) _ (rngs_at rs k hlt).2
          have ht3 := ht
          have hf3 := hcs (k * 2) _ (rngs_at rs k hlt).1
          have hg42 : g4 < w3.heap.size := hg4.2
          have ht2 := (HBW.out.cell (p := ⟨g4, o4 + k * 2 + 1, none⟩) hg4.2).trans ht
          have H4 := Lib.hid h4
          have H5 := Lib.hid h5
          clear hcs h4 h5 ht hg4
          generalize rs[k].1 = f at *
          generalize rs[k].2 = t at *
          have z1 : decide ((f : Int) < (a : Int)) = false := decide_eq_false (by omega)
          have z2 : decide ((t : Int) ≤ (f : Int)) = false := decide_eq_false (by omega)
          have z3 : decide ((zs.length : Int) < (t : Int)) = false := decide_eq_false (by omega)
          have y1 : decide (f < a) = false := decide_eq_false (by omega)
          have y2 : decide (t ≤ f) = false := decide_eq_false (by omega)
          have y3 : decide (zs.length < t) = false := decide_eq_false (by omega)
          obtain ⟨b, off, rfl, hb, hln⟩ := HCell.out (by omega)
          have HLn := Lib.hid hln
          clear hln
          go_wp2_with fail
          go_quiet (fail)
          replace HBW := Lib.hid (below_drewN HBW.out nq)
          generalize wr.drewN nq = W5 at *
          replace HBr := Lib.hid (HB3.out.trans (HBW.out.mono HB3.out.size))
          replace hf := True.intro
          replace ht2 := (HBW.out.cell (p := ⟨g4, o4 + k * 2 + 1, none⟩) hg42).trans ht3
          replace hf := (HBW.out.cell (p := ⟨g4, o4 + k * 2, none⟩) hg42).trans hf3
          go_wp2_with fail
          go_loop [9] (fun v9 => ∃ j : Nat, v9 = .int .i64 j ∧ a ≤ j ∧ j ≤ f) (fun v9 => f - (intOf v9).toNat)
          case atStart => exact ⟨a, rfl, Nat.le_refl _, h1⟩
          case round =>
            obtain ⟨j, rfl, hj1, hj2⟩ := hrel
            by_cases hjf : j < f
            · have hc0 := (HBr.out.cell (p := ⟨b, off + j, none⟩) hb).trans (HLn.out j (by omega))
              have HBj := Lib.hid fun W => HBl.out j W
              rw [H4.out j hj1 hjf] at HBj
              go_wp2_with fail
              ((with_reducible refine (HBj.out _).mono ?_))
              rintro e w9 ⟨rfl, rfl⟩
              go_wp2_with fail
              go_round
              case rel => exact ⟨j + 1, by go_num, by omega, by omega⟩
              case measure => simp [intOf]; omega
            · go_wp2_with fail
              go_roundw
              case rel => exact ⟨k + 1, t, by go_num, rfl, by omega, h3, H5, HBW⟩
              case measure => simp [intOf]; omega
        · have hcv : Hid (∀ j, a ≤ j → j < zs.length → blankB (ln zs j) = true) := Lib.hid (by
            have h := Hcov.out
            rw [List.drop_of_length_le (by omega)] at h
            exact h)
          clear Hcov
          go_wp2_with fail
          go_loop [10] (fun v10 => ∃ j : Nat, v10 = .int .i64 j ∧ a ≤ j ∧ j ≤ zs.length) (fun v10 => zs.length - (intOf v10).toNat)
          case atStart => exact ⟨a, rfl, Nat.le_refl _, ha⟩
          case round =>
            obtain ⟨j, rfl, hj1, hj2⟩ := hrel
            by_cases hjl : j < zs.length
            · obtain ⟨b, off, rfl, hb, hln⟩ := HCell.out (by omega)
              have hc0 := (HBr.out.cell (p := ⟨b, off + j, none⟩) hb).trans (hln j hjl)
              have HBj := Lib.hid fun W => HBl.out j W
              rw [hcv.out j hj1 hjl] at HBj
              clear hln
              go_wp2_with fail
              ((with_reducible refine (HBj.out _).mono ?_))
              rintro e w9 ⟨rfl, rfl⟩
              go_wp2_with fail
              go_round
              case rel => exact ⟨j + 1, by go_num, by omega, by omega⟩
              case measure => simp [intOf]; omega
            · have d1 : decide ((j : Int) < (zs.length : Int)) = false := decide_eq_false (by omega)
              go_wp2_with fail
              ((with_reducible refine (HA.out _ HBr.out).mono ?_))
              rintro e w4 ⟨rfl, b4⟩
              go_wp2_with fail
              go_ret
              exact ⟨rfl, HBr.out.trans (b4.mono HBr.out.size)⟩

end Go.Proofs.YtpoafhgbhnblmaaGreatDoor
namespace Go.Pub
open Go.RowKit Go.WideShapes Go.ChangeShapes
section
variable {H : Type} {enc : TypeId × Value → H} {P : Program}
theorem post_of_below {f : Func} {s : ChangeSpec} {apart fresh handsOn again : Bool} {W W' : World} {args : Array Value} {v : Value} {ds gs : List (DataW H)} {before pa pv : List MemPlace}
    (hW : DataW.Whole enc P f.params.toList s.vars apart W args.toList ds gs before)
    (hres : ∀ (b : Nat) (sp : Nat → Bool) (hd : Bool), DataW.TrodAll enc P W' b sp hd f.resultTypes.toList (v.resultList f.resultTypes.size) (s.fn H (ds ++ gs)).results [])
    (hargs : ∀ sp : Nat → Bool, (∀ p ∈ before, sp p.block = true) → DataW.TrodAll enc P W' 0 sp true f.params.toList args.toList (s.fn H (ds ++ gs)).args pa)
    (hvars : ∀ sp : Nat → Bool, (∀ p ∈ before, sp p.block = true) → DataW.TrodVars enc P W' sp s.vars (s.fn H (ds ++ gs)).vars pv)
    (hps : before = pa ++ pv) (hb : Below W.heap.size W W')
    (hok : ∀ (j : Nat) (t : TypeId) (r : Value), f.resultTypes[j]? = some t → (v.resultList f.resultTypes.size)[j]? = some r → Value.okWide P W' .any 0 t r) :
    s.post enc P f apart fresh handsOn again W args v W' := by
  have hlt : ∀ p ∈ before, p.block < W.heap.size := fun p hp => hW.lt p hp
  have hold : ∀ p ∈ before, (fun b => decide (b < W.heap.size)) p.block = true := fun p hp => by simpa using hlt p hp
  refine ⟨ds, gs, before, [], pa, pv, hW, hres _ _ _, hargs _ hold, hvars _ hold, World.keptBut_mono (fun p hp => ⟨hp, ?_⟩) (hb.frame (· ∈ before)), fun _ => ?_⟩
  · rw [hps, List.mem_append] at hp
    exact Or.inr hp
  · obtain ⟨_, _, _, _, _, hz, hn⟩ := hW
    refine ⟨hok, _, _, ([] ++ pa) ++ pv, ⟨[] ++ pa, pv, trodAll_append (hargs _ (fun _ _ => rfl)) (hres _ _ _), hvars _ (fun _ _ => rfl), rfl, ?_, ?_⟩, ?_⟩
    · intro b off hp
      have hin : MemPlace.cell b off ∈ before := by rw [hps]; simpa using hp
      rw [hb.frozen (hlt _ hin)]
      exact hz b off hin
    · intro ha
      have := hn ha
      rw [hps] at this
      simpa using this
    · intro p hp _
      rw [hps]
      simpa using hp
end
end Go.Pub
namespace Go.Pub
open Go
theorem change_and_shaped {H : Type} {enc : TypeId × Value → H} {a : Assume} {C : Checked} {os : Os} {f : FuncId} {fn : Func} {s : ChangeSpec} {conds : List PathCond} {apart fresh handsOn again : Bool} {X : World → Array Value → Prop}
    (hX : ∀ (w w' : World) (args : Array Value), w.heap = w'.heap → X w args → X w' args)
    (own : ownKnob C.prog.godebug = none) (started : os.Started) (noInit : C.prog.inits.idxOf? f = none) (hfn : C.prog.funcs[f]? = some fn)
    (witness : ∃ (w : World) (tape : Tape) (i : Input), w.os = os ∧ (w.forCall tape i).Shaped C.prog ∧ i.vars = [] ∧ Input.okWide C.prog (w.forCall tape i) .any w.heap.size f i ∧
      ((s.pre enc C.prog fn conds apart (w.forCall tape i).memory i.args ∧ X (w.forCall tape i).memory i.args) ∧ sizedMet enc C.prog fn (OpenSpec.ofChange s) apart (w.forCall tape i).memory i.args) ∧ a.holds C.prog (lone (Frame.enter C.prog f i.args .normal) [] (w.forCall tape i)))
    (contract : ∀ (W : World) (base : Nat) (args : Array Value) (ds gs : List (DataW H)) (before : List MemPlace),
      (∀ (j : Nat) t v, fn.params[j]? = some t → args[j]? = some v → Value.okWide C.prog W .any base t v) →
      DataW.Whole enc C.prog fn.params.toList s.vars apart W args.toList ds gs before →
      conds.all (PathCond.test C.prog ⟨fn.params.toList, ds, s.plain.varTypes C.prog, gs⟩) = true →
      (DataW.weightsEach C.prog (fn.params.toList ++ s.plain.varTypes C.prog) (ds ++ gs)).all (· ≤ reachBytes) = true → X W args → W.ShapedOpen C.prog →
      a.holds C.prog (lone (Frame.enter C.prog f args .normal) [] W) →
      Calls C.prog f args W fun e W' => ∃ v, e = .returned v ∧ s.post enc C.prog fn apart fresh handsOn again W args v W') :
    ReturnsInHanded a C os f .any (fun w args => (s.pre enc C.prog fn conds apart w args ∧ X w args) ∧ sizedMet enc C.prog fn (OpenSpec.ofChange s) apart w args) (s.post enc C.prog fn apart fresh handsOn again) := by
  refine returnsInHanded_of_calls own started noInit witness ?_
  intro w tape i _ hsh _ hok hpre hholds
  obtain ⟨_, _, _, fn', hfn', _, _, _, _, hval⟩ := hok
  obtain rfl : fn' = fn := Option.some.inj (hfn'.symm.trans hfn)
  obtain ⟨⟨⟨ds, gs, before, hw, hc⟩, hx⟩, hz⟩ := hpre
  refine (contract (w.forCall tape i) w.heap.size i.args ds gs before hval (DataW.Whole.of_heap (w' := w.forCall tape i) (by rfl) hw) hc (hz.weights hw) (hX _ _ _ (by rfl) hx) hsh hholds).mono fun e W' ⟨v, he, hp⟩ => ?_
  subst he
  exact ChangeSpec.post_blind hp
end Go.Pub
