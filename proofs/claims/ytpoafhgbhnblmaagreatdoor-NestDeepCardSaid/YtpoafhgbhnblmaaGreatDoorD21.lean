/-
  Texts of the proof, put together (what this law reaches): NsXC, NsT, NsY, NsS, NsK.
-/
import Derived.Test.YtpoafhgbhnblmaaGreatDoorD20
import Derived.Test.YtpoafhgbhnblmaaGreatDoorD15
set_option linter.unusedVariables false
set_option linter.unusedSimpArgs false
namespace Go.Proofs.YtpoafhgbhnblmaaGreatDoor
open Go.RowKit Go.Pub
def kindT : BkT → Nat | .mk k _ _ _ _ _ _ _ _ => k
def kidsT : BkT → List BkT | .mk _ _ _ _ _ _ _ _ ks => ks
theorem RepB.look {w : World} {S : Nat → Prop} {v : Array Value} {b : BkT} (h : RepB w S v b) : v[0]? = some (.int .i64 (kindT b)) ∧ ∃ A c, v[10]? = some (.slice A (kidsT b).length c) ∧ KidsV w S (.slice A (kidsT b).length c) (kidsT b) := by
  cases h with
  | mk kind level info text dest title att line kids A1 A2 A4 c1 c2 c4 vL vs ha hl hr hc =>
    exact ⟨rfl, A4, c4, rfl, A4, c4, vs, rfl, hr, hc⟩
/-- A block among others, looked at. -/
theorem KidsV.look {w : World} {S : Nat → Prop} {A : Option Addr} {n c : Nat} {bs : List BkT} (h : KidsV w S (.slice A n c) bs) (hn : 0 < bs.length) : ∃ g off, A = some ⟨g, off, none⟩ ∧ n = bs.length ∧ ∀ k (hk : k < bs.length), w.cell? ⟨g, off + k * 11, none⟩ = some (.int .i64 (kindT bs[k])) ∧
    ∃ A' c', w.cell? ⟨g, off + (k * 11 + 10), none⟩ = some (.slice A' (kidsT bs[k]).length c') ∧ KidsV w S (.slice A' (kidsT bs[k]).length c') (kidsT bs[k]) := by
  obtain ⟨g, off, c0, e, _, hc⟩ := h.get hn
  injection e with e1 e2 _
  refine ⟨g, off, e1, e2, fun k hk => ?_⟩
  obtain ⟨vb, h1, h2⟩ := hc k hk
  obtain ⟨l1, A', c', l2, l3⟩ := h1.look
  exact ⟨(h2 0 (by omega)).trans l1, A', c', (h2 10 (by omega)).trans l2, l3⟩
theorem lines_lit (w : World) (zs : List ByteArray) (MM : Int) (hm : w.cell? ⟨0, 0, none⟩ = some (.int .i64 MM)) (hl : zs.length ≤ 10000) (hs : ∀ z ∈ zs, z.size ≤ 100000) : LinesAt (w.alloc (.cells (strs zs).toArray 9)) (some ⟨w.heap.size, 0, none⟩) zs MM :=
  ⟨(reads_block (heap_alloc_new w _)).more (by simp), hl, hs, (World.cell?_alloc_lt w _ _ (World.block_lt_of_cell? _ _ hm)).trans hm⟩
set_option maxRecDepth 100000 in
set_option maxHeartbeats 2000000 in
theorem l7_awake (MM : Int) (w : World) (hm : w.cell? ⟨0, 0, none⟩ = some (.int .i64 MM)) : Calls Tryz.prog 11 #[] w fun e w' => e = .returned (.bool true) ∧ Below w.heap.size w w' := by
  have hB1 := (Below.refl _ w).alloc (Nat.le_refl _) (.cells #[.string ⟨#[45, 32, 97]⟩, .string ⟨#[32, 32, 45, 32, 98]⟩] 9)
  have HP : Hid (Calls Tryz.prog 12 #[.slice (some ⟨w.heap.size, 0, none⟩) 2 2] (w.alloc (.cells #[.string ⟨#[45, 32, 97]⟩, .string ⟨#[32, 32, 45, 32, 98]⟩] 9)) (NsPPost (blocksN 16 exL1) (w.alloc (.cells #[.string ⟨#[45, 32, 97]⟩, .string ⟨#[32, 32, 45, 32, 98]⟩] 9)))) := Lib.hid (n_Parse exL1 _ 2 MM _ (lines_lit w exL1 MM hm (by decide) (by decide)) (by decide) (by decide))
  have HQ : Hid (∀ W : World, W.cell? ⟨0, 0, none⟩ = some (.int .i64 MM) → Calls Tryz.prog 15 #[.slice (some ⟨W.heap.size, 0, none⟩) 3 3] (W.alloc (.cells #[.string ⟨#[97]⟩, .string ⟨#[]⟩, .string ⟨#[35, 32, 84]⟩] 9)) (NsRPost (blocksN 16 exL2) (W.alloc (.cells #[.string ⟨#[97]⟩, .string ⟨#[]⟩, .string ⟨#[35, 32, 84]⟩] 9)))) := Lib.hid fun W h => n_Ranges exL2 _ 3 MM _ (lines_lit W exL2 MM h (by decide) (by decide)) (by decide) (by decide)
  rw [ex_b1] at HP
  have hp0 := World.block_lt_of_cell? _ _ hm
  have HB1 := Lib.hid hB1
  have HM := Lib.hid hm
  obtain ⟨p2, hp2⟩ : ∃ p, blocksN 16 exL2 = some p ∧ p.2 = [(0, 1), (2, 3)] := by
    obtain ⟨p, h1, h2⟩ := opt_map_some ex_b2
    exact ⟨p, h1, h2.symm⟩
  rw [hp2.1] at HQ
  unfold NsPPost at HP
  unfold NsRPost at HQ
  simp only [hp2.2] at HQ
  clear hB1 hm hp2
  go_enter Tryz.func11, Tryz.ntmps11
  go_wp2_with fail
  ((with_reducible refine (HP.out).mono ?_))
  rintro e w1 ⟨b1, A, c, rfl, hk, -⟩
  have HB2 := Lib.hid (HB1.out.trans (b1.mono (by simp)))
  have HK := Lib.hid hk
  have hm1 := Lib.hid ((HB2.out.cell (p := ⟨0, 0, none⟩) hp0).trans HM.out)
  clear b1 hk
  go_wp2_with fail
  ((with_reducible refine (HQ.out _ hm1.out).mono ?_))
  rintro e w2 ⟨b2, A2, c2, rfl, hr⟩
  have b2' : Below w1.heap.size w1 w2 := ((Below.refl _ w1).alloc (Nat.le_refl _) _).trans (b2.mono (by simp))
  have HB3 := Lib.hid (HB2.out.trans (b2'.mono HB2.out.size))
  have hk2 := HK.out.keep (S' := fun _ => True) (fun g hg => b2'.block g hg.2) (fun _ _ => trivial)
  obtain ⟨g1, o1, rfl, -, h1⟩ := hk2.look (by decide)
  obtain ⟨f1, A3, c3, f2, hk3⟩ := h1 0 (by decide)
  obtain ⟨g2, o2, rfl, -, h2⟩ := hk3.look (by decide)
  obtain ⟨f3, A4, c4, f4, hk4⟩ := h2 0 (by decide)
  obtain ⟨g3, o3, rfl, -, h3⟩ := hk4.look (by decide)
  obtain ⟨f5, A5, c5, f6, -⟩ := h3 0 (by decide)
  obtain ⟨f7, A6, c6, f8, -⟩ := h3 1 (by decide)
  obtain ⟨g4, o4, rfl, -, hc⟩ := hr.row (by decide) (by decide)
  have r0 := hc 0 _ rfl
  have r1 := hc 1 _ rfl
  have r2 := hc 2 _ rfl
  have r3 := hc 3 _ rfl
  have F1 : w2.cell? ⟨g1, o1, none⟩ = some (.int .i64 7) := f1
  have F2 : w2.cell? ⟨g1, o1 + 10, none⟩ = some (.slice (some ⟨g2, o2, none⟩) 1 c3) := f2
  have F4 : w2.cell? ⟨g2, o2 + 10, none⟩ = some (.slice (some ⟨g3, o3, none⟩) 2 c4) := f4
  have F5 : w2.cell? ⟨g3, o3, none⟩ = some (.int .i64 1) := f5
  have F7 : w2.cell? ⟨g3, o3 + 11, none⟩ = some (.int .i64 7) := f7
  have R0 : w2.cell? ⟨g4, o4, none⟩ = some (.int .i64 0) := r0
  have R1 : w2.cell? ⟨g4, o4 + 1, none⟩ = some (.int .i64 1) := r1
  have R2 : w2.cell? ⟨g4, o4 + 2, none⟩ = some (.int .i64 2) := r2
  have R3 : w2.cell? ⟨g4, o4 + 3, none⟩ = some (.int .i64 3) := r3
  clear hc hr h1 h2 h3 hk2 hk3 hk4 b2 b2' HP HQ HK f1 f2 f3 f4 f5 f6 f7 f8 r0 r1 r2 r3
  go_wp2_with fail
  go_ret
  exact ⟨rfl, HB3.out⟩

end Go.Proofs.YtpoafhgbhnblmaaGreatDoor
namespace Go.Proofs.YtpoafhgbhnblmaaGreatDoor
open Go.RowKit Go.Pub
/-- The ranges ascend from a line on, none is empty, and the lines outside of them are blank. -/
def covB (zs : List ByteArray) : Nat → List (Nat × Nat) → Prop
  | a, [] => ∀ k, a ≤ k → k < zs.length → blankB (ln zs k) = true
  | a, r :: rs => a ≤ r.1 ∧ r.1 < r.2 ∧ r.2 ≤ zs.length ∧ (∀ k, a ≤ k → k < r.1 → blankB (ln zs k) = true) ∧ covB zs r.2 rs
theorem covB_back (zs : List ByteArray) (a : Nat) (hb : blankB (ln zs a) = true) : ∀ rs, covB zs (a + 1) rs → covB zs a rs
  | [], h => fun k h1 h2 => by
    by_cases e : k = a
    · subst e; exact hb
    · exact h k (by omega) h2
  | r :: rs, h => ⟨by have := h.1; omega, h.2.1, h.2.2.1, fun k h1 h2 => by
    by_cases e : k = a
    · subst e; exact hb
    · exact h.2.2.2.1 k (by omega) h2, h.2.2.2.2⟩
theorem restT_cov (n : Nat) (zs : List ByteArray) : ∀ (d i : Nat) (p : List BkT × List (Nat × Nat)), zs.length - i ≤ d → i ≤ zs.length → restT (atN n zs) zs i = some p → covB zs i p.2 ∧ p.1.length = p.2.length := by
  intro d
  induction d with
  | zero =>
    intro i p hd hi h
    rw [restT_end _ _ _ (by omega)] at h
    injection h with h
    subst h
    exact ⟨fun k h1 h2 => by omega, rfl⟩
  | succ d ih =>
    intro i p hd hi h
    by_cases he : zs.length ≤ i
    · rw [restT_end _ _ _ he] at h
      injection h with h
      subst h
      exact ⟨fun k h1 h2 => by omega, rfl⟩
    · cases hb : blankB (ln zs i) with
      | true =>
        rw [restT_blank _ _ _ (by omega) hb] at h
        obtain ⟨h1, h2⟩ := ih (i + 1) p (by omega) (by omega) h
        exact ⟨covB_back zs i hb _ h1, h2⟩
      | false =>
        rw [restT_step _ _ (fun i r h e => (atN_bd n zs i r h e).1) i (by omega) hb] at h
        cases hm : atN n zs i (markM (ln zs i)) with
        | none => rw [hm] at h; cases h
        | some r =>
          obtain ⟨b, tq⟩ := r
          have hbd := atN_bd n zs i _ (by omega) hm
          simp only [] at hbd
          rw [hm] at h
          simp only [] at h
          obtain ⟨q, hq, rfl⟩ := opt_map_some h
          obtain ⟨h1, h2⟩ := ih tq q (by omega) hbd.2 hq
          exact ⟨⟨Nat.le_refl _, hbd.1, hbd.2, fun k a b => by simp only [] at b; omega, h1⟩, by simp [h2]⟩
theorem blocksN_cov (n : Nat) (zs : List ByteArray) (p : List BkT × List (Nat × Nat)) (h : blocksN n zs = some p) : covB zs 0 p.2 ∧ p.1.length = p.2.length := by
  rw [blocksN_rest] at h
  exact restT_cov n zs _ 0 p (Nat.le_refl _) (Nat.zero_le _) h
/-- No more blocks than lines. -/
theorem covB_len (zs : List ByteArray) : ∀ (rs : List (Nat × Nat)) (a : Nat), a ≤ zs.length → covB zs a rs → a + rs.length ≤ zs.length
  | [], a, ha, h => ha
  | r :: rs, a, ha, h => by
    have := covB_len zs rs r.2 h.2.2.1 h.2.2.2.2
    have h1 := h.1
    have h2 := h.2.1
    rw [List.length_cons]; omega
end Go.Proofs.YtpoafhgbhnblmaaGreatDoor
namespace Go.Proofs.YtpoafhgbhnblmaaGreatDoor
open Go.RowKit Go.Pub
theorem rngs_at (rs : List (Nat × Nat)) (k : Nat) (h : k < rs.length) : (rngs rs)[k * 2]? = some (.int .i64 rs[k].1) ∧ (rngs rs)[k * 2 + 1]? = some (.int .i64 rs[k].2) := by
  induction rs generalizing k with
  | nil => exact absurd h (by simp)
  | cons r rs ih =>
    unfold rngs at ih ⊢
    rw [List.flatMap_cons]
    cases k with
    | zero => exact ⟨rfl, rfl⟩
    | succ k =>
      obtain ⟨h1, h2⟩ := ih k (by simpa using h)
      rw [show (k + 1) * 2 = k * 2 + 2 by omega, show k * 2 + 2 + 1 = (k * 2 + 1) + 2 by omega]
      exact ⟨by rw [List.getElem?_append_right (by simp)]; simpa using h1, by rw [List.getElem?_append_right (by simp)]; simpa using h2⟩
end Go.Proofs.YtpoafhgbhnblmaaGreatDoor
namespace Go.Proofs.YtpoafhgbhnblmaaGreatDoor
open Go.RowKit Go.Pub
section
variable (pre zs : List ByteArray)
theorem ln_sh (i : Nat) : ln (pre ++ zs) (pre.length + i) = ln zs i := by
  unfold ln
  rw [List.getD_eq_getElem?_getD, List.getD_eq_getElem?_getD, List.getElem?_append_right (by omega), Nat.add_sub_cancel_left]
theorem seekF_sh (p : Nat) (P Q : Nat → Bool) (h : ∀ j, P (p + j) = Q j) : ∀ d i, seekF P d (p + i) = p + seekF Q d i
  | 0, i => rfl
  | d + 1, i => by
    unfold seekF
    rw [h i]
    by_cases hq : Q i = true
    · rw [if_pos hq, if_pos hq]
    · rw [if_neg hq, if_neg hq, Nat.add_assoc, seekF_sh p P Q h d (i + 1)]
theorem seek_sh (p n i : Nat) (P Q : Nat → Bool) (h : ∀ j, P (p + j) = Q j) : seek P (p + n) (p + i) = p + seek Q n i := by
  unfold seek
  rw [show p + n - (p + i) = n - i by omega]
  exact seekF_sh p P Q h _ _
theorem lastN_sh (p : Nat) (P Q : Nat → Bool) (h : ∀ j, P (p + j) = Q j) (i : Nat) : ∀ d, lastN P (p + i) d = p + lastN Q i d
  | 0 => rfl
  | d + 1 => by
    unfold lastN
    rw [Nat.add_assoc, h (i + d)]
    by_cases hq : Q (i + d) = true
    · rw [if_pos hq, if_pos hq]; omega
    · rw [if_neg hq, if_neg hq, lastN_sh p P Q h i d]
theorem cut_sh (i k : Nat) : cutL (pre ++ zs) (pre.length + i) (pre.length + k) = cutL zs i k := by
  unfold cutL
  rw [show pre.length + k - (pre.length + i) = k - i by omega, List.drop_append, List.drop_of_length_le (by omega), List.nil_append, Nat.add_sub_cancel_left]
theorem kind_sh (i : Nat) : kindOf (pre ++ zs) (pre.length + i) = kindOf zs i := by unfold kindOf; rw [ln_sh]
theorem closeI_sh (m : MkL) (i : Nat) : closeI (pre ++ zs) m (pre.length + i) = pre.length + closeI zs m i := by
  unfold closeI
  rw [List.length_append]
  exact seek_sh _ _ _ _ _ fun j => by unfold closeP; rw [ln_sh]
theorem closeA_sh (m : MkL) (i : Nat) : closeA (pre ++ zs) m (pre.length + i) = closeA zs m i := by
  unfold closeA
  rw [closeI_sh, ln_sh, List.length_append]
  by_cases h : closeI zs m i < zs.length
  · rw [if_pos h, if_pos (by omega)]
  · rw [if_neg h, if_neg (by omega)]
theorem contTo_sh (i : Nat) (m : MkL) : contTo (pre ++ zs) (pre.length + i) m = pre.length + contTo zs i m := by
  unfold contTo
  rw [List.length_append, Nat.add_assoc, seek_sh pre.length zs.length (i + 1) (contStop (pre ++ zs) m) (contStop zs m) fun j => by unfold contStop; rw [ln_sh]]
  rw [lastN_sh pre.length (fun j => !blankB (ln (pre ++ zs) j)) (fun j => !blankB (ln zs j)) (fun j => by rw [ln_sh]) (i + 1)]
  congr 2
  omega
theorem contNo_sh (i : Nat) (m : MkL) : contNo (pre ++ zs) (pre.length + i) m = contNo zs i m := by
  unfold contNo
  rw [List.length_append, Nat.add_assoc, ln_sh]
  congr 2
  exact decide_eq_decide.2 (by omega)
theorem contL_sh (i : Nat) (m : MkL) : contL (pre ++ zs) (pre.length + i) m = ((contL zs i m).1, pre.length + (contL zs i m).2) := by
  unfold contL
  rw [contNo_sh, contTo_sh, Nat.add_assoc, cut_sh]
  by_cases h : contNo zs i m = true
  · rw [if_pos h, if_pos h]
  · rw [if_neg h, if_neg h]
theorem quoteTo_sh (i : Nat) : quoteTo (pre ++ zs) (pre.length + i) = pre.length + quoteTo zs i := by
  unfold quoteTo
  rw [List.length_append]
  exact seek_sh _ _ _ _ _ fun j => by rw [kind_sh]
theorem quoteIn_sh (i : Nat) : quoteIn (pre ++ zs) (pre.length + i) = quoteIn zs i := by
  unfold quoteIn; rw [quoteTo_sh, cut_sh]
theorem headAt_sh (i : Nat) : headAt (pre ++ zs) (pre.length + i) = headAt zs i := by
  unfold headAt
  rw [List.length_append, Nat.add_assoc, ln_sh, ln_sh]
  congr 1
  exact decide_eq_decide.2 (by omega)
theorem tableTo_sh (i : Nat) : tableTo (pre ++ zs) (pre.length + i) = pre.length + tableTo zs i := by
  unfold tableTo
  rw [List.length_append, Nat.add_assoc]
  exact seek_sh _ _ _ _ _ fun j => by rw [kind_sh]
theorem tableB_sh (i : Nat) (r : List UInt8) : tableB (pre ++ zs) (pre.length + i) r = tableB zs i r := by
  unfold tableB
  rw [tableTo_sh, Nat.add_assoc, cut_sh, ln_sh]
theorem paraTo_sh (i : Nat) : paraTo (pre ++ zs) (pre.length + i) = pre.length + paraTo zs i := by
  unfold paraTo
  rw [List.length_append, Nat.add_assoc]
  exact seek_sh _ _ _ _ _ fun j => by rw [kind_sh, headAt_sh]
theorem paraB_sh (i : Nat) : paraB (pre ++ zs) (pre.length + i) = paraB zs i := by
  unfold paraB; rw [paraTo_sh, cut_sh]
theorem nextNB_sh (i : Nat) : nextNB (pre ++ zs) (pre.length + i) = pre.length + nextNB zs i := by
  unfold nextNB
  rw [List.length_append]
  exact seek_sh _ _ _ _ _ fun j => by rw [ln_sh]
theorem itemsF_sh (rec : List ByteArray → Option (List BkT)) : ∀ (f i : Nat) (m : MkL), itemsF rec (pre ++ zs) f (pre.length + i) m = (itemsF rec zs f i m).map fun r => (r.1, pre.length + r.2)
  | 0, i, m => rfl
  | f + 1, i, m => by
    unfold itemsF
    rw [contL_sh]
    simp only []
    rw [nextNB_sh, ln_sh, List.length_append]
    cases rec (contL zs i m).1 with
    | none => rfl
    | some kids =>
      simp only []
      by_cases hc : nextNB zs (contL zs i m).2 < zs.length ∧ sameR m (markM (ln zs (nextNB zs (contL zs i m).2))) = true
      · rw [if_pos hc, if_pos ⟨by omega, hc.2⟩, itemsF_sh rec f]
        cases itemsF rec zs f (nextNB zs (contL zs i m).2) (markM (ln zs (nextNB zs (contL zs i m).2))) <;> rfl
      · rw [if_neg hc, if_neg (fun e => hc ⟨by omega, e.2⟩)]
        rfl
theorem min_sh (a b p : Nat) : min (p + a + 1) (p + b) = p + min (a + 1) b := by omega
theorem blockT_sh (rec1 rec2 : List ByteArray → Option (List BkT)) (d2 d3 : Bool) (i : Nat) (m : MkL) : blockT rec1 rec2 d2 d3 (pre ++ zs) (pre.length + i) m = (blockT rec1 rec2 d2 d3 zs i m).map fun r => (r.1, pre.length + r.2) := by
  unfold blockT
  have hz : (pre ++ zs).length - (pre.length + i) = zs.length - i := by rw [List.length_append]; omega
  by_cases h2 : m.kind = 2
  · rw [if_pos h2, if_pos h2]; rfl
  rw [if_neg h2, if_neg h2]
  by_cases h3 : m.kind = 3
  · rw [if_pos h3, if_pos h3]; rfl
  rw [if_neg h3, if_neg h3]
  by_cases h11 : m.kind = 11
  · rw [if_pos h11, if_pos h11]; rfl
  rw [if_neg h11, if_neg h11]
  by_cases h4 : m.kind = 4
  · rw [if_pos h4, if_pos h4, quoteIn_sh, quoteTo_sh]
    cases rec1 (quoteIn zs i) <;> rfl
  rw [if_neg h4, if_neg h4]
  by_cases h7 : m.kind = 7
  · rw [if_pos h7, if_pos h7, Nat.add_assoc, closeI_sh, cut_sh, List.length_append, min_sh]; rfl
  rw [if_neg h7, if_neg h7]
  by_cases h8 : m.kind = 8
  · rw [if_pos h8, if_pos h8, Nat.add_assoc, closeI_sh, closeA_sh, cut_sh, List.length_append, min_sh]; rfl
  rw [if_neg h8, if_neg h8]
  by_cases h9 : m.kind = 9
  · rw [if_pos h9, if_pos h9, Nat.add_assoc, closeI_sh, cut_sh, List.length_append, min_sh]
    cases rec1 (cutL zs (i + 1) (closeI zs m (i + 1))) <;> rfl
  rw [if_neg h9, if_neg h9]
  by_cases h10 : m.kind = 10
  · rw [if_pos h10, if_pos h10, contL_sh]
    simp only []
    cases rec1 (contL zs i m).1 <;> rfl
  rw [if_neg h10, if_neg h10]
  by_cases h56 : m.kind = 5 ∨ m.kind = 6
  · rw [if_pos h56, if_pos h56, hz, itemsF_sh]
    by_cases hd : d2 = true
    · rw [if_pos hd, if_pos hd]
      cases itemsF rec2 zs (zs.length - i) i m <;> rfl
    · rw [if_neg hd, if_neg hd]; rfl
  rw [if_neg h56, if_neg h56, headAt_sh]
  by_cases ht : headAt zs i = true
  · rw [if_pos ht, if_pos ht]
    by_cases hd : d3 = true
    · rw [if_pos hd, if_pos hd, tableB_sh, tableTo_sh, Nat.add_assoc, ln_sh]; rfl
    · rw [if_neg hd, if_neg hd]; rfl
  · rw [if_neg ht, if_neg ht, paraB_sh, paraTo_sh]; rfl
theorem atN_sh (n i : Nat) (m : MkL) : atN n (pre ++ zs) (pre.length + i) m = (atN n zs i m).map fun r => (r.1, pre.length + r.2) := by
  match n with
  | 0 => rfl
  | 1 => rw [atN_one, atN_one]; exact blockT_sh pre zs _ _ _ _ i m
  | n + 2 => rw [atN_two, atN_two]; exact blockT_sh pre zs _ _ _ _ i m
def moveR (p : Nat) (r : List BkT × List (Nat × Nat)) : List BkT × List (Nat × Nat) := (r.1, r.2.map fun x => (p + x.1, p + x.2))
theorem loopT_sh (n : Nat) : ∀ (f i : Nat), loopT (atN n (pre ++ zs)) (pre ++ zs) f (pre.length + i) = (loopT (atN n zs) zs f i).map (moveR pre.length)
  | 0, i => rfl
  | f + 1, i => by
    unfold loopT
    rw [ln_sh, List.length_append]
    by_cases h : zs.length ≤ i
    · rw [if_pos h, if_pos (by omega)]; rfl
    · rw [if_neg h, if_neg (by omega)]
      by_cases hb : blankB (ln zs i) = true
      · rw [if_pos hb, if_pos hb, Nat.add_assoc, loopT_sh n f (i + 1)]
      · rw [if_neg hb, if_neg hb, atN_sh]
        cases atN n zs i (markM (ln zs i)) with
        | none => rfl
        | some r =>
          obtain ⟨b, tq⟩ := r
          simp only [Option.map_some]
          rw [loopT_sh n f tq]
          cases loopT (atN n zs) zs f tq <;> rfl
/-- Blank lines ahead change no block. -/
theorem restT_sh (n i : Nat) : restT (atN n (pre ++ zs)) (pre ++ zs) (pre.length + i) = (restT (atN n zs) zs i).map (moveR pre.length) := by
  unfold restT
  rw [show (pre ++ zs).length - (pre.length + i) = zs.length - i by rw [List.length_append]; omega]
  exact loopT_sh pre zs n _ _
end
theorem blocksN_blank (n : Nat) (z : ByteArray) (zs : List ByteArray) (h : blankB z = true) : blocksN n (z :: zs) = (blocksN n zs).map (moveR 1) := by
  rw [blocksN_rest, blocksN_rest, restT_blank _ _ 0 (by simp) (by exact h)]
  exact restT_sh [z] zs n 0
end Go.Proofs.YtpoafhgbhnblmaaGreatDoor
namespace Go.Proofs.YtpoafhgbhnblmaaGreatDoor
open Go.RowKit Go.Pub
theorem seek_take (P Q : Nat → Bool) (n t i : Nat) (hi : i ≤ t) (ht : t ≤ n) (h : ∀ j, i ≤ j → j < t → Q j = P j) : seek Q t i = min (seek P n i) t := by
  obtain ⟨h1, h2, h3, h4⟩ := seek_spec P n i (by omega)
  refine seek_eq Q t i _ (by omega) (by omega) (fun j hj hl => ?_) (fun hl => ?_)
  · rw [h j hj (by omega)]; exact h3 j hj (by omega)
  · have e : min (seek P n i) t = seek P n i := by omega
    rw [e, h _ h1 (by omega)]
    exact h4 (by omega)
theorem lastN_spec (q : Nat → Bool) (i : Nat) : ∀ d, (lastN q i d = i ∨ q (lastN q i d - 1) = true) ∧ ∀ j, lastN q i d ≤ j → j < i + d → q j = false
  | 0 => ⟨.inl rfl, fun j h1 h2 => absurd h1 (by show ¬ i ≤ j; omega)⟩
  | d + 1 => by
    unfold lastN
    by_cases h : q (i + d) = true
    · rw [if_pos h]
      exact ⟨.inr (by rw [Nat.add_sub_cancel]; exact h), fun j h1 h2 => by omega⟩
    · rw [if_neg h]
      obtain ⟨h1, h2⟩ := lastN_spec q i d
      refine ⟨h1, fun j hj hl => ?_⟩
      by_cases e : j = i + d
      · subst e; simpa using h
      · exact h2 j hj (by omega)
theorem lastN_eq (q : Nat → Bool) (i d k : Nat) (h1 : i ≤ k) (h2 : k ≤ i + d) (h3 : k = i ∨ q (k - 1) = true) (h4 : ∀ j, k ≤ j → j < i + d → q j = false) : lastN q i d = k := by
  obtain ⟨s1, s2⟩ := lastN_spec q i d
  have s3 := lastN_le q i d
  rcases Nat.lt_trichotomy (lastN q i d) k with h | h | h
  · rcases h3 with h3 | h3
    · omega
    · rw [s2 (k - 1) (by omega) (by omega)] at h3; cases h3
  · exact h
  · rcases s1 with s1 | s1
    · omega
    · rw [h4 (lastN q i d - 1) (by omega) (by omega)] at s1; cases s1
section
variable (us : List ByteArray) (t : Nat)
theorem ln_take (j : Nat) (h : j < t) : ln (us.take t) j = ln us j := by
  unfold ln
  rw [List.getD_eq_getElem?_getD, List.getD_eq_getElem?_getD, List.getElem?_take, if_pos h]
theorem len_take (ht : t ≤ us.length) : (us.take t).length = t := by rw [List.length_take]; omega
theorem cut_take (i k : Nat) (h : k ≤ t) : cutL (us.take t) i k = cutL us i k := by
  unfold cutL
  rw [List.drop_take, List.take_take, Nat.min_eq_left (by omega)]
theorem kind_take (j : Nat) (h : j < t) : kindOf (us.take t) j = kindOf us j := by unfold kindOf; rw [ln_take us t j h]
theorem closeI_take (m : MkL) (i : Nat) (hi : i ≤ t) (ht : t ≤ us.length) : closeI (us.take t) m i = min (closeI us m i) t := by
  unfold closeI
  rw [len_take us t ht]
  exact seek_take _ _ _ _ _ hi ht fun j _ hj => by unfold closeP; rw [ln_take us t j hj]
theorem contTo_take (i : Nat) (m : MkL) (hi : i < t) (ht : t ≤ us.length) (h : contTo us i m ≤ t) : contTo (us.take t) i m = contTo us i m := by
  have hs := seek_take (contStop us m) (contStop (us.take t) m) us.length t (i + 1) (by omega) ht fun j _ hj => by unfold contStop; rw [ln_take us t j hj]
  have hsp := seek_spec (contStop us m) us.length (i + 1) (by omega)
  have l1 := lastN_le (fun j => !blankB (ln us j)) (i + 1) (seek (contStop us m) us.length (i + 1) - (i + 1))
  obtain ⟨l2, l3⟩ := lastN_spec (fun j => !blankB (ln us j)) (i + 1) (seek (contStop us m) us.length (i + 1) - (i + 1))
  unfold contTo at h ⊢
  rw [len_take us t ht, hs]
  generalize seek (contStop us m) us.length (i + 1) = st at *
  generalize hk : lastN (fun j => !blankB (ln us j)) (i + 1) (st - (i + 1)) = k at *
  refine lastN_eq _ _ _ _ l1.1 (by omega) ?_ fun j hj hl => ?_
  · rcases l2 with l2 | l2
    · exact .inl l2
    · by_cases e : k = i + 1
      · exact .inl e
      · refine .inr ?_
        rw [ln_take us t _ (by omega)]; exact l2
  · have := l3 j hj (by omega)
    rw [ln_take us t _ (by omega)]; exact this
theorem contL_take (rec : List ByteArray → Option (List BkT)) (hrec : ∀ z, blankB z = true → rec [z] = rec []) (i : Nat) (m : MkL) (hi : i < t) (ht : t ≤ us.length) (h : (contL us i m).2 ≤ t) :
    rec (contL (us.take t) i m).1 = rec (contL us i m).1 ∧ (contL (us.take t) i m).2 = (contL us i m).2 := by
  unfold contL at h ⊢
  by_cases hn : contNo us i m = true
  · rw [if_pos hn] at h ⊢
    have : contNo (us.take t) i m = true := by
      unfold contNo at hn ⊢
      rw [Bool.and_eq_true] at hn ⊢
      refine ⟨hn.1, ?_⟩
      rw [len_take us t ht]
      by_cases h1 : t ≤ i + 1
      · rw [decide_eq_true h1]; rfl
      · rw [ln_take us t _ (by omega)]
        have h2 := hn.2
        rw [Bool.or_eq_true] at h2 ⊢
        rcases h2 with h2 | h2
        · rw [decide_eq_true_eq] at h2; omega
        · exact .inr h2
    rw [if_pos this]
    exact ⟨rfl, rfl⟩
  · rw [if_neg hn] at h ⊢
    simp only [] at h
    have hto := contTo_take us t i m hi ht h
    by_cases h1 : t ≤ i + 1
    · have hbd := contTo_bd us i m (by omega)
      have e : contTo us i m = i + 1 := by omega
      have ec : cutL us (i + 1) (i + 1) = [] := by unfold cutL; simp
      by_cases hb : blankB m.rest = true
      · have : contNo (us.take t) i m = true := by
          unfold contNo
          rw [hb, len_take us t ht, decide_eq_true h1]; rfl
        rw [if_pos this, e, ec]
        exact ⟨(hrec _ hb).symm, rfl⟩
      · have : ¬ contNo (us.take t) i m = true := by
          unfold contNo
          intro e
          rw [Bool.and_eq_true] at e
          exact hb e.1
        rw [if_neg this, hto, e, cut_take us t _ _ (by omega)]
        exact ⟨rfl, rfl⟩
    · have : ¬ contNo (us.take t) i m = true := by
        intro e
        refine hn ?_
        unfold contNo at e ⊢
        rw [Bool.and_eq_true] at e ⊢
        refine ⟨e.1, ?_⟩
        have h2 := e.2
        rw [len_take us t ht, ln_take us t _ (by omega), Bool.or_eq_true] at h2
        rw [Bool.or_eq_true]
        rcases h2 with h2 | h2
        · rw [decide_eq_true_eq] at h2; omega
        · exact .inr h2
      rw [if_neg this, hto, cut_take us t _ _ h]
      exact ⟨rfl, rfl⟩
theorem nextNB_take (i : Nat) (hi : i ≤ t) (ht : t ≤ us.length) : nextNB (us.take t) i = min (nextNB us i) t := by
  unfold nextNB
  rw [len_take us t ht]
  exact seek_take _ _ _ _ _ hi ht fun j _ hj => by rw [ln_take us t j hj]
theorem itemsF_take (rec : List ByteArray → Option (List BkT)) (hrec : ∀ z, blankB z = true → rec [z] = rec []) (ht : t ≤ us.length) : ∀ (f i : Nat) (m : MkL) (r : List BkT × Nat), i < us.length → itemsF rec us f i m = some r → r.2 = t → itemsF rec (us.take t) f i m = some r
  | 0, i, m, r, hi, h, e => by cases h
  | f + 1, i, m, r, hi, h, e => by
    have hlt := (itemsF_bd rec us (f + 1) i m r hi h).1
    have hb := contL_bd us i m hi
    have hnb := nextNB_bd us (contL us i m).2 hb.2
    unfold itemsF at h ⊢
    cases hr : rec (contL us i m).1 with
    | none => rw [hr] at h; cases h
    | some kids =>
      rw [hr] at h
      simp only [] at h
      by_cases hc : nextNB us (contL us i m).2 < us.length ∧ sameR m (markM (ln us (nextNB us (contL us i m).2))) = true
      · rw [if_pos hc] at h
        obtain ⟨q, hq, rfl⟩ := opt_map_some h
        simp only [] at e
        have hq2 := (itemsF_bd rec us f _ _ q hc.1 hq).1
        obtain ⟨c1, c2⟩ := contL_take us t rec hrec i m (by omega) ht (by omega)
        have hnt := nextNB_take us t (contL us i m).2 (by omega) ht
        rw [Nat.min_eq_left (by omega)] at hnt
        rw [c1, c2, hr, hnt, len_take us t ht, ln_take us t _ (by omega)]
        simp only []
        rw [if_pos ⟨by omega, hc.2⟩, itemsF_take rec hrec ht f _ _ q hc.1 hq e]
        rfl
      · rw [if_neg hc] at h
        injection h with h
        subst h
        simp only [] at e
        obtain ⟨c1, c2⟩ := contL_take us t rec hrec i m (by omega) ht (by omega)
        have hnt := nextNB_take us t (contL us i m).2 (by omega) ht
        rw [c1, c2, hr, len_take us t ht]
        simp only []
        rw [if_neg (fun h => by have := h.1; omega)]
theorem headAt_take (j : Nat) (ht : t ≤ us.length) (h : headAt us j = false) : headAt (us.take t) j = false := by
  by_cases hj : j + 1 < t
  · unfold headAt at h ⊢
    rw [len_take us t ht, ln_take us t _ (by omega), ln_take us t _ (by omega), decide_eq_true hj]
    rw [decide_eq_true (by omega)] at h
    exact h
  · unfold headAt
    rw [len_take us t ht, decide_eq_false hj]; rfl
theorem min_close_take (m : MkL) (ht : min (closeI us m 1 + 1) us.length = t) (h0 : 0 < us.length) : closeI (us.take t) m 1 = closeI us m 1 ∧ min (closeI (us.take t) m 1 + 1) t = t ∧ closeI us m 1 ≤ t := by
  have hs := seek_spec (closeP us m) us.length 1 (by omega)
  have h1 : closeI us m 1 ≤ us.length := by unfold closeI; exact hs.2.1
  have h2 := closeI_take us t m 1 (by have : 1 ≤ closeI us m 1 := hs.1; omega) (by omega)
  rw [h2]
  omega
theorem blockT_take (rec1 rec2 : List ByteArray → Option (List BkT)) (hrec1 : ∀ z, blankB z = true → rec1 [z] = rec1 []) (hrec2 : ∀ z, blankB z = true → rec2 [z] = rec2 []) (d2 d3 : Bool) (h0 : 0 < us.length) (b : BkT)
    (e : blockT rec1 rec2 d2 d3 us 0 (markM (ln us 0)) = some (b, t)) : blockT rec1 rec2 d2 d3 (us.take t) 0 (markM (ln us 0)) = some (b, t) := by
  obtain ⟨hbt, htl⟩ := blockT_bd rec1 rec2 d2 d3 us 0 h0 _ e
  simp only [] at hbt htl
  have hk : kindOf us 0 = (markM (ln us 0)).kind := rfl
  generalize markM (ln us 0) = m at *
  have hlt := len_take us t htl
  unfold blockT at e ⊢
  by_cases h2 : m.kind = 2
  · rw [if_pos h2] at e ⊢; exact e
  rw [if_neg h2] at e ⊢
  by_cases h3 : m.kind = 3
  · rw [if_pos h3] at e ⊢; exact e
  rw [if_neg h3] at e ⊢
  by_cases h11 : m.kind = 11
  · rw [if_pos h11] at e ⊢; exact e
  rw [if_neg h11] at e ⊢
  by_cases h4 : m.kind = 4
  · rw [if_pos h4] at e ⊢
    have hq : quoteTo us 0 = t := by
      obtain ⟨k, _, hk⟩ := opt_map_some e
      injection hk with _ hk
      exact hk.symm
    have hq2 : quoteTo (us.take t) 0 = t := by
      unfold quoteTo at hq ⊢
      rw [hlt, seek_take (fun j => !decide (kindOf us j = 4)) (fun j => !decide (kindOf (us.take t) j = 4)) us.length t 0 (by omega) htl fun j _ hj => by rw [kind_take us t j hj], hq, Nat.min_self]
    have hi : quoteIn (us.take t) 0 = quoteIn us 0 := by
      unfold quoteIn
      rw [hq2, hq, cut_take us t _ _ (Nat.le_refl _)]
    rw [hi, hq2]
    rw [hq] at e
    exact e
  rw [if_neg h4] at e ⊢
  by_cases h7 : m.kind = 7
  · rw [if_pos h7] at e ⊢
    have ht : min (closeI us m (0 + 1) + 1) us.length = t := by injection e with e; injection e
    obtain ⟨c1, c2, c3⟩ := min_close_take us t m ht h0
    rw [hlt, c2]
    rw [Nat.zero_add] at e ht ⊢
    rw [c1, cut_take us t _ _ c3]
    rw [ht] at e
    exact e
  rw [if_neg h7] at e ⊢
  by_cases h8 : m.kind = 8
  · rw [if_pos h8] at e ⊢
    have ht : min (closeI us m (0 + 1) + 1) us.length = t := by injection e with e; injection e
    obtain ⟨c1, c2, c3⟩ := min_close_take us t m ht h0
    have ca : closeA (us.take t) m 1 = closeA us m 1 := by
      have ht1 : min (closeI us m 1 + 1) us.length = t := ht
      clear e ht
      unfold closeA
      rw [c1, hlt]
      by_cases hc : closeI us m 1 < us.length
      · rw [if_pos hc, if_pos (by omega), ln_take us t _ (by omega)]
      · rw [if_neg hc, if_neg (by omega)]
    rw [hlt, c2]
    rw [Nat.zero_add] at e ht ⊢
    rw [c1, ca, cut_take us t _ _ c3]
    rw [ht] at e
    exact e
  rw [if_neg h8] at e ⊢
  by_cases h9 : m.kind = 9
  · rw [if_pos h9] at e ⊢
    have ht : min (closeI us m (0 + 1) + 1) us.length = t := by
      obtain ⟨k, _, hk⟩ := opt_map_some e
      injection hk with _ hk
      exact hk.symm
    obtain ⟨c1, c2, c3⟩ := min_close_take us t m ht h0
    rw [hlt, c2]
    rw [Nat.zero_add] at e ht ⊢
    rw [c1, cut_take us t _ _ c3]
    rw [ht] at e
    exact e
  rw [if_neg h9] at e ⊢
  by_cases h10 : m.kind = 10
  · rw [if_pos h10] at e ⊢
    have ht : (contL us 0 m).2 = t := by
      obtain ⟨k, _, hk⟩ := opt_map_some e
      injection hk with _ hk
      exact hk.symm
    obtain ⟨c1, c2⟩ := contL_take us t rec1 hrec1 0 m hbt htl (by omega)
    rw [c1, c2]
    exact e
  rw [if_neg h10] at e ⊢
  by_cases h56 : m.kind = 5 ∨ m.kind = 6
  · rw [if_pos h56] at e ⊢
    by_cases hd : d2 = true
    · rw [if_pos hd] at e ⊢
      obtain ⟨q, hq, hk⟩ := opt_map_some e
      injection hk with hk1 hk2
      have h1 := itemsF_take us t rec2 hrec2 htl _ 0 m q h0 hq hk2.symm
      rw [itemsF_fuel rec2 (us.take t) _ ((us.take t).length - 0) 0 m (by omega) (by omega) (Nat.le_refl _)] at h1
      rw [h1]
      rw [hq] at e
      exact e
    · rw [if_neg hd] at e; cases e
  rw [if_neg h56] at e ⊢
  by_cases ht : headAt us 0 = true
  · rw [if_pos ht] at e
    by_cases hd : d3 = true
    · rw [if_pos hd] at e
      have htt : tableTo us 0 = t := by injection e with e; injection e
      have h1 : 0 + 1 < us.length := by
        unfold headAt at ht
        rw [Bool.and_eq_true, decide_eq_true_eq] at ht
        exact ht.1
      have hs := seek_spec (fun j => !decide (kindOf us j = 0)) us.length (0 + 2) (by omega)
      have h2t : 0 + 2 ≤ t := by unfold tableTo at htt; omega
      have hh : headAt (us.take t) 0 = true := by
        unfold headAt at ht ⊢
        rw [hlt, ln_take us t _ (by omega), ln_take us t _ (by omega), decide_eq_true (by omega)]
        rw [decide_eq_true h1] at ht
        exact ht
      have htt2 : tableTo (us.take t) 0 = t := by
        unfold tableTo at htt ⊢
        rw [hlt, seek_take (fun j => !decide (kindOf us j = 0)) (fun j => !decide (kindOf (us.take t) j = 0)) us.length t (0 + 2) (by omega) htl fun j _ hj => by rw [kind_take us t j hj], htt, Nat.min_self]
      have htb : ∀ r, tableB (us.take t) 0 r = tableB us 0 r := fun r => by
        unfold tableB
        rw [htt2, htt, cut_take us t _ _ (Nat.le_refl _), ln_take us t _ (by omega)]
      rw [if_pos hh, if_pos hd, htb, htt2, ln_take us t _ (by omega)]
      rw [htt] at e
      exact e
    · rw [if_neg hd] at e; cases e
  · rw [if_neg ht] at e
    have htt : paraTo us 0 = t := by injection e with e; injection e
    have hh := headAt_take us t 0 htl (by simpa using ht)
    obtain ⟨s1, s2, s3, s4⟩ := seek_spec (fun j => !decide (kindOf us j = 0) || headAt us j) us.length (0 + 1) (by omega)
    have htt2 : paraTo (us.take t) 0 = t := by
      unfold paraTo at htt ⊢
      rw [hlt]
      rw [htt] at s3
      refine seek_eq _ t _ t (by omega) (Nat.le_refl _) (fun j hj hl => ?_) (fun h => absurd h (by omega))
      have := s3 j hj hl
      simp only [Bool.or_eq_false_iff] at this ⊢
      exact ⟨by rw [kind_take us t j hl]; exact this.1, headAt_take us t j htl this.2⟩
    have hpb : paraB (us.take t) 0 = paraB us 0 := by
      unfold paraB
      rw [htt2, htt, cut_take us t _ _ (Nat.le_refl _)]
    rw [if_neg (by rw [hh]; exact Bool.false_ne_true), hpb, htt2]
    rw [htt] at e
    exact e
end
theorem rec_blank (n : Nat) (z : ByteArray) (h : blankB z = true) : (blocksN n [z]).map (·.1) = (blocksN n []).map (·.1) := by
  rw [blocksN_blank n z [] h]
  cases blocksN n [] <;> rfl
theorem atN_take (n : Nat) (us : List ByteArray) (t : Nat) (h0 : 0 < us.length) (b : BkT) (e : atN n us 0 (markM (ln us 0)) = some (b, t)) : atN n (us.take t) 0 (markM (ln us 0)) = some (b, t) := by
  match n with
  | 0 => cases e
  | 1 =>
    rw [atN_one] at e ⊢
    exact blockT_take us t _ _ (rec_blank 0) (fun _ _ => rfl) _ _ h0 b e
  | n + 2 =>
    rw [atN_two] at e ⊢
    exact blockT_take us t _ _ (rec_blank (n + 1)) (rec_blank n) _ _ h0 b e
/-- The lines of a block by themselves are that block. -/
theorem piece_one (n : Nat) (us : List ByteArray) (t : Nat) (h0 : 0 < us.length) (hb : blankB (ln us 0) = false) (b : BkT) (e : atN n us 0 (markM (ln us 0)) = some (b, t)) : blocksN n (us.take t) = some ([b], [(0, t)]) := by
  have hbd := atN_bd n us 0 _ h0 e
  simp only [] at hbd
  have hl := len_take us t hbd.2
  rw [blocksN_rest, restT_step _ _ (fun i r h e => (atN_bd n _ i r h e).1) 0 (by omega) (by rw [ln_take us t _ hbd.1]; exact hb), ln_take us t _ hbd.1, atN_take n us t h0 b e]
  simp only []
  rw [restT_end _ _ _ (by omega)]
  rfl
theorem piece_at (n : Nat) (zs : List ByteArray) (i t : Nat) (hi : i < zs.length) (hb : blankB (ln zs i) = false) (b : BkT) (e : atN n zs i (markM (ln zs i)) = some (b, t)) : blocksN n (cutL zs i t) = some ([b], [(0, t - i)]) := by
  have hbd := atN_bd n zs i _ hi e
  simp only [] at hbd
  have hz : zs.take i ++ zs.drop i = zs := List.take_append_drop i zs
  have hl : (zs.take i).length = i := len_take zs i (by omega)
  have hln : ln (zs.drop i) 0 = ln zs i := by
    have := ln_sh (zs.take i) (zs.drop i) 0
    rw [hz, hl, Nat.add_zero] at this
    exact this.symm
  have hsh := atN_sh (zs.take i) (zs.drop i) n 0 (markM (ln zs i))
  rw [hz, hl, Nat.add_zero, e] at hsh
  obtain ⟨r, hr, hq⟩ := opt_map_some hsh.symm
  obtain ⟨b', t'⟩ := r
  injection hq with hq1 hq2
  subst hq1
  simp only [] at hq2
  have := piece_one n (zs.drop i) t' (by rw [List.length_drop]; omega) (by rw [hln]; exact hb) b (by rw [hln]; exact hr)
  unfold cutL
  rw [show t - i = t' by omega]
  exact this
/-- Each block with its range. -/
theorem restT_pieces (n : Nat) (zs : List ByteArray) : ∀ (d i : Nat) (p : List BkT × List (Nat × Nat)), zs.length - i ≤ d → restT (atN n zs) zs i = some p → ∀ k (h1 : k < p.1.length) (h2 : k < p.2.length), p.2[k].1 ≤ p.2[k].2 ∧ p.2[k].2 ≤ zs.length ∧ blocksN n (cutL zs p.2[k].1 p.2[k].2) = some ([p.1[k]], [(0, p.2[k].2 - p.2[k].1)]) := by
  intro d
  induction d with
  | zero =>
    intro i p hd h k h1 h2
    rw [restT_end _ _ _ (by omega)] at h
    injection h with h
    subst h
    simp at h1
  | succ d ih =>
    intro i p hd h k h1 h2
    by_cases he : zs.length ≤ i
    · rw [restT_end _ _ _ he] at h
      injection h with h
      subst h
      simp at h1
    · cases hb : blankB (ln zs i) with
      | true =>
        rw [restT_blank _ _ _ (by omega) hb] at h
        exact ih (i + 1) p (by omega) h k h1 h2
      | false =>
        rw [restT_step _ _ (fun i r h e => (atN_bd n zs i r h e).1) i (by omega) hb] at h
        cases hm : atN n zs i (markM (ln zs i)) with
        | none => rw [hm] at h; cases h
        | some r =>
          obtain ⟨b, tq⟩ := r
          have hbd := atN_bd n zs i _ (by omega) hm
          simp only [] at hbd
          rw [hm] at h
          simp only [] at h
          obtain ⟨q, hq, rfl⟩ := opt_map_some h
          cases k with
          | zero => exact ⟨by show i ≤ tq; omega, hbd.2, piece_at n zs i tq (by omega) hb b hm⟩
          | succ k => exact ih tq q (by omega) hq k (by simpa using h1) (by simpa using h2)
theorem blocksN_pieces (n : Nat) (zs : List ByteArray) (p : List BkT × List (Nat × Nat)) (h : blocksN n zs = some p) (k : Nat) (h1 : k < p.1.length) (h2 : k < p.2.length) : p.2[k].1 ≤ p.2[k].2 ∧ p.2[k].2 ≤ zs.length ∧ blocksN n (cutL zs p.2[k].1 p.2[k].2) = some ([p.1[k]], [(0, p.2[k].2 - p.2[k].1)]) := by
  rw [blocksN_rest] at h
  exact restT_pieces n zs _ 0 p (Nat.le_refl _) h k h1 h2
end Go.Proofs.YtpoafhgbhnblmaaGreatDoor
