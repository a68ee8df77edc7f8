/-
  Texts of the proof, put together (what this law reaches): NsM, TabHB.
-/
import Derived.Test.YtpoafhgbhnblmaaGreatDoorC12
import Derived.Deep.CutBlock
import Derived.Deep.DeepCutAuto
import Derived.Deep.RegionHeld3
import Derived.Test.YtpoafhgbhnblmaaGreatDoorC08
set_option linter.unusedVariables false
set_option linter.unusedSimpArgs false
namespace Go.Proofs.YtpoafhgbhnblmaaGreatDoor
open Go.RowKit Go.Pub
/-- The trimmed lines of a paragraph so far. -/
def paraK (zs : List ByteArray) (i k : Nat) : List ByteArray := (cutL zs i k).map fun z => mk (trimS (bytesL z))
theorem paraK_succ (zs : List ByteArray) (i k : Nat) (h : i ≤ k) (hk : k < zs.length) : strs (paraK zs i (k + 1)) = strs (paraK zs i k) ++ [.string (mk (trimS (bytesL (ln zs k))))] := by
  unfold paraK strs
  rw [cutL_succ zs i k h hk, List.map_append, List.map_append]
  rfl
theorem paraK_len (zs : List ByteArray) (i k : Nat) (h : i ≤ k) (hk : k ≤ zs.length) : (paraK zs i k).length = k - i := by unfold paraK; rw [List.length_map, cutL_len _ _ _ h hk]
theorem own_drewN {w : World} {base size n : Nat} {e : TypeId} {v : Value} {xs : List Value} (h : w.ownsRow base e size v n xs) (k : Nat) : (w.drewN k).ownsRow base e size v n xs := h
theorem srcV_form {w : World} {S : Nat → Prop} {v : Value} {s : ByteArray} (h : SrcV w S v s) : ∃ A n c, v = .slice A n c := by
  unfold SrcV at h
  by_cases hz : s.size = 0
  · rw [if_pos hz] at h; exact ⟨_, _, _, h⟩
  · rw [if_neg hz] at h
    obtain ⟨A, c, e, _⟩ := h
    exact ⟨_, _, _, e⟩
theorem srcV_far {w w' : World} {B B' g : Nat} {v : Value} {s : ByteArray} (h : SrcV w (Rg B w) v s) (hg : w.grownBy w' (some g)) (hlt : g < B) (hB : B' ≤ B) : SrcV w' (Rg B' w') v s :=
  h.keep (fun x hx => hg.block x hx.2 fun e => by injection e with e; have := hx.1; omega) fun x hx => ⟨by have := hx.1; omega, Nat.lt_of_lt_of_le hx.2 hg.size⟩
/-- A block with a line. -/
theorem repB_leaf {w : World} {S : Nat → Prop} {kind : Nat} {line : ByteArray} {vL : Value} (hl : SrcV w S vL line) : RepB w S #[.int .i64 kind, .int .i64 (0 : Nat), .string ⟨#[]⟩, .string ⟨#[]⟩, .string ⟨#[]⟩, .string ⟨#[]⟩, .string ⟨#[]⟩, .slice none 0 0, .slice none 0 0, vL, .slice none 0 0] (leafB kind line) :=
  repB_mk (att := emptyA) (AttR.empty _ _ _ _) hl (KidsV.none_ _ _)
def stopP (zs : List ByteArray) (j : Nat) : Bool := !decide (kindOf zs j = 0) || headAt zs j
theorem paraTo_bd (zs : List ByteArray) (i : Nat) (hi : i < zs.length) : i + 1 ≤ paraTo zs i ∧ paraTo zs i ≤ zs.length := by
  have := seek_spec (stopP zs) zs.length (i + 1) (by omega)
  exact ⟨this.1, this.2.1⟩
theorem paraK_size (zs : List ByteArray) (i k : Nat) (hM : ∀ z ∈ zs, z.size ≤ 100000) : ∀ z ∈ paraK zs i k, z.size ≤ 100000 := by
  intro z hz
  unfold paraK at hz
  obtain ⟨y, hy, rfl⟩ := List.mem_map.1 hz
  rw [mk_size]
  have h1 := trimS_len (bytesL y)
  rw [bytesL_length] at h1
  exact Nat.le_trans h1 (hM y (cutL_mem hy))
def PaRel (zs : List ByteArray) (i : Nat) (w : World) (v6 v7 : Value) (wr : World) : Prop :=
  ∃ k : Nat, v7 = .int .i64 k ∧ i + 1 ≤ k ∧ k ≤ zs.length ∧ wr.ownsRow (w.heap.size + 1) 9 1 v6 (k - i) (strs (paraK zs i k)) ∧ ZB wr w.heap.size ∧ Below w.heap.size w wr ∧ Hid (∀ j, i + 1 ≤ j → j < k → stopP zs j = false)
theorem mark_field (i0 i1 : Int) (s2 : ByteArray) (i3 : Int) (s4 s5 s6 s7 s8 : ByteArray) (v9 v10 : Value) (W : World) : (Instr.field 74 (.agg #[.int .i64 i0, .int .i64 i1, .string s2, .int .i64 i3, .string s4, .string s5, .string s6, .string s7, .string s8, v9, v10]) 0).run Tryz.prog W = .ok (.int .i64 i0) W := by kernel_rfl
set_option maxRecDepth 100000 in
set_option maxHeartbeats 1000000 in
theorem n_para (zs : List ByteArray) (A : Option Addr) (c i B : Nat) (MM : Int) (w : World) (hL : LinesAt w A zs MM) (hi : i < zs.length) (hB : B ≤ w.heap.size) :
    Calls Tryz.prog 79 #[.slice A zs.length c, .int .i64 i] w fun e w' => (∃ v, e = .returned (.tuple #[.agg v, .int .i64 (paraTo zs i)]) ∧ RepB w' (Rg B w') v (paraB zs i)) ∧ Below w.heap.size w w' := by
  obtain ⟨i0, hi0, hz0, hz1, hz2⟩ := info_parts strInfo
  have hlen := hL.len
  obtain ⟨b, off, rfl, hb, hcell⟩ := hL.get (by omega)
  have HCell := Lib.hid hcell
  have HLi := Lib.hid hL
  have HM : Hid (∀ j W, Calls Tryz.prog 38 #[.string (ln zs j)] W fun e w' => ∃ A c D d, e = .returned (.agg ((markM (ln zs j)).cells (.slice A (markM (ln zs j)).att.cl.length c) (.slice D (markM (ln zs j)).att.pr.length d))) ∧ Below W.heap.size W w') := Lib.hid fun j W => (m_of (ln zs j) W (Nat.le_trans (ln_size hL.sz j) (by decide))).mono fun e w' => mkpost_val
  have HTr : Hid (∀ j W, Calls Tryz.prog 105 #[.string (ln zs j)] W fun e w' => e = .returned (.string (mk (trimS (bytesL (ln zs j))))) ∧ W = w') := Lib.hid fun j W => t_trim (ln zs j) W (Nat.le_trans (ln_size hL.sz j) (by decide))
  have HHd : Hid (∀ j W, W.cell? ⟨0, 0, none⟩ = some (.int .i64 MM) → Calls Tryz.prog 77 #[.string (ln zs j), .string (ln zs (j + 1))] W fun e w' => e = .returned (.bool (headB (bytesL (ln zs j)) (bytesL (ln zs (j + 1))))) ∧ Below W.heap.size W w') := Lib.hid fun j W h => t_head (ln zs j) (ln zs (j + 1)) MM W (Nat.le_trans (ln_size hL.sz j) (by decide)) (Nat.le_trans (ln_size hL.sz _) (by decide)) h
  have HZ0 := Lib.hid (Blk.new w 46 zbC)
  unfold zbC at HZ0
  have HB0 : Hid (∀ o, Below w.heap.size w (w.alloc o)) := Lib.hid fun o => (Below.refl _ w).alloc (Nat.le_refl _) _
  have HP1 : Hid (strs (paraK zs i (i + 1)) = [.string (mk (trimS (bytesL (ln zs i))))]) := Lib.hid (by rw [paraK_succ zs i i (Nat.le_refl _) hi, show strs (paraK zs i i) = [] by unfold paraK cutL strs; simp]; rfl)
  have HPs := Lib.hid fun k => paraK_succ zs i k
  have HSt : Hid (∀ k, i + 1 ≤ k → k ≤ zs.length → (∀ j, i + 1 ≤ j → j < k → stopP zs j = false) → (k < zs.length → stopP zs k = true) → paraTo zs i = k) := Lib.hid fun k h1 h2 h3 h4 => seek_eq _ _ _ _ h1 h2 h3 h4
  have hT0 := hcell i hi
  have HT0 := Lib.hid fun W => HTr.out i W
  have HF := Lib.hid mark_field
  have hpb := paraTo_bd zs i hi
  have HSz := Lib.hid (paraK_size zs i (paraTo zs i) hL.sz)
  have HPl := Lib.hid (paraK_len zs i (paraTo zs i) (by omega) hpb.2)
  clear hL hcell
  generalize mk (trimS (bytesL (ln zs i))) = y0 at *
  generalize hzi : ln zs i = zi at hT0 HT0
  clear hzi
  have hc00 : ∀ o, (w.alloc o).cell? ⟨b, off + i, none⟩ = some (.string zi) := fun o => ((HB0.out o).cell (p := ⟨b, off + i, none⟩) hb).trans hT0
  have HC00 := Lib.hid (hc00 (.cells #[.int .i64 0, .int .i64 0, .string ⟨#[]⟩, .string ⟨#[]⟩, .string ⟨#[]⟩, .string ⟨#[]⟩, .string ⟨#[]⟩, .slice none 0 0, .slice none 0 0, .slice none 0 0, .slice none 0 0] 46))
  clear hc00 hT0
  have hc1 := HC00.out
  go_enter Tryz.func79, Tryz.ntmps79
  go_wp2_with fail
  ((with_reducible refine (HT0.out _).mono ?_))
  rintro e w1 ⟨rfl, rfl⟩
  clear hc1 HC00 HT0
  go_upto_block 0 with fail
  go_cut [6, 7] (fun s6 s7 wx => s7 = .int .i64 (paraTo zs i) ∧ wx.ownsRow (w.heap.size + 1) 9 1 s6 (paraTo zs i - i) (strs (paraK zs i (paraTo zs i))) ∧ ZB wx w.heap.size ∧ Below w.heap.size w wx)
  case first =>
    go_wp2_with fail
    go_loopw [6, 7] (fun v6 v7 wr => PaRel zs i w v6 v7 wr) (fun _ v7 _ => zs.length - (intOf v7).toNat)
    case atStart =>
      refine ⟨i + 1, by go_num, Nat.le_refl _, by omega, ?_, Blk.alloc HZ0.out _, (HB0.out _).alloc (by simp) _, Lib.hid fun j h1 h2 => absurd h2 (by omega)⟩
      rw [HP1.out, show i + 1 - i = 1 by omega]
      have h := World.ownsRow_lit (base := w.heap.size + 1) (size := 1) (e := 9) (w.alloc (.cells #[.int .i64 0, .int .i64 0, .string ⟨#[]⟩, .string ⟨#[]⟩, .string ⟨#[]⟩, .string ⟨#[]⟩, .string ⟨#[]⟩, .slice none 0 0, .slice none 0 0, .slice none 0 0, .slice none 0 0] 46)) #[.string y0] 1 (by simp) (by decide) rfl
      simp only [heap_alloc_size] at h
      exact h
    case round =>
      clear HZ0 HB0 HP1
      obtain ⟨k, rfl, hk1, hk, hown, hZ, hbw, Hno⟩ := hrel
      have hzr := hbw.size
      have hzl := Blk.lt hZ
      have HZr := Lib.hid hZ
      have HOr := Lib.hid hown
      have HT : Hid ((k < zs.length → stopP zs k = true) → paraTo zs i = k) := Lib.hid (HSt.out k hk1 hk Hno.out)
      by_cases hlt : k < zs.length
      · have hc0 : wr.cell? ⟨b, off + k, none⟩ = some (.string (ln zs k)) := (hbw.cell (p := ⟨b, off + k, none⟩) hb).trans (HCell.out k hlt)
        have HM1 := Lib.hid fun W => HM.out k W
        have HE := Lib.hid (HPs.out k (by omega) hlt)
        have hkk : Hid (kindOf zs k = (markM (ln zs k)).kind) := Lib.hid rfl
        have hsp : Hid (stopP zs k = (!decide (kindOf zs k = 0) || headAt zs k)) := Lib.hid rfl
        have hhd : Hid (headAt zs k = (decide (k + 1 < zs.length) && headB (bytesL (ln zs k)) (bytesL (ln zs (k + 1))))) := Lib.hid rfl
        have HTk := Lib.hid fun W => HTr.out k W
        have HHk := Lib.hid fun W => HHd.out k W
        clear HM hZ HTr HHd HSt HPs hown
        generalize markM (ln zs k) = m at *
        unfold MkL.cells at HM1
        by_cases h0 : m.kind = 0
        · have z1 : (((m.kind : Nat) : Int) == 0) = true := by rw [beq_iff_eq]; omega
          have z2 : ((m.kind : Nat) == 0) = true := by rw [beq_iff_eq]; exact h0
          have hfd := HF.out
          generalize hyk : mk (trimS (bytesL (ln zs k))) = yk at *
          clear hyk
          by_cases hk2 : k + 1 < zs.length
          · have d1 : decide ((k : Int) + 1 < (zs.length : Int)) = true := decide_eq_true (by omega)
            have d2 : decide (k + 1 < zs.length) = true := decide_eq_true hk2
            have hhd2 : Hid (headAt zs k = headB (bytesL (ln zs k)) (bytesL (ln zs (k + 1)))) := Lib.hid (by rw [hhd.out, d2]; rfl)
            have hsp2 : Hid (stopP zs k = headB (bytesL (ln zs k)) (bytesL (ln zs (k + 1)))) := Lib.hid (by rw [hsp.out, hkk.out, decide_eq_true h0, hhd2.out]; rfl)
            have hc2 : w.cell? ⟨b, off + (k + 1), none⟩ = some (.string (ln zs (k + 1))) := HCell.out (k + 1) hk2
            have HC2 := Lib.hid hc2
            clear hsp hhd hhd2 hkk h0 hc2 HF
            go_wp2_with fail
            ((with_reducible refine (HM1.out _).mono ?_))
            rintro e w2 ⟨A1, c1, A2, c2, rfl, b1⟩
            have hz1' := b1.size
            have HOw := Lib.hid (own_below HOr.out b1)
            have HZw := Lib.hid (HZr.out.below (w := w) b1)
            have HBw := Lib.hid (hbw.trans (b1.mono hzr))
            have HLw := Lib.hid (HLi.out.below HBw.out)
            have HH2 : Hid (∀ W, Below w2.heap.size w2 W → Calls Tryz.prog 77 #[.string (ln zs k), .string (ln zs (k + 1))] W fun e w' => e = .returned (.bool (headB (bytesL (ln zs k)) (bytesL (ln zs (k + 1))))) ∧ Below W.heap.size W w') := Lib.hid fun W h => HHk.out W (HLw.out.below h).cell
            have HB9 := Lib.hid (Below.refl w2.heap.size w2)
            have HS9 : Hid (∀ W, Below w2.heap.size w2 W → (W.cell? ⟨b, off + k, none⟩ = some (.string (ln zs k)) ∧ W.cell? ⟨b, off + (k + 1), none⟩ = some (.string (ln zs (k + 1))) ∧ Below w2.heap.size w2 W)) := Lib.hid fun W h =>
              ⟨((HBw.out.trans (h.mono HBw.out.size)).cell (p := ⟨b, off + k, none⟩) hb).trans (HCell.out k hlt), ((HBw.out.trans (h.mono HBw.out.size)).cell (p := ⟨b, off + (k + 1), none⟩) hb).trans HC2.out, h⟩
            clear b1 HHk HLw HC2 hc0
            have s9 := HS9.out _ HB9.out
            generalize headB (bytesL (ln zs k)) (bytesL (ln zs (k + 1))) = hd at *
            generalize ln zs (k + 1) = zk1 at *
            generalize ln zs k = zk at *
            obtain ⟨s90, s91, s92⟩ := s9
            go_wp2_with fail
            cases hd with
            | true =>
              have HQ := Lib.hid (HT.out fun _ => hsp2.out)
              clear HT hsp2 HE HTk Hno
              have hi1 : (0 : Int) ≤ (k : Int) + 1 := by omega
              have hi2 : (k : Int) + 1 < (zs.length : Int) := by omega
              have hi3 : ((k : Int) + 1).toNat = k + 1 := by omega
              have hw1 : IntKind.i64.wrap ((k : Int) + 1) = (k : Int) + 1 := IntWalk.i64_in _ (by omega)
              refine wp_region_held_drew (S := fun W' => W'.cell? ⟨b, off + k, none⟩ = some (.string zk) ∧ W'.cell? ⟨b, off + (k + 1), none⟩ = some (.string zk1) ∧ Below w2.heap.size w2 W') (by kernel_rfl) (HS9.out _ HB9.out.drew) (fun hHeld => ?_)
              refine wpAnyH_take (i := 0) (v := .int .i64 k) rfl (by kernel_rfl) (by kernel_rfl) (by kernel_rfl) (fun _ _ _ h => h) (Or.inl ⟨by kernel_rfl, fun W' hSw => ?_⟩) hHeld ?_
              · obtain ⟨h0, h1, h2⟩ := hSw
                go_simp
              try simp only [Act.put, List.setIfInBounds_toArray, List.set_cons_zero, List.set_cons_succ]
              refine wpAnyH_take (i := 1) (v := .int .i64 ((k : Int) + 1)) rfl (by kernel_rfl) (by kernel_rfl) (by kernel_rfl) (fun _ _ _ h => h) (Or.inl ⟨by kernel_rfl, fun W' hSw => ?_⟩) hHeld ?_
              · obtain ⟨h0, h1, h2⟩ := hSw
                go_simp
              try simp only [Act.put, List.setIfInBounds_toArray, List.set_cons_zero, List.set_cons_succ]
              refine wpAnyH_take (i := 2) (v := .slice (some ⟨b, off, none⟩) zs.length c) rfl (by kernel_rfl) (by kernel_rfl) (by kernel_rfl) (fun _ _ _ h => h) (Or.inl ⟨by kernel_rfl, fun W' hSw => ?_⟩) hHeld ?_
              · obtain ⟨h0, h1, h2⟩ := hSw
                go_simp
              try simp only [Act.put, List.setIfInBounds_toArray, List.set_cons_zero, List.set_cons_succ]
              refine wpAnyH_take (i := 3) (v := .int .i64 zs.length) rfl (by kernel_rfl) (by kernel_rfl) (by kernel_rfl) (fun _ _ _ h => h) (Or.inl ⟨by kernel_rfl, fun W' hSw => ?_⟩) hHeld ?_
              · obtain ⟨h0, h1, h2⟩ := hSw
                go_simp
              try simp only [Act.put, List.setIfInBounds_toArray, List.set_cons_zero, List.set_cons_succ]
              refine wpAnyH_take (i := 4) (v := .bool true) rfl (by kernel_rfl) (by kernel_rfl) (by kernel_rfl) (fun _ _ _ h => h) (Or.inl ⟨by kernel_rfl, fun W' hSw => ?_⟩) hHeld ?_
              · obtain ⟨h0, h1, h2⟩ := hSw
                go_simp
              try simp only [Act.put, List.setIfInBounds_toArray, List.set_cons_zero, List.set_cons_succ]
              refine wpAnyH_take (i := 5) (v := .bool true) rfl (by kernel_rfl) (by kernel_rfl) (by kernel_rfl) (fun _ _ _ h => h) (Or.inl ⟨by kernel_rfl, fun W' hSw => ?_⟩) hHeld ?_
              · obtain ⟨h0, h1, h2⟩ := hSw
                go_simp
              try simp only [Act.put, List.setIfInBounds_toArray, List.set_cons_zero, List.set_cons_succ]
              refine wpAnyH_take (i := 6) (v := .slice (some ⟨b, off, none⟩) zs.length c) rfl (by kernel_rfl) (by kernel_rfl) (by kernel_rfl) (fun _ _ _ h => h) (Or.inl ⟨by kernel_rfl, fun W' hSw => ?_⟩) hHeld ?_
              · obtain ⟨h0, h1, h2⟩ := hSw
                go_simp
              try simp only [Act.put, List.setIfInBounds_toArray, List.set_cons_zero, List.set_cons_succ]
              refine wpAnyH_take (i := 7) (v := .int .i64 k) rfl (by kernel_rfl) (by kernel_rfl) (by kernel_rfl) (fun _ _ _ h => h) (Or.inl ⟨by kernel_rfl, fun W' hSw => ?_⟩) hHeld ?_
              · obtain ⟨h0, h1, h2⟩ := hSw
                go_simp
              try simp only [Act.put, List.setIfInBounds_toArray, List.set_cons_zero, List.set_cons_succ]
              refine wpAnyH_take (i := 8) (v := .pointer (some ⟨b, off + k, none⟩)) rfl (by kernel_rfl) (by kernel_rfl) (by kernel_rfl) (fun _ _ _ h => h) (Or.inl ⟨by kernel_rfl, fun W' hSw => ?_⟩) hHeld ?_
              · obtain ⟨h0, h1, h2⟩ := hSw
                go_simp
              try simp only [Act.put, List.setIfInBounds_toArray, List.set_cons_zero, List.set_cons_succ]
              refine wpAnyH_take (i := 9) (v := .string zk) rfl (by kernel_rfl) (by kernel_rfl) (by kernel_rfl) (fun _ _ _ h => h) (Or.inl ⟨by kernel_rfl, fun W' hSw => ?_⟩) hHeld ?_
              · obtain ⟨h0, h1, h2⟩ := hSw
                go_simp
              try simp only [Act.put, List.setIfInBounds_toArray, List.set_cons_zero, List.set_cons_succ]
              refine wpAnyH_take (i := 10) (v := .slice (some ⟨b, off, none⟩) zs.length c) rfl (by kernel_rfl) (by kernel_rfl) (by kernel_rfl) (fun _ _ _ h => h) (Or.inl ⟨by kernel_rfl, fun W' hSw => ?_⟩) hHeld ?_
              · obtain ⟨h0, h1, h2⟩ := hSw
                go_simp
              try simp only [Act.put, List.setIfInBounds_toArray, List.set_cons_zero, List.set_cons_succ]
              refine wpAnyH_take (i := 11) (v := .int .i64 k) rfl (by kernel_rfl) (by kernel_rfl) (by kernel_rfl) (fun _ _ _ h => h) (Or.inl ⟨by kernel_rfl, fun W' hSw => ?_⟩) hHeld ?_
              · obtain ⟨h0, h1, h2⟩ := hSw
                go_simp
              try simp only [Act.put, List.setIfInBounds_toArray, List.set_cons_zero, List.set_cons_succ]
              refine wpAnyH_take (i := 12) (v := .int .i64 ((k : Int) + 1)) rfl (by kernel_rfl) (by kernel_rfl) (by kernel_rfl) (fun _ _ _ h => h) (Or.inl ⟨by kernel_rfl, fun W' hSw => ?_⟩) hHeld ?_
              · obtain ⟨h0, h1, h2⟩ := hSw
                go_simp
              try simp only [Act.put, List.setIfInBounds_toArray, List.set_cons_zero, List.set_cons_succ]
              refine wpAnyH_take (i := 13) (v := .pointer (some ⟨b, off + (k + 1), none⟩)) rfl (by kernel_rfl) (by kernel_rfl) (by kernel_rfl) (fun _ _ _ h => h) (Or.inl ⟨by kernel_rfl, fun W' hSw => ?_⟩) hHeld ?_
              · obtain ⟨h0, h1, h2⟩ := hSw
                go_simp
              try simp only [Act.put, List.setIfInBounds_toArray, List.set_cons_zero, List.set_cons_succ]
              refine wpAnyH_take (i := 14) (v := .string zk1) rfl (by kernel_rfl) (by kernel_rfl) (by kernel_rfl) (fun _ _ _ h => h) (Or.inl ⟨by kernel_rfl, fun W' hSw => ?_⟩) hHeld ?_
              · obtain ⟨h0, h1, h2⟩ := hSw
                go_simp
              try simp only [Act.put, List.setIfInBounds_toArray, List.set_cons_zero, List.set_cons_succ]
              refine wpAnyH_ready (rs := [15]) (by kernel_rfl) (by simp) (AllReadyH.cons rfl (fun K hK => ?_) AllReadyH.nil)
              go_simp
              ((with_reducible refine (HH2.out _ HB9.out.drew).mono ?_))
              rintro e W9 ⟨rfl, b8⟩
              have b9 : Below w2.heap.size w2 W9 := HB9.out.drew.trans b8
              go_simp
              refine hK.out _ _ (HS9.out _ b9) (fun hHeld => ?_)
              clear hK K
              try simp only [Act.put, List.setIfInBounds_toArray, List.set_cons_zero, List.set_cons_succ]
              refine wpAnyH_ready (rs := [16]) (by kernel_rfl) (by simp) (AllReadyH.cons rfl (fun K hK => ?_) AllReadyH.nil)
              go_simp
              refine hK.out _ _ (hHeld) (fun _ => ?_)
              clear hK K
              try simp only [Act.put, List.setIfInBounds_toArray, List.set_cons_zero, List.set_cons_succ]
              refine wpAnyH_done (by kernel_rfl) ?_ _
              all_goals
                go_wp2_with fail
                go_meet
                rw [HQ.out]
                exact ⟨rfl, own_below HOw.out b9, HZw.out.below (w := w) b9, HBw.out.trans (b9.mono HBw.out.size)⟩
            | false =>
              have HNx : Hid (∀ j, i + 1 ≤ j → j < k + 1 → stopP zs j = false) := Lib.hid fun j h1 h2 => by
                by_cases e : j = k
                · rw [e]; exact hsp2.out
                · exact Hno.out j h1 (by omega)
              clear HT hsp2 Hno
              have hi1 : (0 : Int) ≤ (k : Int) + 1 := by omega
              have hi2 : (k : Int) + 1 < (zs.length : Int) := by omega
              have hi3 : ((k : Int) + 1).toNat = k + 1 := by omega
              have hw1 : IntKind.i64.wrap ((k : Int) + 1) = (k : Int) + 1 := IntWalk.i64_in _ (by omega)
              refine wp_region_held_drew (S := fun W' => W'.cell? ⟨b, off + k, none⟩ = some (.string zk) ∧ W'.cell? ⟨b, off + (k + 1), none⟩ = some (.string zk1) ∧ Below w2.heap.size w2 W') (by kernel_rfl) (HS9.out _ HB9.out.drew) (fun hHeld => ?_)
              refine wpAnyH_take (i := 0) (v := .int .i64 k) rfl (by kernel_rfl) (by kernel_rfl) (by kernel_rfl) (fun _ _ _ h => h) (Or.inl ⟨by kernel_rfl, fun W' hSw => ?_⟩) hHeld ?_
              · obtain ⟨h0, h1, h2⟩ := hSw
                go_simp
              try simp only [Act.put, List.setIfInBounds_toArray, List.set_cons_zero, List.set_cons_succ]
              refine wpAnyH_take (i := 1) (v := .int .i64 ((k : Int) + 1)) rfl (by kernel_rfl) (by kernel_rfl) (by kernel_rfl) (fun _ _ _ h => h) (Or.inl ⟨by kernel_rfl, fun W' hSw => ?_⟩) hHeld ?_
              · obtain ⟨h0, h1, h2⟩ := hSw
                go_simp
              try simp only [Act.put, List.setIfInBounds_toArray, List.set_cons_zero, List.set_cons_succ]
              refine wpAnyH_take (i := 2) (v := .slice (some ⟨b, off, none⟩) zs.length c) rfl (by kernel_rfl) (by kernel_rfl) (by kernel_rfl) (fun _ _ _ h => h) (Or.inl ⟨by kernel_rfl, fun W' hSw => ?_⟩) hHeld ?_
              · obtain ⟨h0, h1, h2⟩ := hSw
                go_simp
              try simp only [Act.put, List.setIfInBounds_toArray, List.set_cons_zero, List.set_cons_succ]
              refine wpAnyH_take (i := 3) (v := .int .i64 zs.length) rfl (by kernel_rfl) (by kernel_rfl) (by kernel_rfl) (fun _ _ _ h => h) (Or.inl ⟨by kernel_rfl, fun W' hSw => ?_⟩) hHeld ?_
              · obtain ⟨h0, h1, h2⟩ := hSw
                go_simp
              try simp only [Act.put, List.setIfInBounds_toArray, List.set_cons_zero, List.set_cons_succ]
              refine wpAnyH_take (i := 4) (v := .bool true) rfl (by kernel_rfl) (by kernel_rfl) (by kernel_rfl) (fun _ _ _ h => h) (Or.inl ⟨by kernel_rfl, fun W' hSw => ?_⟩) hHeld ?_
              · obtain ⟨h0, h1, h2⟩ := hSw
                go_simp
              try simp only [Act.put, List.setIfInBounds_toArray, List.set_cons_zero, List.set_cons_succ]
              refine wpAnyH_take (i := 5) (v := .bool true) rfl (by kernel_rfl) (by kernel_rfl) (by kernel_rfl) (fun _ _ _ h => h) (Or.inl ⟨by kernel_rfl, fun W' hSw => ?_⟩) hHeld ?_
              · obtain ⟨h0, h1, h2⟩ := hSw
                go_simp
              try simp only [Act.put, List.setIfInBounds_toArray, List.set_cons_zero, List.set_cons_succ]
              refine wpAnyH_take (i := 6) (v := .slice (some ⟨b, off, none⟩) zs.length c) rfl (by kernel_rfl) (by kernel_rfl) (by kernel_rfl) (fun _ _ _ h => h) (Or.inl ⟨by kernel_rfl, fun W' hSw => ?_⟩) hHeld ?_
              · obtain ⟨h0, h1, h2⟩ := hSw
                go_simp
              try simp only [Act.put, List.setIfInBounds_toArray, List.set_cons_zero, List.set_cons_succ]
              refine wpAnyH_take (i := 7) (v := .int .i64 k) rfl (by kernel_rfl) (by kernel_rfl) (by kernel_rfl) (fun _ _ _ h => h) (Or.inl ⟨by kernel_rfl, fun W' hSw => ?_⟩) hHeld ?_
              · obtain ⟨h0, h1, h2⟩ := hSw
                go_simp
              try simp only [Act.put, List.setIfInBounds_toArray, List.set_cons_zero, List.set_cons_succ]
              refine wpAnyH_take (i := 8) (v := .pointer (some ⟨b, off + k, none⟩)) rfl (by kernel_rfl) (by kernel_rfl) (by kernel_rfl) (fun _ _ _ h => h) (Or.inl ⟨by kernel_rfl, fun W' hSw => ?_⟩) hHeld ?_
              · obtain ⟨h0, h1, h2⟩ := hSw
                go_simp
              try simp only [Act.put, List.setIfInBounds_toArray, List.set_cons_zero, List.set_cons_succ]
              refine wpAnyH_take (i := 9) (v := .string zk) rfl (by kernel_rfl) (by kernel_rfl) (by kernel_rfl) (fun _ _ _ h => h) (Or.inl ⟨by kernel_rfl, fun W' hSw => ?_⟩) hHeld ?_
              · obtain ⟨h0, h1, h2⟩ := hSw
                go_simp
              try simp only [Act.put, List.setIfInBounds_toArray, List.set_cons_zero, List.set_cons_succ]
              refine wpAnyH_take (i := 10) (v := .slice (some ⟨b, off, none⟩) zs.length c) rfl (by kernel_rfl) (by kernel_rfl) (by kernel_rfl) (fun _ _ _ h => h) (Or.inl ⟨by kernel_rfl, fun W' hSw => ?_⟩) hHeld ?_
              · obtain ⟨h0, h1, h2⟩ := hSw
                go_simp
              try simp only [Act.put, List.setIfInBounds_toArray, List.set_cons_zero, List.set_cons_succ]
              refine wpAnyH_take (i := 11) (v := .int .i64 k) rfl (by kernel_rfl) (by kernel_rfl) (by kernel_rfl) (fun _ _ _ h => h) (Or.inl ⟨by kernel_rfl, fun W' hSw => ?_⟩) hHeld ?_
              · obtain ⟨h0, h1, h2⟩ := hSw
                go_simp
              try simp only [Act.put, List.setIfInBounds_toArray, List.set_cons_zero, List.set_cons_succ]
              refine wpAnyH_take (i := 12) (v := .int .i64 ((k : Int) + 1)) rfl (by kernel_rfl) (by kernel_rfl) (by kernel_rfl) (fun _ _ _ h => h) (Or.inl ⟨by kernel_rfl, fun W' hSw => ?_⟩) hHeld ?_
              · obtain ⟨h0, h1, h2⟩ := hSw
                go_simp
              try simp only [Act.put, List.setIfInBounds_toArray, List.set_cons_zero, List.set_cons_succ]
              refine wpAnyH_take (i := 13) (v := .pointer (some ⟨b, off + (k + 1), none⟩)) rfl (by kernel_rfl) (by kernel_rfl) (by kernel_rfl) (fun _ _ _ h => h) (Or.inl ⟨by kernel_rfl, fun W' hSw => ?_⟩) hHeld ?_
              · obtain ⟨h0, h1, h2⟩ := hSw
                go_simp
              try simp only [Act.put, List.setIfInBounds_toArray, List.set_cons_zero, List.set_cons_succ]
              refine wpAnyH_take (i := 14) (v := .string zk1) rfl (by kernel_rfl) (by kernel_rfl) (by kernel_rfl) (fun _ _ _ h => h) (Or.inl ⟨by kernel_rfl, fun W' hSw => ?_⟩) hHeld ?_
              · obtain ⟨h0, h1, h2⟩ := hSw
                go_simp
              try simp only [Act.put, List.setIfInBounds_toArray, List.set_cons_zero, List.set_cons_succ]
              refine wpAnyH_ready (rs := [15]) (by kernel_rfl) (by simp) (AllReadyH.cons rfl (fun K hK => ?_) AllReadyH.nil)
              go_simp
              ((with_reducible refine (HH2.out _ HB9.out.drew).mono ?_))
              rintro e W9 ⟨rfl, b8⟩
              have b9 : Below w2.heap.size w2 W9 := HB9.out.drew.trans b8
              go_simp
              refine hK.out _ _ (HS9.out _ b9) (fun hHeld => ?_)
              clear hK K
              try simp only [Act.put, List.setIfInBounds_toArray, List.set_cons_zero, List.set_cons_succ]
              refine wpAnyH_ready (rs := [16]) (by kernel_rfl) (by simp) (AllReadyH.cons rfl (fun K hK => ?_) AllReadyH.nil)
              go_simp
              refine hK.out _ _ (hHeld) (fun _ => ?_)
              clear hK K
              try simp only [Act.put, List.setIfInBounds_toArray, List.set_cons_zero, List.set_cons_succ]
              refine wpAnyH_done (by kernel_rfl) ?_ _
              all_goals
                replace HOw := Lib.hid (own_below HOw.out b9)
                replace HZw := Lib.hid (HZw.out.below (w := w) b9)
                replace HBw := Lib.hid (HBw.out.trans (b9.mono HBw.out.size))
                obtain ⟨t90, t91, t92⟩ := HS9.out _ b9
                clear s90 s91 s92 t91 t92 HS9 HB9 HH2
                go_wp2_with fail
                ((with_reducible refine (HTk.out _).mono ?_))
                rintro e w5 ⟨rfl, rfl⟩
                go_wp2_with (at_builtin; refine wpList_append_own _ rfl _ _ 22 rfl (w.heap.size + 1) 9 i0 _ 1 16 Tryz.underlying22 hi0 hz0 hz1 hz2 rfl (by decide) _ _ _ rfl (HOw.out.alloc _) ⟨W9.heap.size, 0, none⟩ 1 1 [.string yk] rfl rfl ?c1 ?c2 ?c3 ?c4 ?c5 ?_)
                case c1 =>
                  intro j u hj
                  match j, hj with
                  | 0, hj => simp at hj; subst hj; simp [Addr.add]
                case c2 => intro u hu; simp at hu; subst hu; rfl
                case c3 => unfold maxLen; omega
                case c4 => omega
                case c5 => have := HBw.out.size; have := HZw.out.lt; simp; omega
                intro v' w6 hown3 hgrow _
                have HZ6 : Hid (ZB w6 w.heap.size) := Lib.hid (Blk.grown (Blk.alloc HZw.out _) hgrow (fun e => by have := (HOw.out.lt _ e.symm).1; omega))
                have HB6 : Hid (Below w.heap.size w w6) := Lib.hid ((HBw.out.alloc HBw.out.size _).grown hgrow (by simp; exact Nat.le_succ_of_le HBw.out.size) (fun g hg => by have := (HOw.out.lt g hg).1; omega))
                clear hgrow
                go_wp2_with fail
                go_roundw
                case rel => exact ⟨k + 1, by go_num, by omega, by omega, by rw [show k + 1 - i = k - i + 1 by omega, HE.out]; exact hown3, HZ6.out, HB6.out, HNx⟩
                case measure => simp [intOf]; omega
          · have d1 : decide ((k : Int) + 1 < (zs.length : Int)) = false := decide_eq_false (by omega)
            have d2 : decide (k + 1 < zs.length) = false := decide_eq_false hk2
            have HNx : Hid (∀ j, i + 1 ≤ j → j < k + 1 → stopP zs j = false) := Lib.hid fun j h1 h2 => by
              by_cases e : j = k
              · rw [e, hsp.out, hkk.out, decide_eq_true h0, hhd.out, d2]; rfl
              · exact Hno.out j h1 (by omega)
            clear hsp hhd hkk h0 HF HT Hno HHk
            go_wp2_with fail
            ((with_reducible refine (HM1.out _).mono ?_))
            rintro e w2 ⟨A1, c1, A2, c2, rfl, b1⟩
            have hz1' := b1.size
            have HOw := Lib.hid (own_below HOr.out b1)
            have HZw := Lib.hid (HZr.out.below (w := w) b1)
            have HBw := Lib.hid (hbw.trans (b1.mono hzr))
            have hc3 : w2.cell? ⟨b, off + k, none⟩ = some (.string (ln zs k)) := (HBw.out.cell (p := ⟨b, off + k, none⟩) hb).trans (HCell.out k hlt)
            clear b1 hc0
            generalize ln zs k = zk at *
            go_wp2_with fail
            go_quiet (fail)
            replace HOw := Lib.hid (own_drewN HOw.out nq)
            replace HZw : Hid (ZB (w2.drewN nq) w.heap.size) := Lib.hid HZw.out
            replace HBw := Lib.hid (below_drewN HBw.out nq)
            replace hc3 : (w2.drewN nq).cell? ⟨b, off + k, none⟩ = some (.string zk) := hc3
            generalize w2.drewN nq = W5 at *
            go_wp2_with fail
            ((with_reducible refine (HTk.out _).mono ?_))
            rintro e w5 ⟨rfl, rfl⟩
            go_wp2_with (at_builtin; refine wpList_append_own _ rfl _ _ 22 rfl (w.heap.size + 1) 9 i0 _ 1 16 Tryz.underlying22 hi0 hz0 hz1 hz2 rfl (by decide) _ _ _ rfl (HOw.out.alloc _) ⟨W5.heap.size, 0, none⟩ 1 1 [.string yk] rfl rfl ?c1 ?c2 ?c3 ?c4 ?c5 ?_)
            case c1 =>
              intro j u hj
              match j, hj with
              | 0, hj => simp at hj; subst hj; simp [Addr.add]
            case c2 => intro u hu; simp at hu; subst hu; rfl
            case c3 => unfold maxLen; omega
            case c4 => omega
            case c5 => have := HBw.out.size; have := HZw.out.lt; simp; omega
            intro v' w6 hown3 hgrow _
            have HZ6 : Hid (ZB w6 w.heap.size) := Lib.hid (Blk.grown (Blk.alloc HZw.out _) hgrow (fun e => by have := (HOw.out.lt _ e.symm).1; omega))
            have HB6 : Hid (Below w.heap.size w w6) := Lib.hid ((HBw.out.alloc HBw.out.size _).grown hgrow (by simp; exact Nat.le_succ_of_le HBw.out.size) (fun g hg => by have := (HOw.out.lt g hg).1; omega))
            clear hgrow
            go_wp2_with fail
            go_roundw
            case rel => exact ⟨k + 1, by go_num, by omega, by omega, by rw [show k + 1 - i = k - i + 1 by omega, HE.out]; exact hown3, HZ6.out, HB6.out, HNx⟩
            case measure => simp [intOf]; omega
        · have z1 : (((m.kind : Nat) : Int) == 0) = false := by rw [beq_eq_false_iff_ne]; omega
          have z2 : ((m.kind : Nat) == 0) = false := by rw [beq_eq_false_iff_ne]; exact h0
          have HQ := Lib.hid (HT.out fun _ => by rw [hsp.out, hkk.out, decide_eq_false h0]; rfl)
          clear h0 hkk HT hsp hhd HE HTk HHk Hno
          have hfd := HF.out
          go_wp2_with fail
          ((with_reducible refine (HM1.out _).mono ?_))
          rintro e w2 ⟨A1, c1, A2, c2, rfl, b1⟩
          have hz1' := b1.size
          go_wp2_with fail
          go_meet
          rw [HQ.out]
          exact ⟨rfl, own_below HOr.out b1, HZr.out.below (w := w) b1, hbw.trans (b1.mono hzr)⟩
      · have HQ := Lib.hid (HT.out fun h => absurd h hlt)
        clear HM hZ HT Hno hown HTr HHd HSt HPs
        go_wp2_with fail
        go_meet
        rw [HQ.out]
        exact ⟨rfl, HOr.out, HZr.out, hbw⟩
  case rest =>
  obtain ⟨rfl, hown, hZ, hbw⟩ := hcut
  have hzr := hbw.size
  have hzl := Blk.lt hZ
  have HZr := Lib.hid hZ
  obtain ⟨A9, c9, rfl, hc1, hc2⟩ := own_cap hown
  have HJ := Lib.hid (join_any (paraK zs i (paraTo zs i)) A9 c9 wc.heap.size ⟨#[10]⟩ wc (by rw [HPl.out]; exact Reads.of_own hown) (Nat.le_refl _) (by rw [HPl.out]; exact hc1) (by rw [HPl.out]; omega) (Nat.le_trans (sizes_bd 100000 _ HSz.out) (by rw [HPl.out]; exact Nat.le_trans (Nat.mul_le_mul_right _ (by omega : paraTo zs i - i ≤ 10000)) (by decide))) (by decide) (by decide))
  rw [HPl.out] at HJ
  have HPB : Hid (paraB zs i = leafB 1 (mk (joinL ⟨#[10]⟩ (paraK zs i (paraTo zs i))))) := Lib.hid rfl
  have HSr := Lib.hid fun W => n_source (mk (joinL ⟨#[10]⟩ (paraK zs i (paraTo zs i)))) W
  clear hown hZ HZ0 HB0 HP1 HPs HSt HF HM HTr HHd HSz HPl
  generalize mk (joinL ⟨#[10]⟩ (paraK zs i (paraTo zs i))) = X at *
  go_wp2_with fail
  ((with_reducible refine (HJ.out).mono ?_))
  rintro e w2 ⟨rfl, b2⟩
  have HZ2 := Lib.hid (HZr.out.below (w := w) b2)
  have HB2 := Lib.hid (hbw.trans (b2.mono hzr))
  have hz2' := b2.size
  clear b2 HJ
  go_wp2_with fail
  ((with_reducible refine (HSr.out _).mono ?_))
  rintro e w3 ⟨v, rfl, hsrc, b3⟩
  obtain ⟨Av, nv, cv, rfl⟩ := srcV_form hsrc
  have HZ3 := Lib.hid (HZ2.out.below (w := w) b3)
  have HB3 := Lib.hid (HB2.out.trans (b3.mono HB2.out.size))
  have HSV := Lib.hid hsrc
  obtain ⟨k0, k1, k2, k3, k4, k5, k6, k7, k8, k9, k10, x0, x1, x2, x3, x4, x5, x6, x7, x8, x9, x10⟩ := ZB.facts HZ3.out
  clear hsrc b3 HSr
  go_wp2_with fail
  refine paraAt_ret (blk11 HZ3.out _ _ _ _ _ _ _ _ _ _ _) rfl rfl rfl ⟨⟨_, rfl, ?_⟩, below11 HB3.out (Nat.le_refl _) _ _ _ _ _ _ _ _ _ _ _⟩
  rw [HPB.out]
  exact repB_leaf (srcV_far HSV.out (grown11 _ _ _ _ _ _ _ _ _ _ _ _ _) (by omega) (by omega))

end Go.Proofs.YtpoafhgbhnblmaaGreatDoor
namespace Go.Proofs.YtpoafhgbhnblmaaGreatDoor
open Go.RowKit Go.Pub
set_option maxRecDepth 100000 in
set_option maxHeartbeats 2000000 in
theorem t_fit2 (zs : List ByteArray) (A : Option Addr) (c B : Nat) (col : Int) (w : World) (hr : Reads w B 1 A zs.length (strs zs)) (hB : B ≤ w.heap.size) (h1 : -9223372036854775808 ≤ col) (h2 : col ≤ 9223372036854775807) (hl : zs.length ≤ 10000000) :
    Calls Tryz.prog 174 #[.slice A zs.length c, .int .i64 col] w fun e W' => ∃ v, e = .returned v ∧ W'.ownsRow w.heap.size 9 1 v (colN col) (strs (fitL zs (colN col))) ∧ Below w.heap.size w W' := by
  obtain ⟨i0, hi, hi0, hi1, hi2⟩ := info_parts strInfo
  have hn : colN col ≤ 32 := by unfold colN; omega
  have HMx : ∀ w : World, (Builtin.max_ #[3, 3] 3 #[.int .i64 col, .int .i64 0]).run Tryz.prog w = .ok (.int .i64 (col.toNat : Nat)) w := fun w => by
    rw [run_max_int2]
    congr 2
    split <;> omega
  have HMn : ∀ w : World, (Builtin.min_ #[3, 3] 3 #[.int .i64 (col.toNat : Nat), .int .i64 32]).run Tryz.prog w = .ok (.int .i64 (colN col : Nat)) w := fun w => by
    rw [run_min_int2]
    congr 2
    unfold colN
    split <;> omega
  have hmk : ∀ W : World, (Instr.makeSlice 22 (.int .i64 (colN col : Nat)) (.int .i64 (colN col : Nat))).run Tryz.prog W = .ok (.slice (some ⟨W.heap.size, 0, none⟩) (colN col) (colN col)) (W.alloc (.cells (List.replicate (colN col) (Value.string ⟨#[]⟩)).toArray 9)) := fun W => by
    have h := run_make (P := Tryz.prog) W 22 9 i0 (.string ⟨#[]⟩) Tryz.underlying22 hi hi0 .i64 .i64 (colN col : Nat) (colN col : Nat) (by omega) (by omega) (by rw [hi2]; omega) (by omega)
    rw [Int.toNat_natCast, hi1, Nat.mul_one] at h
    rw [h]
    have : (Value.string ⟨#[]⟩).cells = #[Value.string ⟨#[]⟩] := rfl
    rw [this, made_rep]
  have hcs : ∀ u ∈ strs (zs.take (colN col)), u.oneCell' = true := by
    intro u hu
    unfold strs at hu
    obtain ⟨z, _, rfl⟩ := List.mem_map.1 hu
    rfl
  have HSP := Lib.hid (splice_fit zs (colN col))
  have hfl := fitL_len zs (colN col)
  have HRd := Lib.hid hr
  clear hr
  generalize colN col = n at *
  generalize (col.toNat : Nat) = cc at *
  have HCS := Lib.hid hcs
  clear hcs
  have HG0 : Hid ((w.alloc (.cells (Array.replicate n (Value.string ⟨#[]⟩)) 9)).heap[w.heap.size]? = some (.cells (List.replicate n (Value.string ⟨#[]⟩)).toArray 9 (0, 0))) := Lib.hid (by
    rw [List.toArray_replicate]; exact heap_alloc_new w _)
  have hsz : (Tryz.prog.info? 9).map (·.size) = some 1 := by rw [hi]; simp [hi1]
  obtain ⟨r, w2, hcp, HG, hbw⟩ : ∃ r w2, (Builtin.copy_ #[22, 22] 3 #[.slice (some ⟨w.heap.size, 0, none⟩) n n, .slice A zs.length c]).run Tryz.prog (w.alloc (.cells (Array.replicate n (Value.string ⟨#[]⟩)) 9)) = .ok r w2 ∧
      Hid (w2.heap[w.heap.size]? = some (.cells (strs (fitL zs n)).toArray 9 (0, 0))) ∧ Below w.heap.size w w2 := by
    by_cases h0 : Nat.min zs.length n = 0
    · refine ⟨_, _, run_copy_none (P := Tryz.prog) _ 22 22 3 9 _ _ _ _ _ _ Tryz.underlying22 hsz h0, ?_, (Below.refl _ _).alloc (Nat.le_refl _) _⟩
      refine Lib.hid (HG0.out.trans ?_)
      have e : strs (zs.take n) = [] := by
        have : (strs (zs.take n)).length = 0 := by rw [strs_len, List.length_take, Nat.min_comm]; exact h0
        exact List.length_eq_zero_iff.1 this
      have h2 := HSP.out
      rw [e] at h2
      rw [← h2]
      simp [splice]
    · have hpos : 0 < zs.length := by
        rcases Nat.eq_zero_or_pos zs.length with h | h
        · rw [h] at h0; exact absurd (Nat.zero_min _) h0
        · exact h
      obtain ⟨b, off, rfl, hbB, hcell⟩ := reads_get HRd.out hpos
      have hrun := run_copy_row (P := Tryz.prog) (w.alloc (.cells (Array.replicate n (Value.string ⟨#[]⟩)) 9)) 22 22 3 9 w.heap.size 0 n n ⟨b, off, none⟩ zs.length c (List.replicate n (Value.string ⟨#[]⟩)).toArray 9 (strs (zs.take n)) Tryz.underlying22 hsz HG0.out (by rw [strs_len, List.length_take]; exact Nat.min_comm _ _) (fun j v hj => by
        have hj' : j < (zs.take n).length := by
          rw [← strs_len]
          exact (List.getElem?_eq_some_iff.1 hj).1
        rw [strs_at _ j hj'] at hj
        cases hj
        rw [List.length_take] at hj'
        rw [List.getElem_take]
        have := hcell j (by omega)
        rw [World.cell?_alloc_lt w _ _ (by rw [block_of_add]; show b < _; omega)]
        unfold Addr.add
        by_cases h0 : j = 0
        · subst h0; simpa using this
        · simpa [h0] using this) (by simp [strs_len]; omega) HCS.out
      refine ⟨_, _, hrun, Lib.hid ?_, below_setRow ((Below.refl _ _).alloc (Nat.le_refl _) _) (Nat.le_refl _) _⟩
      rw [setRow_heap _ _ _ _ _ _ HG0.out, ← HSP.out]
      simp [splice]
  go_enter Tryz.func174, Tryz.ntmps174
  go_wp2_with fail
  go_ret
  refine ⟨_, rfl, ⟨by rw [strs_len, hfl]; omega, .inr ⟨w.heap.size, n, (strs (fitL zs n)).toArray, rfl, Nat.le_refl _, HG.out, Nat.le_refl _, by unfold maxLen; omega, by simp [strs_len, hfl], by rw [Nat.mul_one]; exact List.take_of_length_le (by show (strs (fitL zs n)).length ≤ n; rw [strs_len, hfl]; omega)⟩⟩, hbw⟩

end Go.Proofs.YtpoafhgbhnblmaaGreatDoor
