/-
  Texts of the proof, put together: RmM, RmMB, RmN.
-/
import Derived.Test.YthfienjmigidbaaGreatDoorB39
import Derived.Test.YthfienjmigidbaaGreatDoorB33
import Derived.Great.BuildSlice
set_option linter.unusedVariables false
set_option linter.unusedSimpArgs false
namespace Go.Proofs.YthfienjmigidbaaGreatDoor
open Go.RowKit Go.Pub

theorem def_line (s : ByteArray) (h3 : indA s 0 ≤ 3) : defMk (defI s) = defM (ext s (indA s 0)) := by
  have hil := indA_le s
  have hr : defR s = (brackR (ext s (indA s 0)) 0).bind fun b => if b.2 < (ext s (indA s 0)).size ∧ bt (ext s (indA s 0)) b.2 = 58 then defB b.1 (triB ((ext s (indA s 0)).extract (b.2 + 1) (ext s (indA s 0)).size)) else none := by
    unfold defR
    rw [triB_at, if_neg (by rw [ext_size]; omega)]
  rw [defI_eq, hr, ← defM_eq]
/-- The nine readers of a line's core. -/
def nine (c : ByteArray) (ind : Nat) : List (Option MkL) := [headM c, ruleM c, quoteM c ind, itemM c ind, fenceM c ind, mathM c, divM c, noteM c, defM c]
theorem item_kind {c : ByteArray} {ind : Nat} {m : MkL} (h : itemM c ind = some m) : m.kind ≠ 0 := by
  unfold itemM itemT at h
  split at h
  · injection h with h
    subst h
    show (if _ then 5 else 6) ≠ 0
    split <;> decide
  · cases h
theorem nine_kind {c : ByteArray} {ind : Nat} {m : MkL} (h : some m ∈ nine c ind) : m.kind ≠ 0 := by
  unfold nine at h
  simp only [List.mem_cons, List.not_mem_nil, or_false] at h
  rcases h with h | h | h | h | h | h | h | h | h
  · have := head_kind h.symm; omega
  · have := rule_kind h.symm; omega
  · obtain ⟨_, rfl⟩ := quote_some h.symm; exact (by decide : (4 : Nat) ≠ 0)
  · exact item_kind h.symm
  · have := fence_some h.symm; omega
  · have := math_kind h.symm; omega
  · have := div_kind h.symm; omega
  · obtain ⟨_, rfl⟩ := note_some h.symm; exact (by decide : (10 : Nat) ≠ 0)
  · have := def_kind h.symm; omega
theorem kind_zero {o : Option MkL} (h : ∀ m, o = some m → m.kind ≠ 0) : (o.getD {}).kind = 0 ↔ o = none := by
  cases o with
  | none => exact ⟨fun _ => rfl, fun _ => rfl⟩
  | some m => exact ⟨fun e => absurd e (h m rfl), fun e => by cases e⟩
end Go.Proofs.YthfienjmigidbaaGreatDoor
namespace Go.Proofs.YthfienjmigidbaaGreatDoor
open Go.RowKit Go.Pub

/-- A mark and its two slices. -/
structure MkR where
  m : MkL
  c : Value
  p : Value
def mks (l : List MkR) : List Value := l.flatMap fun r => (r.m.cells r.c r.p).toList
theorem mks_at (l : List MkR) (k : Nat) (h : k < l.length) (i : Nat) (hi : i < 11) : (mks l)[k * 11 + i]? = (l[k].m.cells l[k].c l[k].p)[i]? := by
  induction l generalizing k with
  | nil => exact absurd h (by simp)
  | cons r l ih =>
    have hl : (r.m.cells r.c r.p).toList.length = 11 := rfl
    unfold mks at ih ⊢
    rw [List.flatMap_cons]
    cases k with
    | zero =>
      rw [List.getElem?_append_left (by rw [hl]; omega)]
      rw [Nat.zero_mul, Nat.zero_add, Array.getElem?_toList]
      rfl
    | succ k =>
      rw [List.getElem?_append_right (by rw [hl]; omega), hl]
      have e : (k + 1) * 11 + i - 11 = k * 11 + i := by omega
      rw [e]
      exact ih k (by simpa using h)
/-- The first mark that is no text. -/
def pickL : List MkR → Option MkL
  | [] => none
  | r :: l => if r.m.kind = 0 then pickL l else some r.m
theorem pick_hit : ∀ (l : List MkR) (k : Nat) (h : k < l.length), l[k].m.kind ≠ 0 → (∀ j (hj : j < l.length), j < k → l[j].m.kind = 0) → pickL l = some l[k].m
  | [], k, h, _, _ => absurd h (by simp)
  | r :: l, 0, h, e, _ => by
    have e' : r.m.kind ≠ 0 := e
    unfold pickL
    rw [if_neg e']
    rfl
  | r :: l, k + 1, h, e, hno => by
    have h0 : r.m.kind = 0 := hno 0 (by simp) (by omega)
    unfold pickL
    rw [if_pos h0]
    exact pick_hit l k (by simpa using h) e fun j hj hjk => hno (j + 1) (by simpa using hj) (by omega)
theorem pick_none : ∀ (l : List MkR), (∀ j (hj : j < l.length), l[j].m.kind = 0) → pickL l = none
  | [], _ => rfl
  | r :: l, h => by
    have h0 : r.m.kind = 0 := h 0 (by simp)
    unfold pickL
    rw [if_pos h0]
    exact pick_none l fun j hj => h (j + 1) (by simpa using hj)
theorem first_pick : ∀ (os : List (Option MkL)) (l : List MkR), l.map (·.m) = os.map (·.getD {}) → (∀ m, some m ∈ os → m.kind ≠ 0) → firstS os = pickL l
  | [], [], _, _ => rfl
  | [], _ :: _, e, _ => by cases e
  | _ :: _, [], e, _ => by cases e
  | o :: os, r :: l, e, hk => by
    rw [List.map_cons, List.map_cons] at e
    injection e with e1 e2
    have ih := first_pick os l e2 fun m hm => hk m (List.mem_cons_of_mem _ hm)
    have hz := kind_zero (o := o) fun m hm => hk m (by rw [hm]; exact List.mem_cons_self ..)
    unfold pickL
    rw [e1]
    cases o with
    | none => exact ih.trans (if_pos rfl).symm
    | some m =>
      rw [if_neg (fun h => by cases hz.1 h)]
      rfl
end Go.Proofs.YthfienjmigidbaaGreatDoor
namespace Go.Proofs.YthfienjmigidbaaGreatDoor
open Go.RowKit Go.Pub

theorem typ_mark : ∃ ie z, Tryz.prog.info? 27 = some ie ∧ ie.zero = some z ∧ ie.size = 11 ∧ z.cells.size = 11 := by
  have h1 : (Tryz.prog.info? 27).map (·.size) = some 11 := by kernel_rfl
  have h2 : ((Tryz.prog.info? 27).bind (·.zero)).map (·.cells.size) = some 11 := by kernel_rfl
  cases h : Tryz.prog.info? 27 with
  | none => rw [h] at h1; cases h1
  | some ie =>
    rw [h] at h1 h2
    simp only [Option.map_some, Option.some.injEq, Option.bind_some] at h1 h2
    cases hz : ie.zero with
    | none => rw [hz] at h2; cases h2
    | some z => rw [hz] at h2; simp only [Option.map_some, Option.some.injEq] at h2; exact ⟨ie, z, rfl, hz, h1, h2⟩

set_option maxRecDepth 100000 in
set_option maxHeartbeats 8000000 in
theorem r5_of (s : ByteArray) (w : World) (hs : s.size ≤ 1000000) : Calls Tryz.prog 15 #[.string s] w (MkPost (markM s) w) := by
  have hil : indA s 0 ≤ s.size := indA_le s
  have HSp : Hid (∀ W, Calls Tryz.prog 30 #[.string s, .int .i64 0] W fun e w' => e = .returned (.int .i64 (indA s 0)) ∧ W = w') := Lib.hid fun W => r5_spaces s 0 W hs (Nat.zero_le _)
  have HR : Hid (markM s = if blankB s = true then { kind := 1 } else markC (s.extract (indA s 0) s.size) (indA s 0)) := Lib.hid rfl
  have hB : Hid (∀ x y z, Below w.heap.size w (w.alloc (.cells x y z))) := Lib.hid fun _ _ _ => (Below.refl _ w).alloc (Nat.le_refl _) _
  have hbl : Hid (blankB s = decide (indA s 0 = s.size)) := Lib.hid rfl
  have HDe := Lib.hid fun W => r5_def s W hs
  have hdl := Lib.hid (def_line s)
  generalize markM s = M at *
  generalize blankB s = b at *
  generalize indA s 0 = ind at *
  have hii : (ind : Int) ≤ (s.size : Int) := by omega
  have hcz : (s.extract ind s.size).size = s.size - ind := by rw [ByteArray.size_extract]; omega
  generalize hcc : s.extract ind s.size = c at *
  by_cases he : ind = s.size
  · have HF : Hid (M = { kind := 1 }) := Lib.hid (by rw [HR.out, hbl.out, decide_eq_true he]; rfl)
    obtain rfl : c = ⟨#[]⟩ := by
      have : c.size = 0 := by omega
      exact ByteArray.ext (Array.eq_empty_of_size_eq_zero this)
    clear HR hbl hdl HDe he
    go_enter Tryz.func15, Tryz.ntmps15
    go_wp2_with fail
    ((with_reducible refine (HSp.out _).mono ?_))
    rintro e w0 ⟨rfl, rfl⟩
    go_wp2_with fail
    exact rof_ret (Blk.new w _ _) rfl rfl ⟨⟨_, rfl, by rw [HF.out]; exact mkVal_plain (m := { kind := 1 }) rfl (hB.out _ _ _).size⟩, hB.out _ _ _⟩
  have y0 : (c.toList == []) = false := by
    have h : c ≠ ⟨#[]⟩ := by
      intro e
      rw [e] at hcz
      have : (0 : Nat) = s.size - ind := hcz
      omega
    rw [← show (⟨#[]⟩ : ByteArray).toList = [] by decide +kernel]
    exact (Lib.bytes_beq_false_iff _ _).2 h
  have hc0 : 0 < c.size := by omega
  have hcs : c.size ≤ 1000000 := by omega
  have HR2 : Hid (M = markC c ind) := Lib.hid (by rw [HR.out, hbl.out, decide_eq_false he, if_neg Bool.false_ne_true])
  clear HR hbl
  by_cases h4 : 4 ≤ ind
  · have HF : Hid (M = { rest := c }) := Lib.hid (by rw [HR2.out]; unfold markC; rw [if_pos (by omega)])
    have z1 : decide ((ind : Int) < 4) = false := decide_eq_false (by omega)
    have z2 : decide (ind < 4) = false := decide_eq_false (by omega)
    clear HR2 hdl HDe
    go_enter Tryz.func15, Tryz.ntmps15
    go_wp2_with fail
    ((with_reducible refine (HSp.out _).mono ?_))
    rintro e w0 ⟨rfl, rfl⟩
    go_wp2_with fail
    exact rof_ret (Blk.new w _ _) rfl rfl ⟨⟨_, rfl, by rw [HF.out]; exact mkVal_plain (m := { rest := c }) rfl (hB.out _ _ _).size⟩, hB.out _ _ _⟩
  have z1 : decide ((ind : Int) < 4) = true := decide_eq_true (by omega)
  have z2 : decide (ind < 4) = true := decide_eq_true (by omega)
  have HQ : Hid (M = (firstS (nine c ind)).getD { rest := c }) := Lib.hid (by rw [HR2.out]; unfold markC nine; rw [if_neg (by omega), first_nine c ind hc0])
  have HK : Hid (∀ m, some m ∈ nine c ind → m.kind ≠ 0) := Lib.hid fun m => nine_kind
  have H1 := Lib.hid fun W => r5_head c W hcs
  have H2 := Lib.hid fun W => r5_rule c W hcs hc0
  have H3 := Lib.hid fun W => r5_quote c ind W hcs hc0 (by omega)
  have H4 := Lib.hid fun W => r5_item c ind W hcs hc0 (by omega)
  have H5 := Lib.hid fun W => r5_fence c ind W hcs hc0 (by omega)
  have H6 := Lib.hid fun W => r5_math c W hcs
  have H7 := Lib.hid fun W => r5_div c W hcs
  have H8 := Lib.hid fun W => r5_note c W hcs
  have H9 : Hid (∀ W, Calls Tryz.prog 19 #[.string s] W (MkPost ((defM c).getD {}) W)) := Lib.hid (by
    have e : defMk (defI s) = defM c := by rw [hdl.out (by omega), ← hcc, ext_eq]
    rw [← e]; exact HDe.out)
  clear HR2 hdl HDe
  have HP : Hid (∀ a1 a2 a3 a4 a5 a6 a7 a8 a9 b1 b2 b3 b4 b5 b6 b7 b8 b9, firstS (nine c ind) = pickL [⟨(headM c).getD {}, a1, b1⟩, ⟨(ruleM c).getD {}, a2, b2⟩, ⟨(quoteM c ind).getD {}, a3, b3⟩, ⟨(itemM c ind).getD {}, a4, b4⟩, ⟨(fenceM c ind).getD {}, a5, b5⟩, ⟨(mathM c).getD {}, a6, b6⟩, ⟨(divM c).getD {}, a7, b7⟩, ⟨(noteM c).getD {}, a8, b8⟩, ⟨(defM c).getD {}, a9, b9⟩]) := Lib.hid fun a1 a2 a3 a4 a5 a6 a7 a8 a9 b1 b2 b3 b4 b5 b6 b7 b8 b9 => first_pick _ _ rfl HK.out
  clear HK
  generalize firstS (nine c ind) = N at *
  generalize (headM c).getD {} = m1 at *
  generalize (ruleM c).getD {} = m2 at *
  generalize (quoteM c ind).getD {} = m3 at *
  generalize (itemM c ind).getD {} = m4 at *
  generalize (fenceM c ind).getD {} = m5 at *
  generalize (mathM c).getD {} = m6 at *
  generalize (divM c).getD {} = m7 at *
  generalize (noteM c).getD {} = m8 at *
  generalize (defM c).getD {} = m9 at *
  go_enter Tryz.func15, Tryz.ntmps15
  go_wp2_with fail
  ((with_reducible refine (HSp.out _).mono ?_))
  rintro e w0 ⟨rfl, rfl⟩
  go_wp2_with fail
  ((with_reducible refine (H1.out _).mono ?_))
  rintro e w1 ⟨⟨_, rfl, C1, P1, rfl, o1⟩, b1⟩
  obtain ⟨HZ1, HB1⟩ := zw_after b1
  replace o1 := ownA_low o1 (Nat.le_of_eq (zw_size w).symm)
  clear b1
  go_wp2_with fail
  ((with_reducible refine (H2.out _).mono ?_))
  rintro e w2 ⟨⟨_, rfl, C2, P2, rfl, o2⟩, b2⟩
  have hz1 : w.heap.size + 1 ≤ w1.heap.size := HZ1.lt
  have HZ2 : ZM w2 w.heap.size := HZ1.below b2
  have HB2 := HB1.trans (b2.mono (by omega))
  replace o2 := ownA_low o2 hz1
  replace o1 := o1.below b2
  clear b2
  go_wp2_with fail
  ((with_reducible refine (H3.out _).mono ?_))
  rintro e w3 ⟨⟨_, rfl, C3, P3, rfl, o3⟩, b3⟩
  have hz2 : w.heap.size + 1 ≤ w2.heap.size := HZ2.lt
  have HZ3 : ZM w3 w.heap.size := HZ2.below b3
  have HB3 := HB2.trans (b3.mono (by omega))
  replace o3 := ownA_low o3 hz2
  replace o1 := o1.below b3
  replace o2 := o2.below b3
  clear b3
  go_wp2_with fail
  ((with_reducible refine (H4.out _).mono ?_))
  rintro e w4 ⟨⟨_, rfl, C4, P4, rfl, o4⟩, b4⟩
  have hz3 : w.heap.size + 1 ≤ w3.heap.size := HZ3.lt
  have HZ4 : ZM w4 w.heap.size := HZ3.below b4
  have HB4 := HB3.trans (b4.mono (by omega))
  replace o4 := ownA_low o4 hz3
  replace o1 := o1.below b4
  replace o2 := o2.below b4
  replace o3 := o3.below b4
  clear b4
  go_wp2_with fail
  ((with_reducible refine (H5.out _).mono ?_))
  rintro e w5 ⟨⟨_, rfl, C5, P5, rfl, o5⟩, b5⟩
  have hz4 : w.heap.size + 1 ≤ w4.heap.size := HZ4.lt
  have HZ5 : ZM w5 w.heap.size := HZ4.below b5
  have HB5 := HB4.trans (b5.mono (by omega))
  replace o5 := ownA_low o5 hz4
  replace o1 := o1.below b5
  replace o2 := o2.below b5
  replace o3 := o3.below b5
  replace o4 := o4.below b5
  clear b5
  go_wp2_with fail
  ((with_reducible refine (H6.out _).mono ?_))
  rintro e w6 ⟨⟨_, rfl, C6, P6, rfl, o6⟩, b6⟩
  have hz5 : w.heap.size + 1 ≤ w5.heap.size := HZ5.lt
  have HZ6 : ZM w6 w.heap.size := HZ5.below b6
  have HB6 := HB5.trans (b6.mono (by omega))
  replace o6 := ownA_low o6 hz5
  replace o1 := o1.below b6
  replace o2 := o2.below b6
  replace o3 := o3.below b6
  replace o4 := o4.below b6
  replace o5 := o5.below b6
  clear b6
  go_wp2_with fail
  ((with_reducible refine (H7.out _).mono ?_))
  rintro e w7 ⟨⟨_, rfl, C7, P7, rfl, o7⟩, b7⟩
  have hz6 : w.heap.size + 1 ≤ w6.heap.size := HZ6.lt
  have HZ7 : ZM w7 w.heap.size := HZ6.below b7
  have HB7 := HB6.trans (b7.mono (by omega))
  replace o7 := ownA_low o7 hz6
  replace o1 := o1.below b7
  replace o2 := o2.below b7
  replace o3 := o3.below b7
  replace o4 := o4.below b7
  replace o5 := o5.below b7
  replace o6 := o6.below b7
  clear b7
  go_wp2_with fail
  ((with_reducible refine (H8.out _).mono ?_))
  rintro e w8 ⟨⟨_, rfl, C8, P8, rfl, o8⟩, b8⟩
  have hz7 : w.heap.size + 1 ≤ w7.heap.size := HZ7.lt
  have HZ8 : ZM w8 w.heap.size := HZ7.below b8
  have HB8 := HB7.trans (b8.mono (by omega))
  replace o8 := ownA_low o8 hz7
  replace o1 := o1.below b8
  replace o2 := o2.below b8
  replace o3 := o3.below b8
  replace o4 := o4.below b8
  replace o5 := o5.below b8
  replace o6 := o6.below b8
  replace o7 := o7.below b8
  clear b8
  go_wp2_with fail
  ((with_reducible refine (H9.out _).mono ?_))
  rintro e w9 ⟨⟨_, rfl, C9, P9, rfl, o9⟩, b9⟩
  have hz8 : w.heap.size + 1 ≤ w8.heap.size := HZ8.lt
  have HZ9 : ZM w9 w.heap.size := HZ8.below b9
  have HB9 := HB8.trans (b9.mono (by omega))
  replace o9 := ownA_low o9 hz8
  replace o1 := o1.below b9
  replace o2 := o2.below b9
  replace o3 := o3.below b9
  replace o4 := o4.below b9
  replace o5 := o5.below b9
  replace o6 := o6.below b9
  replace o7 := o7.below b9
  replace o8 := o8.below b9
  clear b9
  dsimp only
  obtain ⟨L, hL⟩ : ∃ L : List MkR, L = [⟨m1, C1, P1⟩, ⟨m2, C2, P2⟩, ⟨m3, C3, P3⟩, ⟨m4, C4, P4⟩, ⟨m5, C5, P5⟩, ⟨m6, C6, P6⟩, ⟨m7, C7, P7⟩, ⟨m8, C8, P8⟩, ⟨m9, C9, P9⟩] := ⟨_, rfl⟩
  have HL9 : L.length = 9 := by rw [hL]; rfl
  have HPL : Hid (N = pickL L) := Lib.hid (by rw [hL]; exact HP.out _ _ _ _ _ _ _ _ _ _ _ _ _ _ _ _ _ _)
  have HOL : Hid (∀ r ∈ L, OwnA w9 (w.heap.size + 1) r.m.att r.c r.p) := Lib.hid (by
    intro r hr
    rw [hL] at hr
    simp only [List.mem_cons, List.not_mem_nil, or_false] at hr
    rcases hr with rfl | rfl | rfl | rfl | rfl | rfl | rfl | rfl | rfl
    · exact o1
    · exact o2
    · exact o3
    · exact o4
    · exact o5
    · exact o6
    · exact o7
    · exact o8
    · exact o9)
  rename_i Kz hKz
  refine hKz _ _ ?_
  obtain ⟨ie, z, hie, hzz, hsz, hcz2⟩ := typ_mark
  refine wpList_buildSlice rfl 56 27 9 _ rfl (mks L).toArray ie z (by kernel_rfl) hie hzz (by rw [hsz]; decide) (by rw [hsz]; decide) ?_ ?_
  · rw [hsz, hL, Array.toList_map]
    refine Great.fill_whole (s := 11) (by decide) [.agg (m1.cells C1 P1), .agg (m2.cells C2 P2), .agg (m3.cells C3 P3), .agg (m4.cells C4 P4), .agg (m5.cells C5 P5), .agg (m6.cells C6 P6), .agg (m7.cells C7 P7), .agg (m8.cells C8 P8), .agg (m9.cells C9 P9)] _ ?_ ?_
    · intro v hv
      simp only [List.mem_cons, List.not_mem_nil, or_false] at hv
      rcases hv with rfl | rfl | rfl | rfl | rfl | rfl | rfl | rfl | rfl <;> rfl
    · simp
  clear hL HP o1 o2 o3 o4 o5 o6 o7 o8 o9 hie hzz hsz hcz2 ie z
  have hz9 : w.heap.size + 1 ≤ w9.heap.size := HZ9.lt
  have HZ0 := Lib.hid (Blk.alloc HZ9 (.cells (mks L).toArray 27))
  have HB0 := Lib.hid (HB9.alloc HB9.size (.cells (mks L).toArray 27))
  have HK0 := Lib.hid (Blk.new w9 27 (mks L).toArray)
  have HO0 : Hid (∀ r ∈ L, OwnA (w9.alloc (.cells (mks L).toArray 27)) (w.heap.size + 1) r.m.att r.c r.p) := Lib.hid fun r hr => (HOL.out r hr).below ((Below.refl _ _).alloc (Nat.le_refl _) _)
  have hsz0 : (w9.alloc (.cells (mks L).toArray 27)).heap.size = w9.heap.size + 1 := by simp
  generalize w9.alloc (.cells (mks L).toArray 27) = W0 at *
  generalize w9.heap.size = g at *
  have hng : w.heap.size < g + 1 := by omega
  clear HZ1 HZ2 HZ3 HZ4 HZ5 HZ6 HZ7 HZ8 HZ9 HB1 HB2 HB3 HB4 HB5 HB6 HB7 HB8 HB9 hz1 hz2 hz3 hz4 hz5 hz6 hz7 hz8 HOL H1 H2 H3 H4 H5 H6 H7 H8 H9 HSp hB
  go_wp2_with fail
  go_loopw [42] (fun v wr => ∃ k : Nat, v = .int .i64 k ∧ k ≤ 9 ∧ Hid (∀ j (h : j < L.length), j < k → L[j].m.kind = 0) ∧ Hid (Below (g + 1) W0 wr)) (fun v _ => 9 - (intOf v).toNat)
  case atStart => exact ⟨0, rfl, by omega, Lib.hid fun j h hj => absurd hj (by omega), Lib.hid (Below.refl _ _)⟩
  case round =>
    obtain ⟨k, rfl, hk, HN, HBW⟩ := hrel
    have HZr : Hid (ZM wr w.heap.size) := Lib.hid (Blk.below HZ0.out HBW.out hng)
    have HBr : Hid (Below w.heap.size w wr) := Lib.hid (HB0.out.trans (HBW.out.mono (by omega)))
    have HKr : Hid (Blk wr g 27 (mks L).toArray) := Lib.hid (Blk.below HK0.out HBW.out (by omega))
    have hwsz := HBW.out.size
    by_cases hlt : k < 9
    · have hkl : k < L.length := by omega
      have hmem : L[k] ∈ L := List.getElem_mem hkl
      have HOr : Hid (OwnA wr (w.heap.size + 1) L[k].m.att L[k].c L[k].p) := Lib.hid ((HO0.out _ hmem).below (HBW.out.mono (by omega)))
      obtain ⟨A, cc, hA⟩ := own_slice HOr.out.cls
      obtain ⟨D, dd, hD⟩ := own_slice HOr.out.prs
      have HRw : Hid (∀ i, i < 11 → wr.cell? ⟨g, k * 11 + i, none⟩ = (L[k].m.cells (.slice A L[k].m.att.cl.length cc) (.slice D L[k].m.att.pr.length dd))[i]?) := Lib.hid fun i hi => by
        rw [← hA, ← hD, ← mks_at L k hkl i hi, HKr.out.cell, List.getElem?_toArray]
      have HOs : Hid (OwnA wr (w.heap.size + 1) L[k].m.att (.slice A L[k].m.att.cl.length cc) (.slice D L[k].m.att.pr.length dd)) := Lib.hid (by rw [← hA, ← hD]; exact HOr.out)
      have HH : Hid (L[k].m.kind ≠ 0 → N = some L[k].m) := Lib.hid fun e => by rw [HPL.out]; exact pick_hit L k hkl e HN.out
      have HX : Hid (L[k].m.kind = 0 → ∀ j (h : j < L.length), j < k + 1 → L[j].m.kind = 0) := Lib.hid fun e j h hj => by
        by_cases hj' : j < k
        · exact HN.out j h hj'
        · obtain rfl : j = k := by omega
          exact e
      clear hA hD HOr hmem HN
      generalize L[k].m = m at *
      have c0 : wr.cell? ⟨g, k * 11, none⟩ = some (.int .i64 m.kind) := HRw.out 0 (by decide)
      have c1 : wr.cell? ⟨g, k * 11 + 1, none⟩ = some (.int .i64 m.n) := HRw.out 1 (by decide)
      have c2 : wr.cell? ⟨g, k * 11 + 2, none⟩ = some (.string m.ch) := HRw.out 2 (by decide)
      have c3 : wr.cell? ⟨g, k * 11 + 3, none⟩ = some (.int .i64 m.off) := HRw.out 3 (by decide)
      have c4 : wr.cell? ⟨g, k * 11 + 4, none⟩ = some (.string m.info) := HRw.out 4 (by decide)
      have c5 : wr.cell? ⟨g, k * 11 + 5, none⟩ = some (.string m.rest) := HRw.out 5 (by decide)
      have c6 : wr.cell? ⟨g, k * 11 + 6, none⟩ = some (.string m.dest) := HRw.out 6 (by decide)
      have c7 : wr.cell? ⟨g, k * 11 + 7, none⟩ = some (.string m.title) := HRw.out 7 (by decide)
      have c8 : wr.cell? ⟨g, k * 11 + 8, none⟩ = some (.string m.att.id) := HRw.out 8 (by decide)
      have c9 : wr.cell? ⟨g, k * 11 + 9, none⟩ = some (.slice A m.att.cl.length cc) := HRw.out 9 (by decide)
      have c10 : wr.cell? ⟨g, k * 11 + 10, none⟩ = some (.slice D m.att.pr.length dd) := HRw.out 10 (by decide)
      by_cases hk0 : m.kind = 0
      · have z3 : (((m.kind : Nat) : Int) != 0) = false := by rw [hk0]; rfl
        have HX2 := Lib.hid (HX.out hk0)
        clear HX HH hk0
        go_wp2_with fail
        go_roundw
        case rel => exact ⟨k + 1, by go_num, by omega, HX2, Lib.hid (HBW.out.alloc (by omega) _)⟩
        case measure => simp [intOf]; omega
      · have z3 : (((m.kind : Nat) : Int) != 0) = true := by rw [bne_iff_ne]; omega
        have HF : Hid (M = m) := Lib.hid (by rw [HQ.out, HH.out hk0]; rfl)
        have hnw : w.heap.size < wr.heap.size := by omega
        obtain ⟨k0, k1, k2, k3, k4, k5, k6, k7, k8, k9, k10, v0, v1, v2, v3, v4, v5, v6, v7, v8, v9, v10⟩ := ZM.facts HZr.out
        clear HX HH hk0
        go_wp2_with fail
        have hB2 := below11 HBr.out (Nat.le_refl _) (.int .i64 m.kind) (.int .i64 m.n) (.string m.ch) (.int .i64 m.off) (.string m.info) (.string m.rest) (.string m.dest) (.string m.title) (.string m.att.id) (.slice A m.att.cl.length cc) (.slice D m.att.pr.length dd)
        refine rof_ret (Blk.alloc (blk11 HZr.out _ _ _ _ _ _ _ _ _ _ _) _) rfl rfl ⟨⟨_, rfl, ?_⟩, hB2.alloc hB2.size _⟩
        rw [HF.out]
        exact ⟨_, _, rfl, (ownA_low (ownA_far HOs.out (grown11 _ _ _ _ _ _ _ _ _ _ _ _ _) (Nat.lt_succ_self _)) (Nat.le_succ _)).below ((Below.refl _ _).alloc (Nat.le_refl _) _)⟩
    · obtain rfl : k = 9 := by omega
      have HF : Hid (M = { rest := c }) := Lib.hid (by rw [HQ.out, HPL.out, pick_none L fun j hj => HN.out j hj (by omega)]; rfl)
      obtain ⟨k0, k1, k2, k3, k4, k5, k6, k7, k8, k9, k10, v0, v1, v2, v3, v4, v5, v6, v7, v8, v9, v10⟩ := ZM.facts HZr.out
      clear HN
      go_wp2_with fail
      refine rof_ret (blk11 HZr.out _ _ _ _ _ _ _ _ _ _ _) rfl rfl ⟨⟨_, rfl, ?_⟩, below11 HBr.out (Nat.le_refl _) _ _ _ _ _ _ _ _ _ _ _⟩
      rw [HF.out]
      exact mkVal_plain (m := { rest := c }) rfl (below11 HBr.out (Nat.le_refl _) _ _ _ _ _ _ _ _ _ _ _).size
end Go.Proofs.YthfienjmigidbaaGreatDoor
