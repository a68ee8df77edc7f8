/-
  table.Align.
-/
import Derived.Test.YtoageahnddepcaaDoorTabI
set_option linter.unusedVariables false
set_option linter.unusedSimpArgs false
namespace Go.Pub
open Go.RowKit
/-- The letter of a part. -/
def letP (p : List UInt8) : List UInt8 := letL (trimS p)
/-- The alignments of parts. -/
def alnL (ps : List (List UInt8)) : Option (List UInt8) := if ps.length ≤ 32 ∧ (ps.all fun p => !(letP p).isEmpty) = true then some (ps.flatMap letP) else none
/-- The alignments of a line. -/
def alignR (l : List UInt8) : Option (List UInt8) := if l.contains 124 then alnL (partsL l) else none
theorem letP_len (p : List UInt8) (h : letP p ≠ []) : (letP p).length = 1 := by
  have := letL_len (trimS p)
  unfold letP at *
  cases hp : letL (trimS p) with
  | nil => exact absurd hp h
  | cons a b => rw [hp] at this; simp at this ⊢; exact this
theorem flat_len : ∀ ps : List (List UInt8), (∀ p ∈ ps, letP p ≠ []) → (ps.flatMap letP).length = ps.length
  | [], _ => rfl
  | p :: ps, h => by
    rw [List.flatMap_cons, List.length_append, letP_len p (h p List.mem_cons_self), flat_len ps (fun q hq => h q (List.mem_cons_of_mem _ hq)), List.length_cons]; omega
/-- The letters that have come. -/
def letsP (pre : List Pt) : List UInt8 := pre.flatMap fun x => letP (bytesL x.1)
def goodP (pre : List Pt) : Prop := ∀ x ∈ pre, letP (bytesL x.1) ≠ []
theorem letsP_snoc (pre : List Pt) (x : Pt) : letsP (pre ++ [x]) = letsP pre ++ letP (bytesL x.1) := by unfold letsP; simp
theorem letsP_len : ∀ pre : List Pt, goodP pre → (letsP pre).length = pre.length
  | [], _ => rfl
  | p :: ps, h => by
    unfold letsP
    rw [List.flatMap_cons, List.length_append, letP_len _ (h p List.mem_cons_self)]
    have := letsP_len ps (fun q hq => h q (List.mem_cons_of_mem _ hq))
    unfold letsP at this
    rw [this, List.length_cons]; omega
theorem toPt_back (ps : List (List UInt8)) (h : ∀ p ∈ ps, p.length ≤ 1000000) : (ps.map toPt).map (fun x => bytesL x.1) = ps := by
  rw [List.map_map]
  conv => rhs; rw [← List.map_id ps]
  refine List.map_congr_left fun p hp => ?_
  show bytesL (toPt p).1 = p
  rw [toPt_val p (h p hp), bytesL_mk']
theorem letsP_map (ps : List (List UInt8)) (h : ∀ p ∈ ps, p.length ≤ 1000000) : letsP (ps.map toPt) = ps.flatMap letP := by
  unfold letsP
  conv => rhs; rw [← toPt_back ps h]
  rw [List.flatMap_map, List.map_map, List.flatMap_map]; rfl
theorem aln_done (ps : List (List UInt8)) (h : ∀ p ∈ ps, p.length ≤ 1000000) (hg : goodP (ps.map toPt)) (hl : (ps.map toPt).length ≤ 32) : alnL ps = some (letsP (ps.map toPt)) := by
  unfold alnL
  rw [letsP_map ps h, if_pos]
  refine ⟨by simpa using hl, ?_⟩
  rw [List.all_eq_true]
  intro p hp
  have := hg (toPt p) (List.mem_map_of_mem hp)
  rw [toPt_val p (h p hp), bytesL_mk'] at this
  cases hq : letP p with
  | nil => exact absurd hq this
  | cons a b => rfl
theorem aln_stop (ps : List (List UInt8)) (h : ∀ p ∈ ps, p.length ≤ 1000000) (pre : List Pt) (x : Pt) (hp : (pre ++ [x]) <+: ps.map toPt) (hx : letP (bytesL x.1) = [] ∨ 32 ≤ pre.length) : alnL ps = none := by
  unfold alnL
  rw [if_neg]
  rintro ⟨h1, h2⟩
  rcases hx with hx | hx
  · obtain ⟨r, hr⟩ := hp
    have hm : x ∈ ps.map toPt := by rw [← hr]; simp
    obtain ⟨p, hpm, rfl⟩ := List.mem_map.1 hm
    rw [toPt_val p (h p hpm), bytesL_mk'] at hx
    have := List.all_eq_true.1 h2 p hpm
    rw [hx] at this
    cases this
  · have := hp.length_le
    simp at this
    omega
end Go.Pub
namespace Go.Proofs.YtoageahnddepcaaDoor
open Go.RowKit Go.Pub Go.Shelf
attribute [local go_sem] Oper.semAt_some

def alnVal : Option (List UInt8) → Value
  | none => .tuple #[.string ⟨#[]⟩, .bool false]
  | some r => .tuple #[.string (mk r), .bool true]
def AlnPost (r : Option (List UInt8)) (w : World) (e : Ending) (w' : World) : Prop := e = .returned (alnVal r) ∧ Below w.heap.size w w'

theorem contains_iff (l : List UInt8) (c : UInt8) : decide (0 ≤ Lib.indexByte l c) = l.contains c := (Lib.contains_iff_indexByte l c).symm

set_option maxRecDepth 100000 in
set_option maxHeartbeats 4000000 in
theorem t_align (s : ByteArray) (w : World) (hs : s.size ≤ 1000000) : Calls Tryd.prog 16 #[.string s] w (AlnPost (alignR (bytesL s)) w) := by
  have HCn : Hid (∀ W, Calls Tryd.prog 32 #[.string s, .string ⟨#[124]⟩] W fun e w' => e = .returned (.bool ((bytesL s).contains 124)) ∧ w' = W) := Lib.hid fun W => by
    have h := Tryd.strings_Contains_one s 124 W
    rw [contains_iff] at h
    exact h
  have HA : Hid (alignR (bytesL s) = if (bytesL s).contains 124 = true then alnL (partsL (bytesL s)) else none) := Lib.hid rfl
  have HP := Lib.hid fun W => t_parts s W hs
  have hcs := coreB_size (bytesL s)
  rw [bytesL_length] at hcs
  have HX : Hid (partsL (bytesL s) = restP (coreB (bytesL s)) 0 0) := Lib.hid (by rw [restP_zero]; rfl)
  have HM : Hid (∀ p ∈ restP (coreB (bytesL s)) 0 0, p.length ≤ 1000000) := Lib.hid (fun p hp => by
    rw [← HX.out] at hp
    have := splitGo_mem _ _ p hp
    rw [bytesL_length] at this
    omega)
  rw [HX.out] at HA
  clear HX
  generalize alignR (bytesL s) = R at *
  generalize coreB (bytesL s) = C at *
  cases hcn : (bytesL s).contains 124
  · have HF : Hid (R = none) := Lib.hid (by rw [HA.out, hcn]; rfl)
    rw [hcn] at HCn
    clear hcn HA
    go_enter Tryd.func16, Tryd.ntmps16
    go_wp2_with fail
    ((with_reducible refine (HCn.out _).mono ?_))
    rintro e w' ⟨rfl, rfl⟩
    go_wp2_with fail
    refine bodyPost_ret (v := .tuple #[.string ⟨#[]⟩, .bool false]) (by simp [results, Tryd.results16, go_sem]) rfl ⟨by rw [HF.out]; rfl, ?_⟩
    exact ((Below.refl _ _).alloc (Nat.le_refl _) _).alloc (by simp) _
  have HF : Hid (R = alnL (restP C 0 0)) := Lib.hid (by rw [HA.out, hcn]; rfl)
  rw [hcn] at HCn
  clear hcn HA
  refine (callsIn_wide (n := 5)).1 ?_
  refine callsIn_of_wp_marks Tryd.func16 rfl trivial ?_ rfl
  simp only [Tryd.ntmps16, List.size_toArray, List.length_cons, List.length_nil, Nat.reduceAdd, Nat.reduceSub, Array.replicate_succ, Array.replicate_zero, List.push_toArray, List.append_toArray, List.nil_append, List.cons_append]
  gi_wp2_with fail
  refine ⟨trivial, ?_⟩
  ((with_reducible refine (callsIn_wide.2 (HCn.out _)).mono ?_))
  rintro e w' ⟨rfl, rfl⟩
  gi_wp2_with fail
  refine ⟨trivial, ?_⟩
  ((with_reducible refine (callsIn_wide.2 (HP.out _)).mono ?_))
  rintro e w' ⟨rfl, rfl⟩
  gi_wp2_with fail
  have bR := Boxed.new w 9 (.string ⟨#[]⟩)
  have bF := Boxed.new (w.alloc (.cells #[.string ⟨#[]⟩] 9)) 4 (.bool false)
  rw [World.size_alloc] at bF
  have bL := Boxed.new ((w.alloc (.cells #[.string ⟨#[]⟩] 9)).alloc (.cells #[.bool false] 4)) 9 (.string ⟨#[]⟩)
  rw [World.size_alloc, World.size_alloc] at bL
  have bC := Boxed.new (((w.alloc (.cells #[.string ⟨#[]⟩] 9)).alloc (.cells #[.bool false] 4)).alloc (.cells #[.string ⟨#[]⟩] 9)) 9 (.string C)
  rw [World.size_alloc, World.size_alloc, World.size_alloc] at bC
  have hB0 : Below w.heap.size w ((((w.alloc (.cells #[.string ⟨#[]⟩] 9)).alloc (.cells #[.bool false] 4)).alloc (.cells #[.string ⟨#[]⟩] 9)).alloc (.cells #[.string C] 9)) := ((((Below.refl _ w).alloc (Nat.le_refl _) _).alloc (by simp) _).alloc (by simp; omega) _).alloc (by simp; omega) _
  have bR' := ((bR.alloc (.cells #[.bool false] 4)).alloc (.cells #[.string ⟨#[]⟩] 9)).alloc (.cells #[.string C] 9)
  have bF' := (bF.alloc (.cells #[.string ⟨#[]⟩] 9)).alloc (.cells #[.string C] 9)
  have bL' := bL.alloc (.cells #[.string C] 9)
  have hzW : ((((w.alloc (.cells #[.string ⟨#[]⟩] 9)).alloc (.cells #[.bool false] 4)).alloc (.cells #[.string ⟨#[]⟩] 9)).alloc (.cells #[.string C] 9)).heap.size = w.heap.size + 4 := by simp
  generalize ((((w.alloc (.cells #[.string ⟨#[]⟩] 9)).alloc (.cells #[.bool false] 4)).alloc (.cells #[.string ⟨#[]⟩] 9)).alloc (.cells #[.string C] 9)) = W0 at *
  clear bR bF bL
  refine wpIn_rangeFunc_ownG rfl (by omega) (gf := 40) (lb := #[.pointer (some ⟨w.heap.size + 1 + 1 + 1, 0, none⟩)]) rfl trivial (enters_of Tryd.func40 (by kernel_rfl) rfl)
    (parts_stops 4 (by omega) (w.heap.size + 1 + 1 + 1) C (by omega) _ bC) (Kp := KpB (w.heap.size + 1 + 1 + 1)) (fun h1 h2 => h2.trans h1) (fun W l o o' hl ho hc _ => World.putObj_heap_other (fun e => by omega)) (Below.refl _ _) (fun _ => rfl)
    (fun (pre : List Pt) W => (Boxed W (w.heap.size + 1 + 1) 9 (.string (mk (letsP pre))) ∧ Boxed W (w.heap.size + 1 + 1 + 1) 9 (.string C)) ∧ (Boxed W w.heap.size 9 (.string ⟨#[]⟩) ∧ Boxed W (w.heap.size + 1) 4 (.bool false)) ∧ (goodP pre ∧ pre.length ≤ 32) ∧ Below w.heap.size w W)
    (fun c (pre : List Pt) W => (c = Code.ret ∧ ∃ pr x, pre = pr ++ [x] ∧ (letP (bytesL x.1) = [] ∨ 32 ≤ pr.length)) ∧ (Boxed W w.heap.size 9 (.string ⟨#[]⟩) ∧ Boxed W (w.heap.size + 1) 4 (.bool false)) ∧ Below w.heap.size w W)
    (OwnFrom.and (OwnFrom.and (Own.from (boxed_own _ _ (fun pre => .string (mk (letsP pre)))) _) (Own.from (boxed_own _ _ (fun _ => .string C)) _)) (OwnFrom.and (OwnFrom.and (Own.from (boxed_own _ _ (fun _ => .string ⟨#[]⟩)) _) (Own.from (boxed_own _ _ (fun _ => .bool false)) _)) (OwnFrom.and (ownFrom_pure _ _) (ownFrom_below (Nat.le_refl _) (by omega)))))
    (fun c => OwnFrom.and (ownFrom_pure _ _) (OwnFrom.and (OwnFrom.and (Own.from (boxed_own _ _ (fun _ => .string ⟨#[]⟩)) _) (Own.from (boxed_own _ _ (fun _ => .bool false)) _)) (ownFrom_below (Nat.le_refl _) (by omega))))
    ⟨⟨bL', bC⟩, ⟨bR', bF'⟩, ⟨fun x hx => (by cases hx), by simp⟩, hB0⟩
    (fun (x : Pt) => { tmps := #[.string s, undef, .pointer (some ⟨w.heap.size, 0, none⟩), .pointer (some ⟨w.heap.size + 1, 0, none⟩), .pointer (some ⟨w.heap.size + 1 + 1, 0, none⟩), .string x.1, undef, .string s, .bool true, .bool false, .string s, .func (.func 40) #[] #[.pointer (some ⟨w.heap.size + 1 + 1 + 1, 0, none⟩)], .string x.1, undef, undef, undef, undef, undef, undef, undef, undef, undef, undef, undef, undef, undef, undef], defers := [] }) ?assign ?body ?done ?stop
  case assign =>
    intro l x W K hK
    gi_wp2_with fail
    exact hK
  case body =>
    rintro l pre x W ⟨⟨hL, hsB⟩, ⟨hr1, hr2⟩, ⟨hg, hlen⟩, hB⟩ hlt
    have HT := Lib.hid fun W => CallsIn.inRound l ((callsIn_wide (n := 5 - 1 - 1 - 1)).2 (t_trim x.1 W x.2))
    have hxt : (mk (trimS (bytesL x.1))).size ≤ 1000000 := by rw [mk_size]; have := trimS_len (bytesL x.1); rw [bytesL_length] at this; have := x.2; omega
    have HR1 : Hid (∀ W1, CallsIn (Fence.wide.inRound l) (5 - 1 - 1 - 1) Tryd.prog 33 #[.string (mk (trimS (bytesL x.1)))] W1 fun e w' => e = .returned (.string (mk (letP (bytesL x.1)))) ∧ Below W1.heap.size W1 w') := Lib.hid fun W1 => by
      have h := CallsIn.inRound l ((callsIn_wide (n := 5 - 1 - 1 - 1)).2 (t_align1 (mk (trimS (bytesL x.1))) W1 hxt))
      rw [bytesL_mk'] at h
      exact h
    have hls : (mk (letsP pre)).size = pre.length := by rw [mk_size, letsP_len pre hg]
    have HLs := Lib.hid (letsP_snoc pre x)
    have HG := Lib.hid hg
    clear hg
    have hml := mk_size (letP (bytesL x.1))
    have hl1 : (letP (bytesL x.1)).length ≤ 1 := letL_len _
    generalize hLp : mk (letsP pre) = Lb at *
    have HLp := Lib.hid hLp
    clear hLp
    generalize mk (trimS (bytesL x.1)) = T at *
    by_cases h0 : letP (bytesL x.1) = []
    · have HR1' : Hid (∀ W1, CallsIn (Fence.wide.inRound l) (5 - 1 - 1 - 1) Tryd.prog 33 #[.string T] W1 fun e w' => e = .returned (.string ⟨#[]⟩) ∧ Below W1.heap.size W1 w') := Lib.hid (by rw [h0] at HR1; exact HR1.out)
      have H0 := Lib.hid h0
      clear h0 HR1
      gi_wp2_with fail
      refine ⟨trivial, ?_⟩
      ((with_reducible refine (HT.out _).mono ?_))
      rintro e w' ⟨rfl, rfl⟩
      gi_wp2_with fail
      refine ⟨trivial, ?_⟩
      ((with_reducible refine (HR1'.out _).mono ?_))
      rintro e W1 ⟨rfl, b1⟩
      have gr1 : Boxed W1 w.heap.size 9 (.string ⟨#[]⟩) := (b1.block _ hr1.lt).trans hr1
      have gr2 : Boxed W1 (w.heap.size + 1) 4 (.bool false) := (b1.block _ hr2.lt).trans hr2
      have q1 : Boxed ((W1.setCell ⟨w.heap.size, 0, none⟩ (.string ⟨#[]⟩)).setCell ⟨w.heap.size + 1, 0, none⟩ (.bool false)) w.heap.size 9 (.string ⟨#[]⟩) := (gr1.set _).kept (grownBy_setCell' _ (w.heap.size + 1) _) (by simp)
      have q2 : Boxed ((W1.setCell ⟨w.heap.size, 0, none⟩ (.string ⟨#[]⟩)).setCell ⟨w.heap.size + 1, 0, none⟩ (.bool false)) (w.heap.size + 1) 4 (.bool false) := (gr2.kept (grownBy_setCell' W1 w.heap.size _) (by simp)).set _
      have k1 := gr1.cell
      have k2 := gr2.cell
      have k2' := (gr2.kept (grownBy_setCell' W1 w.heap.size (.string ⟨#[]⟩)) (by simp)).cell
      have k3 := gr1.frozen
      have k4 := gr2.frozen
      gi_wp2_with fail
      exact ⟨((keeps_of_below b1).trans ((KeepsOthers.setCell _ _ _).trans (KeepsOthers.setCell _ _ _))).from _, ⟨rfl, pre, x, rfl, Or.inl H0.out⟩, ⟨q1, q2⟩, ((hB.trans (b1.mono hB.size)).setCell (p := ⟨w.heap.size, 0, none⟩) (Nat.le_refl _) _).setCell (p := ⟨w.heap.size + 1, 0, none⟩) (by show w.heap.size ≤ w.heap.size + 1; omega) _⟩
    · obtain ⟨x1, x2⟩ := cons_list (mk (letP (bytesL x.1))) (by rw [bytesL_mk']; exact h0)
      have H0 := Lib.hid h0
      clear h0
      have cat : ∀ w : World, (Op.stringOp .add Lb (mk (letP (bytesL x.1)))).run Tryd.prog w = .ok (.string (mk (letsP (pre ++ [x])))) w := fun w => by
        rw [HLs.out, ← HLp.out]
        refine cat_mk w _ _ _ ?_ (by rw [bytesL_mk'])
        have : (letsP pre).length = pre.length := by rw [← hls, ← HLp.out, mk_size]
        omega
      generalize hL2 : mk (letsP (pre ++ [x])) = Lb2 at *
      have HL2 := Lib.hid hL2
      clear hL2
      generalize mk (letP (bytesL x.1)) = Y at *
      by_cases h32 : 32 ≤ pre.length
      · gi_wp2_with fail
        refine ⟨trivial, ?_⟩
        ((with_reducible refine (HT.out _).mono ?_))
        rintro e w' ⟨rfl, rfl⟩
        gi_wp2_with fail
        refine ⟨trivial, ?_⟩
        ((with_reducible refine (HR1.out _).mono ?_))
        rintro e W1 ⟨rfl, b1⟩
        have gr1 : Boxed W1 w.heap.size 9 (.string ⟨#[]⟩) := (b1.block _ hr1.lt).trans hr1
        have gr2 : Boxed W1 (w.heap.size + 1) 4 (.bool false) := (b1.block _ hr2.lt).trans hr2
        have gL : Boxed W1 (w.heap.size + 1 + 1) 9 (.string Lb) := (b1.block _ hL.lt).trans hL
        have q1 : Boxed ((W1.setCell ⟨w.heap.size, 0, none⟩ (.string ⟨#[]⟩)).setCell ⟨w.heap.size + 1, 0, none⟩ (.bool false)) w.heap.size 9 (.string ⟨#[]⟩) := (gr1.set _).kept (grownBy_setCell' _ (w.heap.size + 1) _) (by simp)
        have q2 : Boxed ((W1.setCell ⟨w.heap.size, 0, none⟩ (.string ⟨#[]⟩)).setCell ⟨w.heap.size + 1, 0, none⟩ (.bool false)) (w.heap.size + 1) 4 (.bool false) := (gr2.kept (grownBy_setCell' W1 w.heap.size _) (by simp)).set _
        have k0 := gL.cell
        have k1 := gr1.cell
        have k2 := gr2.cell
        have k2' := (gr2.kept (grownBy_setCell' W1 w.heap.size (.string ⟨#[]⟩)) (by simp)).cell
        have k3 := gr1.frozen
        have k4 := gr2.frozen
        gi_wp2_with fail
        exact ⟨((keeps_of_below b1).trans ((KeepsOthers.setCell _ _ _).trans (KeepsOthers.setCell _ _ _))).from _, ⟨rfl, pre, x, rfl, Or.inr h32⟩, ⟨q1, q2⟩, ((hB.trans (b1.mono hB.size)).setCell (p := ⟨w.heap.size, 0, none⟩) (Nat.le_refl _) _).setCell (p := ⟨w.heap.size + 1, 0, none⟩) (by show w.heap.size ≤ w.heap.size + 1; omega) _⟩
      · have hgn : Hid (goodP (pre ++ [x])) := Lib.hid (fun y hy => by
          rcases List.mem_append.1 hy with hy | hy
          · exact HG.out y hy
          · rw [List.mem_singleton] at hy; rw [hy]; exact H0.out)
        gi_wp2_with fail
        refine ⟨trivial, ?_⟩
        ((with_reducible refine (HT.out _).mono ?_))
        rintro e w' ⟨rfl, rfl⟩
        gi_wp2_with fail
        refine ⟨trivial, ?_⟩
        ((with_reducible refine (HR1.out _).mono ?_))
        rintro e W1 ⟨rfl, b1⟩
        have gr1 : Boxed W1 w.heap.size 9 (.string ⟨#[]⟩) := (b1.block _ hr1.lt).trans hr1
        have gr2 : Boxed W1 (w.heap.size + 1) 4 (.bool false) := (b1.block _ hr2.lt).trans hr2
        have gL : Boxed W1 (w.heap.size + 1 + 1) 9 (.string Lb) := (b1.block _ hL.lt).trans hL
        have gC : Boxed W1 (w.heap.size + 1 + 1 + 1) 9 (.string C) := (b1.block _ hsB.lt).trans hsB
        have k0 := gL.cell
        have k5 := gL.frozen
        gi_wp2_with fail
        have gC2 : Boxed (W1.setCell ⟨w.heap.size + 1 + 1, 0, none⟩ (.string Lb2)) (w.heap.size + 1 + 1 + 1) 9 (.string C) := gC.kept (grownBy_setCell' W1 (w.heap.size + 1 + 1) _) (by simp)
        exact ⟨((keeps_of_below b1).trans (KeepsOthers.setCell _ _ _)).from _, gC2.trans hsB.symm, ⟨by rw [HL2.out]; exact gL.set _, gC2⟩, ⟨gr1.kept (grownBy_setCell' W1 (w.heap.size + 1 + 1) _) (by simp; omega), gr2.kept (grownBy_setCell' W1 (w.heap.size + 1 + 1) _) (by simp)⟩, ⟨hgn.out, by simp; omega⟩, (hB.trans (b1.mono hB.size)).setCell (p := ⟨w.heap.size + 1 + 1, 0, none⟩) (by show w.heap.size ≤ w.heap.size + 1 + 1; omega) _⟩
  case done =>
    rintro D ys W hD rfl ⟨⟨hL, hsB⟩, ⟨hr1, hr2⟩, ⟨hg, hlen⟩, hB⟩ hK
    have HE := Lib.hid (aln_done _ HM.out hg hlen)
    clear hg
    generalize hLp : mk (letsP ((restP C 0 0).map toPt)) = Lb at *
    have HLp := Lib.hid hLp
    clear hLp
    have k0 := hL.cell
    have k1 := hr1.cell
    have k3 := hr1.frozen
    have k2 := hr2.cell
    have k2' := (hr2.kept (grownBy_setCell' W w.heap.size (.string Lb)) (by simp)).cell
    have k4 := hr2.frozen
    have q1 : Boxed ((W.setCell ⟨w.heap.size, 0, none⟩ (.string Lb)).setCell ⟨w.heap.size + 1, 0, none⟩ (.bool true)) w.heap.size 9 (.string Lb) := (hr1.set _).kept (grownBy_setCell' _ (w.heap.size + 1) _) (by simp)
    have q2 : Boxed ((W.setCell ⟨w.heap.size, 0, none⟩ (.string Lb)).setCell ⟨w.heap.size + 1, 0, none⟩ (.bool true)) (w.heap.size + 1) 4 (.bool true) := (hr2.kept (grownBy_setCell' W w.heap.size _) (by simp)).set _
    have q3 : Below w.heap.size w ((W.setCell ⟨w.heap.size, 0, none⟩ (.string Lb)).setCell ⟨w.heap.size + 1, 0, none⟩ (.bool true)) := (hB.setCell (p := ⟨w.heap.size, 0, none⟩) (Nat.le_refl _) _).setCell (p := ⟨w.heap.size + 1, 0, none⟩) (by show w.heap.size ≤ w.heap.size + 1; omega) _
    have hK' := ((KeepsOthers.setCell W ⟨w.heap.size, 0, none⟩ (.string Lb)).trans (KeepsOthers.setCell _ ⟨w.heap.size + 1, 0, none⟩ (.bool true))).same D _ hK rfl
    gi_wp2_with fail
    refine ⟨by simp, .inl ⟨_, _, rfl, run_takeDeferred hK', ?_⟩⟩
    have c1 := cell_kept q1.cell (grownBy_putObj' _ D (.deferred none)) (fun r e => by cases e; exact ⟨_, hK', rfl⟩)
    have c2 := cell_kept q2.cell (grownBy_putObj' _ D (.deferred none)) (fun r e => by cases e; exact ⟨_, hK', rfl⟩)
    refine ⟨.tuple #[.string Lb, .bool true], by simp [results, Tryd.results16, go_sem, c1, c2], ?_, q3.trans (belowK_b (w := w) (Nat.le_refl _) _ D _ _ (by omega) hK' rfl rfl)⟩
    rw [HF.out, HE.out, ← HLp.out]; rfl
  case stop =>
    rintro D c pre W hD hpre ⟨⟨rfl, pr, x, rfl, hx⟩, ⟨hr1, hr2⟩, hB⟩ hK
    have HE := Lib.hid (aln_stop _ HM.out pr x hpre hx)
    gi_wp2_with fail
    refine ⟨by simp, .inl ⟨_, _, rfl, run_takeDeferred hK, ?_⟩⟩
    have c1 := cell_kept hr1.cell (grownBy_putObj' _ D (.deferred none)) (fun r e => by cases e; exact ⟨_, hK, rfl⟩)
    have c2 := cell_kept hr2.cell (grownBy_putObj' _ D (.deferred none)) (fun r e => by cases e; exact ⟨_, hK, rfl⟩)
    refine ⟨.tuple #[.string ⟨#[]⟩, .bool false], by simp [results, Tryd.results16, go_sem, c1, c2], ?_, hB.trans (belowK_b (w := w) (Nat.le_refl _) _ D _ _ (by omega) hK rfl rfl)⟩
    rw [HF.out, HE.out]; rfl
end Go.Proofs.YtoageahnddepcaaDoor
