/-
  Texts of the proof, put together (what this law reaches): TabJ, AttrQ, AttrJ, MkS, AttrSA, MkT, MkSB, TabK, MkInf, TabL, NsA, NsB, NsP, MkU.
-/
import Derived.Test.YtpoafhgbhnblmaaGreatDoorX24
import Derived.Deep.QuietTactic
import Derived.BigQuiet
import Derived.Laws.StructEq
import Derived.Test.YtpoafhgbhnblmaaGreatDoorX11
import Derived.Test.YtpoafhgbhnblmaaGreatDoorX23
import Derived.Test.YtpoafhgbhnblmaaGreatDoorX20
import Derived.Test.YtpoafhgbhnblmaaGreatDoorX26
import Derived.Test.YtpoafhgbhnblmaaGreatDoorX09
import Derived.Deep.AppendLies
set_option linter.unusedVariables false
set_option linter.unusedSimpArgs false
namespace Go.Pub
open Go.RowKit
/-- The letter of a part. -/
def letP (p : List UInt8) : List UInt8 := letL (trimS p)
/-- The alignments of parts. -/
def alnL (ps : List (List UInt8)) : Option (List UInt8) := if ps.length ≤ 32 ∧ (ps.all fun p => !(letP p).isEmpty) = true then some (ps.flatMap letP) else none
/-- The alignments of a line. -/
def alignR (l : List UInt8) : Option (List UInt8) := if l.contains 124 then alnL (partsL l) else none
theorem letP_len (p : List UInt8) (h : letP p ≠ []) : (letP p).length = 1 := by
  have := letL_len (trimS p)
  unfold letP at *
  cases hp : letL (trimS p) with
  | nil => exact absurd hp h
  | cons a b => rw [hp] at this; simp at this ⊢; exact this
theorem flat_len : ∀ ps : List (List UInt8), (∀ p ∈ ps, letP p ≠ []) → (ps.flatMap letP).length = ps.length
  | [], _ => rfl
  | p :: ps, h => by
    rw [List.flatMap_cons, List.length_append, letP_len p (h p List.mem_cons_self), flat_len ps (fun q hq => h q (List.mem_cons_of_mem _ hq)), List.length_cons]; omega
/-- The letters that have come. -/
def letsP (pre : List Pt) : List UInt8 := pre.flatMap fun x => letP (bytesL x.1)
def goodP (pre : List Pt) : Prop := ∀ x ∈ pre, letP (bytesL x.1) ≠ []
theorem letsP_snoc (pre : List Pt) (x : Pt) : letsP (pre ++ [x]) = letsP pre ++ letP (bytesL x.1) := by unfold letsP; simp
theorem letsP_len : ∀ pre : List Pt, goodP pre → (letsP pre).length = pre.length
  | [], _ => rfl
  | p :: ps, h => by
    unfold letsP
    rw [List.flatMap_cons, List.length_append, letP_len _ (h p List.mem_cons_self)]
    have := letsP_len ps (fun q hq => h q (List.mem_cons_of_mem _ hq))
    unfold letsP at this
    rw [this, List.length_cons]; omega
theorem toPt_back (ps : List (List UInt8)) (h : ∀ p ∈ ps, p.length ≤ 1000000) : (ps.map toPt).map (fun x => bytesL x.1) = ps := by
  rw [List.map_map]
  conv => rhs; rw [← List.map_id ps]
  refine List.map_congr_left fun p hp => ?_
  show bytesL (toPt p).1 = p
  rw [toPt_val p (h p hp), bytesL_mk']
theorem letsP_map (ps : List (List UInt8)) (h : ∀ p ∈ ps, p.length ≤ 1000000) : letsP (ps.map toPt) = ps.flatMap letP := by
  unfold letsP
  conv => rhs; rw [← toPt_back ps h]
  rw [List.flatMap_map, List.map_map, List.flatMap_map]; rfl
theorem aln_done (ps : List (List UInt8)) (h : ∀ p ∈ ps, p.length ≤ 1000000) (hg : goodP (ps.map toPt)) (hl : (ps.map toPt).length ≤ 32) : alnL ps = some (letsP (ps.map toPt)) := by
  unfold alnL
  rw [letsP_map ps h, if_pos]
  refine ⟨by simpa using hl, ?_⟩
  rw [List.all_eq_true]
  intro p hp
  have := hg (toPt p) (List.mem_map_of_mem hp)
  rw [toPt_val p (h p hp), bytesL_mk'] at this
  cases hq : letP p with
  | nil => exact absurd hq this
  | cons a b => rfl
theorem aln_stop (ps : List (List UInt8)) (h : ∀ p ∈ ps, p.length ≤ 1000000) (pre : List Pt) (x : Pt) (hp : (pre ++ [x]) <+: ps.map toPt) (hx : letP (bytesL x.1) = [] ∨ 32 ≤ pre.length) : alnL ps = none := by
  unfold alnL
  rw [if_neg]
  rintro ⟨h1, h2⟩
  rcases hx with hx | hx
  · obtain ⟨r, hr⟩ := hp
    have hm : x ∈ ps.map toPt := by rw [← hr]; simp
    obtain ⟨p, hpm, rfl⟩ := List.mem_map.1 hm
    rw [toPt_val p (h p hpm), bytesL_mk'] at hx
    have := List.all_eq_true.1 h2 p hpm
    rw [hx] at this
    cases this
  · have := hp.length_le
    simp at this
    omega
end Go.Pub
namespace Go.Proofs.YtpoafhgbhnblmaaGreatDoor
open Go.RowKit Go.Pub Go.Shelf
attribute [local go_sem] Oper.semAt_some
def alnVal : Option (List UInt8) → Value
  | none => .tuple #[.string ⟨#[]⟩, .bool false]
  | some r => .tuple #[.string (mk r), .bool true]
def AlnPost (r : Option (List UInt8)) (w : World) (e : Ending) (w' : World) : Prop := e = .returned (alnVal r) ∧ Below w.heap.size w w'
theorem contains_iff (l : List UInt8) (c : UInt8) : decide (0 ≤ Lib.indexByte l c) = l.contains c := (Lib.contains_iff_indexByte l c).symm
set_option maxRecDepth 100000 in
set_option maxHeartbeats 4000000 in
theorem t_align (s : ByteArray) (w : World) (hs : s.size ≤ 1000000) : Calls Tryz.prog 119 #[.string s] w (AlnPost (alignR (bytesL s)) w) := by
  have HCn : Hid (∀ W, Calls Tryz.prog 170 #[.string s, .string ⟨#[124]⟩] W fun e w' => e = .returned (.bool ((bytesL s).contains 124)) ∧ w' = W) := Lib.hid fun W => by
    have h := Tryz.strings_Contains_one s 124 W
    rw [contains_iff] at h
    exact h
  have HA : Hid (alignR (bytesL s) = if (bytesL s).contains 124 = true then alnL (partsL (bytesL s)) else none) := Lib.hid rfl
  have HP := Lib.hid fun W => t_parts s W hs
  have hcs := coreB_size (bytesL s)
  rw [bytesL_length] at hcs
  have HX : Hid (partsL (bytesL s) = restP (coreB (bytesL s)) 0 0) := Lib.hid (by rw [restP_zero]; rfl)
  have HM : Hid (∀ p ∈ restP (coreB (bytesL s)) 0 0, p.length ≤ 1000000) := Lib.hid (fun p hp => by
    rw [← HX.out] at hp
    have := splitGo_mem _ _ p hp
    rw [bytesL_length] at this
    omega)
  rw [HX.out] at HA
  clear HX
  generalize alignR (bytesL s) = R at *
  generalize coreB (bytesL s) = C at *
  cases hcn : (bytesL s).contains 124
  · have HF : Hid (R = none) := Lib.hid (by rw [HA.out, hcn]; rfl)
    rw [hcn] at HCn
    clear hcn HA
    go_enter Tryz.func119, Tryz.ntmps119
    go_wp2_with fail
    ((with_reducible refine (HCn.out _).mono ?_))
    rintro e w' ⟨rfl, rfl⟩
    go_wp2_with fail
    refine bodyPost_ret (v := .tuple #[.string ⟨#[]⟩, .bool false]) (by simp [results, Tryz.results119, go_sem]) rfl ⟨by rw [HF.out]; rfl, ?_⟩
    exact ((Below.refl _ _).alloc (Nat.le_refl _) _).alloc (by simp) _
  have HF : Hid (R = alnL (restP C 0 0)) := Lib.hid (by rw [HA.out, hcn]; rfl)
  rw [hcn] at HCn
  clear hcn HA
  refine (callsIn_wide (n := 5)).1 ?_
  refine callsIn_of_wp_marks Tryz.func119 rfl trivial ?_ rfl
  simp only [Tryz.ntmps119, List.size_toArray, List.length_cons, List.length_nil, Nat.reduceAdd, Nat.reduceSub, Array.replicate_succ, Array.replicate_zero, List.push_toArray, List.append_toArray, List.nil_append, List.cons_append]
  gi_wp2_with fail
  refine ⟨trivial, ?_⟩
  ((with_reducible refine (callsIn_wide.2 (HCn.out _)).mono ?_))
  rintro e w' ⟨rfl, rfl⟩
  gi_wp2_with fail
  refine ⟨trivial, ?_⟩
  ((with_reducible refine (callsIn_wide.2 (HP.out _)).mono ?_))
  rintro e w' ⟨rfl, rfl⟩
  gi_wp2_with fail
  have bR := Boxed.new w 9 (.string ⟨#[]⟩)
  have bF := Boxed.new (w.alloc (.cells #[.string ⟨#[]⟩] 9)) 4 (.bool false)
  rw [World.size_alloc] at bF
  have bL := Boxed.new ((w.alloc (.cells #[.string ⟨#[]⟩] 9)).alloc (.cells #[.bool false] 4)) 9 (.string ⟨#[]⟩)
  rw [World.size_alloc, World.size_alloc] at bL
  have bC := Boxed.new (((w.alloc (.cells #[.string ⟨#[]⟩] 9)).alloc (.cells #[.bool false] 4)).alloc (.cells #[.string ⟨#[]⟩] 9)) 9 (.string C)
  rw [World.size_alloc, World.size_alloc, World.size_alloc] at bC
  have hB0 : Below w.heap.size w ((((w.alloc (.cells #[.string ⟨#[]⟩] 9)).alloc (.cells #[.bool false] 4)).alloc (.cells #[.string ⟨#[]⟩] 9)).alloc (.cells #[.string C] 9)) := ((((Below.refl _ w).alloc (Nat.le_refl _) _).alloc (by simp) _).alloc (by simp; omega) _).alloc (by simp; omega) _
  have bR' := ((bR.alloc (.cells #[.bool false] 4)).alloc (.cells #[.string ⟨#[]⟩] 9)).alloc (.cells #[.string C] 9)
  have bF' := (bF.alloc (.cells #[.string ⟨#[]⟩] 9)).alloc (.cells #[.string C] 9)
  have bL' := bL.alloc (.cells #[.string C] 9)
  have hzW : ((((w.alloc (.cells #[.string ⟨#[]⟩] 9)).alloc (.cells #[.bool false] 4)).alloc (.cells #[.string ⟨#[]⟩] 9)).alloc (.cells #[.string C] 9)).heap.size = w.heap.size + 4 := by simp
  generalize ((((w.alloc (.cells #[.string ⟨#[]⟩] 9)).alloc (.cells #[.bool false] 4)).alloc (.cells #[.string ⟨#[]⟩] 9)).alloc (.cells #[.string C] 9)) = W0 at *
  clear bR bF bL
  refine wpIn_rangeFunc_ownG rfl (by omega) (gf := 214) (lb := #[.pointer (some ⟨w.heap.size + 1 + 1 + 1, 0, none⟩)]) rfl trivial (enters_of Tryz.func214 (by kernel_rfl) rfl)
    (parts_stops 4 (by omega) (w.heap.size + 1 + 1 + 1) C (by omega) _ bC) (Kp := KpB (w.heap.size + 1 + 1 + 1)) (fun h1 h2 => h2.trans h1) (fun W l o o' hl ho hc _ => World.putObj_heap_other (fun e => by omega)) (Below.refl _ _) (fun _ => rfl)
    (fun (pre : List Pt) W => (Boxed W (w.heap.size + 1 + 1) 9 (.string (mk (letsP pre))) ∧ Boxed W (w.heap.size + 1 + 1 + 1) 9 (.string C)) ∧ (Boxed W w.heap.size 9 (.string ⟨#[]⟩) ∧ Boxed W (w.heap.size + 1) 4 (.bool false)) ∧ (goodP pre ∧ pre.length ≤ 32) ∧ Below w.heap.size w W)
    (fun c (pre : List Pt) W => (c = Code.ret ∧ ∃ pr x, pre = pr ++ [x] ∧ (letP (bytesL x.1) = [] ∨ 32 ≤ pr.length)) ∧ (Boxed W w.heap.size 9 (.string ⟨#[]⟩) ∧ Boxed W (w.heap.size + 1) 4 (.bool false)) ∧ Below w.heap.size w W)
    (OwnFrom.and (OwnFrom.and (Own.from (boxed_own _ _ (fun pre => .string (mk (letsP pre)))) _) (Own.from (boxed_own _ _ (fun _ => .string C)) _)) (OwnFrom.and (OwnFrom.and (Own.from (boxed_own _ _ (fun _ => .string ⟨#[]⟩)) _) (Own.from (boxed_own _ _ (fun _ => .bool false)) _)) (OwnFrom.and (ownFrom_pure _ _) (ownFrom_below (Nat.le_refl _) (by omega)))))
    (fun c => OwnFrom.and (ownFrom_pure _ _) (OwnFrom.and (OwnFrom.and (Own.from (boxed_own _ _ (fun _ => .string ⟨#[]⟩)) _) (Own.from (boxed_own _ _ (fun _ => .bool false)) _)) (ownFrom_below (Nat.le_refl _) (by omega))))
    ⟨⟨bL', bC⟩, ⟨bR', bF'⟩, ⟨fun x hx => (by cases hx), by simp⟩, hB0⟩
    (fun (x : Pt) => { tmps := #[.string s, undef, .pointer (some ⟨w.heap.size, 0, none⟩), .pointer (some ⟨w.heap.size + 1, 0, none⟩), .pointer (some ⟨w.heap.size + 1 + 1, 0, none⟩), .string x.1, undef, .string s, .bool true, .bool false, .string s, .func (.func 214) #[] #[.pointer (some ⟨w.heap.size + 1 + 1 + 1, 0, none⟩)], .string x.1, undef, undef, undef, undef, undef, undef, undef, undef, undef, undef, undef, undef, undef, undef], defers := [] }) ?assign ?body ?done ?stop
  case assign =>
    intro l x W K hK
    gi_wp2_with fail
    exact hK
  case body =>
    rintro l pre x W ⟨⟨hL, hsB⟩, ⟨hr1, hr2⟩, ⟨hg, hlen⟩, hB⟩ hlt
    have HT := Lib.hid fun W => CallsIn.inRound l ((callsIn_wide (n := 5 - 1 - 1 - 1)).2 (t_trim x.1 W x.2))
    have hxt : (mk (trimS (bytesL x.1))).size ≤ 1000000 := by rw [mk_size]; have := trimS_len (bytesL x.1); rw [bytesL_length] at this; have := x.2; omega
    have HR1 : Hid (∀ W1, CallsIn (Fence.wide.inRound l) (5 - 1 - 1 - 1) Tryz.prog 172 #[.string (mk (trimS (bytesL x.1)))] W1 fun e w' => e = .returned (.string (mk (letP (bytesL x.1)))) ∧ Below W1.heap.size W1 w') := Lib.hid fun W1 => by
      have h := CallsIn.inRound l ((callsIn_wide (n := 5 - 1 - 1 - 1)).2 (t_align1 (mk (trimS (bytesL x.1))) W1 hxt))
      rw [bytesL_mk'] at h
      exact h
    have hls : (mk (letsP pre)).size = pre.length := by rw [mk_size, letsP_len pre hg]
    have HLs := Lib.hid (letsP_snoc pre x)
    have HG := Lib.hid hg
    clear hg
    have hml := mk_size (letP (bytesL x.1))
    have hl1 : (letP (bytesL x.1)).length ≤ 1 := letL_len _
    generalize hLp : mk (letsP pre) = Lb at *
    have HLp := Lib.hid hLp
    clear hLp
    generalize mk (trimS (bytesL x.1)) = T at *
    by_cases h0 : letP (bytesL x.1) = []
    · have HR1' : Hid (∀ W1, CallsIn (Fence.wide.inRound l) (5 - 1 - 1 - 1) Tryz.prog 172 #[.string T] W1 fun e w' => e = .returned (.string ⟨#[]⟩) ∧ Below W1.heap.size W1 w') := Lib.hid (by rw [h0] at HR1; exact HR1.out)
      have H0 := Lib.hid h0
      clear h0 HR1
      gi_wp2_with fail
      refine ⟨trivial, ?_⟩
      ((with_reducible refine (HT.out _).mono ?_))
      rintro e w' ⟨rfl, rfl⟩
      gi_wp2_with fail
      refine ⟨trivial, ?_⟩
      ((with_reducible refine (HR1'.out _).mono ?_))
      rintro e W1 ⟨rfl, b1⟩
      have gr1 : Boxed W1 w.heap.size 9 (.string ⟨#[]⟩) := (b1.block _ hr1.lt).trans hr1
      have gr2 : Boxed W1 (w.heap.size + 1) 4 (.bool false) := (b1.block _ hr2.lt).trans hr2
      have q1 : Boxed ((W1.setCell ⟨w.heap.size, 0, none⟩ (.string ⟨#[]⟩)).setCell ⟨w.heap.size + 1, 0, none⟩ (.bool false)) w.heap.size 9 (.string ⟨#[]⟩) := (gr1.set _).kept (grownBy_setCell' _ (w.heap.size + 1) _) (by simp)
      have q2 : Boxed ((W1.setCell ⟨w.heap.size, 0, none⟩ (.string ⟨#[]⟩)).setCell ⟨w.heap.size + 1, 0, none⟩ (.bool false)) (w.heap.size + 1) 4 (.bool false) := (gr2.kept (grownBy_setCell' W1 w.heap.size _) (by simp)).set _
      have k1 := gr1.cell
      have k2 := gr2.cell
      have k2' := (gr2.kept (grownBy_setCell' W1 w.heap.size (.string ⟨#[]⟩)) (by simp)).cell
      have k3 := gr1.frozen
      have k4 := gr2.frozen
      gi_wp2_with fail
      exact ⟨((keeps_of_below b1).trans ((KeepsOthers.setCell _ _ _).trans (KeepsOthers.setCell _ _ _))).from _, ⟨rfl, pre, x, rfl, Or.inl H0.out⟩, ⟨q1, q2⟩, ((hB.trans (b1.mono hB.size)).setCell (p := ⟨w.heap.size, 0, none⟩) (Nat.le_refl _) _).setCell (p := ⟨w.heap.size + 1, 0, none⟩) (by show w.heap.size ≤ w.heap.size + 1; omega) _⟩
    · obtain ⟨x1, x2⟩ := cons_list (mk (letP (bytesL x.1))) (by rw [bytesL_mk']; exact h0)
      have H0 := Lib.hid h0
      clear h0
      have cat : ∀ w : World, (Op.stringOp .add Lb (mk (letP (bytesL x.1)))).run Tryz.prog w = .ok (.string (mk (letsP (pre ++ [x])))) w := fun w => by
        rw [HLs.out, ← HLp.out]
        refine cat_mk w _ _ _ ?_ (by rw [bytesL_mk'])
        have : (letsP pre).length = pre.length := by rw [← hls, ← HLp.out, mk_size]
        omega
      generalize hL2 : mk (letsP (pre ++ [x])) = Lb2 at *
      have HL2 := Lib.hid hL2
      clear hL2
      generalize mk (letP (bytesL x.1)) = Y at *
      by_cases h32 : 32 ≤ pre.length
      · gi_wp2_with fail
        refine ⟨trivial, ?_⟩
        ((with_reducible refine (HT.out _).mono ?_))
        rintro e w' ⟨rfl, rfl⟩
        gi_wp2_with fail
        refine ⟨trivial, ?_⟩
        ((with_reducible refine (HR1.out _).mono ?_))
        rintro e W1 ⟨rfl, b1⟩
        have gr1 : Boxed W1 w.heap.size 9 (.string ⟨#[]⟩) := (b1.block _ hr1.lt).trans hr1
        have gr2 : Boxed W1 (w.heap.size + 1) 4 (.bool false) := (b1.block _ hr2.lt).trans hr2
        have gL : Boxed W1 (w.heap.size + 1 + 1) 9 (.string Lb) := (b1.block _ hL.lt).trans hL
        have q1 : Boxed ((W1.setCell ⟨w.heap.size, 0, none⟩ (.string ⟨#[]⟩)).setCell ⟨w.heap.size + 1, 0, none⟩ (.bool false)) w.heap.size 9 (.string ⟨#[]⟩) := (gr1.set _).kept (grownBy_setCell' _ (w.heap.size + 1) _) (by simp)
        have q2 : Boxed ((W1.setCell ⟨w.heap.size, 0, none⟩ (.string ⟨#[]⟩)).setCell ⟨w.heap.size + 1, 0, none⟩ (.bool false)) (w.heap.size + 1) 4 (.bool false) := (gr2.kept (grownBy_setCell' W1 w.heap.size _) (by simp)).set _
        have k0 := gL.cell
        have k1 := gr1.cell
        have k2 := gr2.cell
        have k2' := (gr2.kept (grownBy_setCell' W1 w.heap.size (.string ⟨#[]⟩)) (by simp)).cell
        have k3 := gr1.frozen
        have k4 := gr2.frozen
        gi_wp2_with fail
        exact ⟨((keeps_of_below b1).trans ((KeepsOthers.setCell _ _ _).trans (KeepsOthers.setCell _ _ _))).from _, ⟨rfl, pre, x, rfl, Or.inr h32⟩, ⟨q1, q2⟩, ((hB.trans (b1.mono hB.size)).setCell (p := ⟨w.heap.size, 0, none⟩) (Nat.le_refl _) _).setCell (p := ⟨w.heap.size + 1, 0, none⟩) (by show w.heap.size ≤ w.heap.size + 1; omega) _⟩
      · have hgn : Hid (goodP (pre ++ [x])) := Lib.hid (fun y hy => by
          rcases List.mem_append.1 hy with hy | hy
          · exact HG.out y hy
          · rw [List.mem_singleton] at hy; rw [hy]; exact H0.out)
        gi_wp2_with fail
        refine ⟨trivial, ?_⟩
        ((with_reducible refine (HT.out _).mono ?_))
        rintro e w' ⟨rfl, rfl⟩
        gi_wp2_with fail
        refine ⟨trivial, ?_⟩
        ((with_reducible refine (HR1.out _).mono ?_))
        rintro e W1 ⟨rfl, b1⟩
        have gr1 : Boxed W1 w.heap.size 9 (.string ⟨#[]⟩) := (b1.block _ hr1.lt).trans hr1
        have gr2 : Boxed W1 (w.heap.size + 1) 4 (.bool false) := (b1.block _ hr2.lt).trans hr2
        have gL : Boxed W1 (w.heap.size + 1 + 1) 9 (.string Lb) := (b1.block _ hL.lt).trans hL
        have gC : Boxed W1 (w.heap.size + 1 + 1 + 1) 9 (.string C) := (b1.block _ hsB.lt).trans hsB
        have k0 := gL.cell
        have k5 := gL.frozen
        gi_wp2_with fail
        have gC2 : Boxed (W1.setCell ⟨w.heap.size + 1 + 1, 0, none⟩ (.string Lb2)) (w.heap.size + 1 + 1 + 1) 9 (.string C) := gC.kept (grownBy_setCell' W1 (w.heap.size + 1 + 1) _) (by simp)
        exact ⟨((keeps_of_below b1).trans (KeepsOthers.setCell _ _ _)).from _, gC2.trans hsB.symm, ⟨by rw [HL2.out]; exact gL.set _, gC2⟩, ⟨gr1.kept (grownBy_setCell' W1 (w.heap.size + 1 + 1) _) (by simp; omega), gr2.kept (grownBy_setCell' W1 (w.heap.size + 1 + 1) _) (by simp)⟩, ⟨hgn.out, by simp; omega⟩, (hB.trans (b1.mono hB.size)).setCell (p := ⟨w.heap.size + 1 + 1, 0, none⟩) (by show w.heap.size ≤ w.heap.size + 1 + 1; omega) _⟩
  case done =>
    rintro D ys W hD rfl ⟨⟨hL, hsB⟩, ⟨hr1, hr2⟩, ⟨hg, hlen⟩, hB⟩ hK
    have HE := Lib.hid (aln_done _ HM.out hg hlen)
    clear hg
    generalize hLp : mk (letsP ((restP C 0 0).map toPt)) = Lb at *
    have HLp := Lib.hid hLp
    clear hLp
    have k0 := hL.cell
    have k1 := hr1.cell
    have k3 := hr1.frozen
    have k2 := hr2.cell
    have k2' := (hr2.kept (grownBy_setCell' W w.heap.size (.string Lb)) (by simp)).cell
    have k4 := hr2.frozen
    have q1 : Boxed ((W.setCell ⟨w.heap.size, 0, none⟩ (.string Lb)).setCell ⟨w.heap.size + 1, 0, none⟩ (.bool true)) w.heap.size 9 (.string Lb) := (hr1.set _).kept (grownBy_setCell' _ (w.heap.size + 1) _) (by simp)
    have q2 : Boxed ((W.setCell ⟨w.heap.size, 0, none⟩ (.string Lb)).setCell ⟨w.heap.size + 1, 0, none⟩ (.bool true)) (w.heap.size + 1) 4 (.bool true) := (hr2.kept (grownBy_setCell' W w.heap.size _) (by simp)).set _
    have q3 : Below w.heap.size w ((W.setCell ⟨w.heap.size, 0, none⟩ (.string Lb)).setCell ⟨w.heap.size + 1, 0, none⟩ (.bool true)) := (hB.setCell (p := ⟨w.heap.size, 0, none⟩) (Nat.le_refl _) _).setCell (p := ⟨w.heap.size + 1, 0, none⟩) (by show w.heap.size ≤ w.heap.size + 1; omega) _
    have hK' := ((KeepsOthers.setCell W ⟨w.heap.size, 0, none⟩ (.string Lb)).trans (KeepsOthers.setCell _ ⟨w.heap.size + 1, 0, none⟩ (.bool true))).same D _ hK rfl
    gi_wp2_with fail
    refine ⟨by simp, .inl ⟨_, _, rfl, run_takeDeferred hK', ?_⟩⟩
    have c1 := cell_kept q1.cell (grownBy_putObj' _ D (.deferred none)) (fun r e => by cases e; exact ⟨_, hK', rfl⟩)
    have c2 := cell_kept q2.cell (grownBy_putObj' _ D (.deferred none)) (fun r e => by cases e; exact ⟨_, hK', rfl⟩)
    refine ⟨.tuple #[.string Lb, .bool true], by simp [results, Tryz.results119, go_sem, c1, c2], ?_, q3.trans (belowK_b (w := w) (Nat.le_refl _) _ D _ _ (by omega) hK' rfl rfl)⟩
    rw [HF.out, HE.out, ← HLp.out]; rfl
  case stop =>
    rintro D c pre W hD hpre ⟨⟨rfl, pr, x, rfl, hx⟩, ⟨hr1, hr2⟩, hB⟩ hK
    have HE := Lib.hid (aln_stop _ HM.out pr x hpre hx)
    gi_wp2_with fail
    refine ⟨by simp, .inl ⟨_, _, rfl, run_takeDeferred hK, ?_⟩⟩
    have c1 := cell_kept hr1.cell (grownBy_putObj' _ D (.deferred none)) (fun r e => by cases e; exact ⟨_, hK, rfl⟩)
    have c2 := cell_kept hr2.cell (grownBy_putObj' _ D (.deferred none)) (fun r e => by cases e; exact ⟨_, hK, rfl⟩)
    refine ⟨.tuple #[.string ⟨#[]⟩, .bool false], by simp [results, Tryz.results119, go_sem, c1, c2], ?_, hB.trans (belowK_b (w := w) (Nat.le_refl _) _ D _ _ (by omega) hK rfl rfl)⟩
    rw [HF.out, HE.out]; rfl

end Go.Proofs.YtpoafhgbhnblmaaGreatDoor
namespace Go.Pub
end Go.Pub
namespace Go.Proofs.YtpoafhgbhnblmaaGreatDoor
open Go.RowKit Go.Pub
structure TwoBlk (w : World) (u v : Array Value) (wr : World) : Prop where
  b1 : Blk wr w.heap.size 43 u
  b2 : Blk wr (w.heap.size + 1) 43 v
  bel : Below w.heap.size w wr
theorem TwoBlk.drewN {w wr : World} {u v : Array Value} (h : TwoBlk w u v wr) (n : Nat) : TwoBlk w u v (wr.drewN n) := ⟨h.b1, h.b2, below_drewN h.bel n⟩
end Go.Proofs.YtpoafhgbhnblmaaGreatDoor
namespace Go.Proofs.YtpoafhgbhnblmaaGreatDoor
open Go.RowKit Go.Pub
theorem OwnA.setId {w : World} {base : Nat} {a : AttrL} {vC vP : Value} (h : OwnA w base a vC vP) (x : ByteArray) : OwnA w base { a with id := x } vC vP := ⟨h.cls, h.prs, h.le, h.c32, h.p32⟩
end Go.Proofs.YtpoafhgbhnblmaaGreatDoor
namespace Go.Proofs.YtpoafhgbhnblmaaGreatDoor
open Go.RowKit Go.Pub
theorem head_kind {c : ByteArray} {m : MkL} (h : headM c = some m) : m.kind = 2 := by
  unfold headM at h
  split at h
  · split at h
    · injection h with h; subst h; rfl
    · cases h
  · cases h
theorem rule_kind {c : ByteArray} {m : MkL} (h : ruleM c = some m) : m.kind = 3 := by
  unfold ruleM at h
  split at h
  · split at h
    · injection h with h; subst h; rfl
    · cases h
  · cases h
theorem quote_some {c : ByteArray} {ind : Nat} {m : MkL} (h : quoteM c ind = some m) : bt c 0 = 62 ∧ m = { kind := 4, off := ind + c.size - (stripB (tl1 c) 1).size, rest := stripB (tl1 c) 1 } := by
  unfold quoteM at h
  split at h
  · rename_i h0; injection h with h; exact ⟨h0, h.symm⟩
  · cases h
theorem bullet_some {c : ByteArray} {ind : Nat} {m : MkL} (h : bulletM c ind = some m) : m = { kind := 5, ch := c.extract 0 1, off := ind + 2, rest := tl1 (tl1 c) } := by
  unfold bulletM at h
  split at h
  · split at h
    · injection h with h; exact h.symm
    · cases h
  · cases h
theorem number_some {c : ByteArray} {ind : Nat} {m : MkL} (h : numberM c ind = some m) : ∃ k v, m = { kind := 6, n := v, ch := c.extract k (k + 1), off := ind + k + 2, info := c.extract 0 k, rest := tl1 (c.extract (k + 1) c.size) } := by
  unfold numberM numR at h
  split at h
  · split at h
    · injection h with h; exact ⟨_, _, h.symm⟩
    · cases h
  · cases h
theorem fence_some {c : ByteArray} {ind : Nat} {m : MkL} (h : fenceM c ind = some m) : m.kind = 7 := by
  unfold fenceM at h
  split at h
  · split at h
    · injection h with h; subst h; rfl
    · cases h
  · cases h
theorem math_kind {c : ByteArray} {m : MkL} (h : mathM c = some m) : m.kind = 8 := by
  unfold mathM at h
  split at h
  · injection h with h; subst h; rfl
  · cases h
theorem div_kind {c : ByteArray} {m : MkL} (h : divM c = some m) : m.kind = 9 := by
  unfold divM divT at h
  split at h
  · split at h
    · generalize onlyR _ = o at h
      cases o with
      | none => cases h
      | some a => injection h with h; subst h; rfl
    · cases h
  · cases h
theorem note_some {c : ByteArray} {m : MkL} (h : noteM c = some m) : cutB (c.extract 2 c.size) = true ∧ m = { kind := 10, info := cutHead (c.extract 2 c.size), off := 4, rest := stripB (tl1 (cutRest (c.extract 2 c.size))) 1 } := by
  unfold noteM noteX at h
  split at h
  · split at h
    · rename_i h0; injection h with h; exact ⟨h0.1, h.symm⟩
    · cases h
  · cases h
theorem defTitle_kind {L : ByteArray} {d : List UInt8} {A : ByteArray} {n : Nat} {m : MkL} (h : defTitle L d A n = some m) : m.kind = 11 := by
  unfold defTitle at h
  by_cases h1 : A.size = 0
  · rw [if_pos h1] at h; injection h with h; rw [← h]
  rw [if_neg h1] at h
  by_cases h2 : A.size = n
  · rw [if_pos h2] at h; cases h
  rw [if_neg h2] at h
  generalize titleR A 0 = o at h
  cases o with
  | none => cases h
  | some p =>
    obtain ⟨t, q⟩ := p
    simp only at h
    by_cases h3 : blankB (A.extract q A.size) = true
    · rw [if_pos h3] at h; injection h with h; rw [← h]
    · rw [if_neg h3] at h; cases h
theorem defTail_kind {L r : ByteArray} {m : MkL} (h : defTail L r = some m) : m.kind = 11 := by
  unfold defTail at h
  generalize destR r 0 = o at h
  cases o with
  | none => cases h
  | some p => exact defTitle_kind h
theorem def_kind {c : ByteArray} {m : MkL} (h : defM c = some m) : m.kind = 11 := by
  unfold defM at h
  by_cases h1 : bt c 0 = 91 ∧ cutB (tl1 c) = true ∧ Lib.hasPrefix (bytesL (cutRest (tl1 c))) [58] = true ∧ labelL (bytesL (cutHead (tl1 c))) ≠ []
  · rw [if_pos h1] at h; exact defTail_kind h
  · rw [if_neg h1] at h; cases h
theorem first_mem : ∀ (l : List (Option MkL)) (m : MkL), firstS l = some m → some m ∈ l
  | some x :: l, m, h => by injection h with h; subst h; exact List.mem_cons_self ..
  | none :: l, m, h => List.mem_cons_of_mem _ (first_mem l m h)
theorem sfx_mk (c : ByteArray) (a b : Nat) : mk (sfx (mk (sfx c a)) b) = mk (sfx c (a + b)) := by
  unfold sfx; rw [bytesL_mk', List.drop_drop]
theorem tl1_sfx (x : ByteArray) : tl1 x = mk (sfx x 1) := extract_drop x 1
theorem strip_sfx (x : ByteArray) (n : Nat) : stripB x n = mk (sfx x (min n (indA x 0))) := extract_drop x _
/-- The rest of a mark is the end of its line. -/
def RestAt (c : ByteArray) (ind : Nat) (m : MkL) : Prop := m.kind = 4 ∨ m.kind = 5 ∨ m.kind = 6 ∨ m.kind = 10 → ∃ j, m.rest = mk (sfx c j) ∧ (m.kind = 10 → m.off = 4) ∧ (m.kind ≠ 10 → m.off = ind + j)
theorem rdrs_rest (c : ByteArray) (ind : Nat) (h0 : 0 < c.size) (m : MkL) (h : some m ∈ rdrs c ind) : RestAt c ind m := by
  unfold rdrs at h
  simp only [List.mem_cons, List.not_mem_nil, or_false] at h
  intro hk
  rcases h with h | h | h | h | h | h | h | h | h | h
  · have := head_kind h.symm; omega
  · have := rule_kind h.symm; omega
  · obtain ⟨hq, rfl⟩ := quote_some h.symm
    have e : stripB (tl1 c) 1 = mk (sfx c (1 + min 1 (indA (tl1 c) 0))) := by rw [strip_sfx, tl1_sfx, sfx_mk, ← tl1_sfx]
    refine ⟨1 + min 1 (indA (tl1 c) 0), e, (fun h => by cases h), fun _ => ?_⟩
    have h1 := indA_le (tl1 c)
    have h2 := tl1_size c
    show ind + c.size - (stripB (tl1 c) 1).size = _
    rw [e, mk_size, sfx_len]
    omega
  · have := bullet_some h.symm
    subst this
    exact ⟨2, by show tl1 (tl1 c) = _; rw [tl1_sfx, tl1_sfx, sfx_mk], (fun h => by cases h), fun _ => rfl⟩
  · obtain ⟨k, v, rfl⟩ := number_some h.symm
    refine ⟨k + 2, ?_, (fun h => by cases h), fun _ => ?_⟩
    · show tl1 (c.extract (k + 1) c.size) = _
      rw [extract_drop, tl1_sfx, sfx_mk]
    · show ind + k + 2 = _; omega
  · have := fence_some h.symm; omega
  · have := math_kind h.symm; omega
  · have := div_kind h.symm; omega
  · obtain ⟨hc, rfl⟩ := note_some h.symm
    unfold cutB at hc
    have hc := of_decide_eq_true hc
    refine ⟨2 + (brk (bytesL (c.extract 2 c.size)) + 1) + (1 + min 1 (indA (tl1 (cutRest (c.extract 2 c.size))) 0)), ?_, fun _ => rfl, fun h => absurd rfl h⟩
    show stripB (tl1 (cutRest (c.extract 2 c.size))) 1 = _
    rw [strip_sfx]
    generalize min 1 (indA (tl1 (cutRest (c.extract 2 c.size))) 0) = q
    have e : cutRest (c.extract 2 c.size) = mk (sfx c (2 + (brk (bytesL (c.extract 2 c.size)) + 1))) := by
      unfold cutRest
      rw [if_pos hc, extract_drop, extract_drop, sfx_mk]
    rw [e, tl1_sfx, sfx_mk, sfx_mk]
  · have := def_kind h.symm; omega
theorem mark_rest (s : ByteArray) (hk : (markM s).kind = 4 ∨ (markM s).kind = 5 ∨ (markM s).kind = 6 ∨ (markM s).kind = 10) :
    (markM s).rest.size ≤ s.size ∧ s.extract (s.size - (markM s).rest.size) s.size = (markM s).rest ∧ ((markM s).kind = 10 → (markM s).off = 4) ∧ ((markM s).kind ≠ 10 → s.size - (markM s).rest.size = (markM s).off ∨ (markM s).rest.size = 0 ∧ s.size - (markM s).rest.size ≤ (markM s).off) := by
  have hR : (0 < (s.extract (indA s 0) s.size).size ∧ some (markM s) ∈ rdrs (s.extract (indA s 0) s.size) (indA s 0)) := by
    unfold markM at hk ⊢
    by_cases hb : blankB s = true
    · rw [if_pos hb] at hk
      have : (1 : Nat) = 4 ∨ (1 : Nat) = 5 ∨ (1 : Nat) = 6 ∨ (1 : Nat) = 10 := hk
      omega
    · rw [if_neg hb] at hk ⊢
      unfold markC at hk ⊢
      by_cases h3 : 3 < indA s 0
      · rw [if_pos h3] at hk
        have : (0 : Nat) = 4 ∨ (0 : Nat) = 5 ∨ (0 : Nat) = 6 ∨ (0 : Nat) = 10 := hk
        omega
      · rw [if_neg h3] at hk ⊢
        have h1 := indA_le s
        have h2 : indA s 0 ≠ s.size := fun e => hb (by unfold blankB; exact decide_eq_true e)
        refine ⟨by rw [ByteArray.size_extract]; omega, ?_⟩
        cases hf : firstS (rdrs (s.extract (indA s 0) s.size) (indA s 0)) with
        | none =>
          rw [hf] at hk
          have : (0 : Nat) = 4 ∨ (0 : Nat) = 5 ∨ (0 : Nat) = 6 ∨ (0 : Nat) = 10 := hk
          omega
        | some m => exact first_mem _ _ hf
  obtain ⟨h0, hm⟩ := hR
  obtain ⟨j, e1, e2, e3⟩ := rdrs_rest _ _ h0 _ hm hk
  have e4 : (markM s).rest = mk (sfx s (indA s 0 + j)) := by rw [e1, extract_drop, sfx_mk]
  have hz : (markM s).rest.size = s.size - (indA s 0 + j) := by rw [e4, mk_size, sfx_len]
  refine ⟨by omega, ?_, e2, fun h => ?_⟩
  · rw [hz, extract_drop, e4]
    rcases Nat.le_total (indA s 0 + j) s.size with h | h
    · rw [show s.size - (s.size - (indA s 0 + j)) = indA s 0 + j by omega]
    · rw [sfx_nil s _ h, sfx_nil s _ (by omega)]
  · have := e3 h
    omega
end Go.Proofs.YtpoafhgbhnblmaaGreatDoor
namespace Go.Proofs.YtpoafhgbhnblmaaGreatDoor
open Go.RowKit Go.Pub
def SmallA (n : Nat) (a : AttrL) : Prop := a.id.size ≤ n ∧ (∀ x ∈ a.cl, x.size ≤ n) ∧ (∀ p ∈ a.pr, p.1.size ≤ n ∧ p.2.size ≤ n)
theorem extract_le (s : ByteArray) (i j : Nat) : (s.extract i j).size ≤ s.size := by rw [ByteArray.size_extract]; omega
theorem valL_small (s : ByteArray) (i : Nat) : (valL s i).1.size ≤ s.size := by
  unfold valL
  split
  · cases hq : qv s s.size (i + 1) [] with
    | none => exact Nat.zero_le _
    | some p =>
      obtain ⟨l, j⟩ := p
      have := (qv_len s _ _ _ l j hq).1
      show (mk l).size ≤ _
      rw [← bytesL_length, bytesL_mk']
      simp at this
      omega
  · exact extract_le _ _ _
theorem classA_small (n : Nat) (a : AttrL) (x : ByteArray) (h : SmallA n a) (hx : x.size ≤ n) : SmallA n (classA a x) := by
  unfold classA
  split
  · refine ⟨h.1, fun y hy => ?_, h.2.2⟩
    rcases List.mem_append.1 hy with hy | hy
    · exact h.2.1 y hy
    · simp at hy; subst hy; exact hx
  · exact h
theorem pairA_small (n : Nat) (a : AttrL) (x y : ByteArray) (h : SmallA n a) (hx : x.size ≤ n) (hy : y.size ≤ n) : SmallA n (pairA a x y) := by
  unfold pairA
  split
  · refine ⟨h.1, h.2.1, fun p hp => ?_⟩
    rcases List.mem_append.1 hp with hp | hp
    · exact h.2.2 p hp
    · simp at hp; subst hp; exact ⟨hx, hy⟩
  · exact h
theorem itemL_small (s : ByteArray) (a : AttrL) (i : Nat) (h : SmallA s.size a) : SmallA s.size (itemL a s i).2.2 := by
  unfold itemL
  split
  · split
    · split
      · exact ⟨extract_le _ _ _, h.2.1, h.2.2⟩
      · exact h
    · exact h
  · split
    · split
      · exact classA_small _ _ _ h (extract_le _ _ _)
      · exact h
    · split
      · unfold pairItem
        split
        · split
          · exact pairA_small _ _ _ _ h (extract_le _ _ _) (valL_small _ _)
          · exact h
        · exact h
      · exact h
theorem emptyA_small (n : Nat) : SmallA n emptyA := ⟨Nat.zero_le _, fun x hx => absurd hx (by simp [emptyA]), fun x hx => absurd hx (by simp [emptyA])⟩
theorem parseF_small (s : ByteArray) : ∀ f i b a, SmallA s.size a → SmallA s.size (parseF s f i b a).1
  | 0, _, _, _, _ => emptyA_small _
  | f + 1, i, b, a, h => by
    unfold parseF
    split
    · split
      · exact h
      · split
        · exact emptyA_small _
        · split
          · exact parseF_small s f _ _ _ (itemL_small s a i h)
          · exact emptyA_small _
    · exact emptyA_small _
theorem parseL_small (s : ByteArray) (i : Int) : SmallA s.size (parseL s i).1 := by
  unfold parseL
  split
  · exact parseF_small s _ _ _ _ (emptyA_small _)
  · exact emptyA_small _
end Go.Proofs.YtpoafhgbhnblmaaGreatDoor
namespace Go.Proofs.YtpoafhgbhnblmaaGreatDoor
open Go.RowKit Go.Pub
def optA : Option AttrL → AttrL × Bool
  | some a => (a, true)
  | none => (emptyA, false)
def closeD (c : ByteArray) (K N : Int) (ch : ByteArray) : AttrL × Bool :=
  if K = 7 then (emptyA, decide (ch.size = 1 ∧ 1 ≤ N) && (decide (N ≤ (firstN c (· != bt ch 0) : Int)) && blankB (c.extract (firstN c (· != bt ch 0)) c.size)))
  else if K = 8 then (if Lib.hasPrefix (bytesL c) [36, 36] = true then optA (onlyR (c.extract 2 c.size)) else (emptyA, false))
  else if K = 9 then (emptyA, decide (1 ≤ N) && (decide ((firstN c (· != 58) : Int) = N) && blankB (c.extract (firstN c (· != 58)) c.size)))
  else (emptyA, false)
def closesM (s : ByteArray) (K N : Int) (ch : ByteArray) : AttrL × Bool := if 3 < indA s 0 then (emptyA, false) else closeD (s.extract (indA s 0) s.size) K N ch
/-- Attributes and whether a line closes are handed back. -/
def ClPost (r : AttrL × Bool) (w : World) (e : Ending) (w' : World) : Prop := (∃ vC vP, e = .returned (.tuple #[.agg #[.string r.1.id, vC, vP], .bool r.2]) ∧ OwnA w' w.heap.size r.1 vC vP) ∧ Below w.heap.size w w'
theorem small_mono {n m : Nat} {a : AttrL} (h : SmallA n a) (hn : n ≤ m) : SmallA m a := ⟨Nat.le_trans h.1 hn, fun x hx => Nat.le_trans (h.2.1 x hx) hn, fun p hp => ⟨Nat.le_trans (h.2.2 p hp).1 hn, Nat.le_trans (h.2.2 p hp).2 hn⟩⟩
theorem onlyR_small (s : ByteArray) (a : AttrL) (h : onlyR s = some a) : SmallA s.size a := by
  have hz : (mk (trimS (bytesL s))).size ≤ s.size := by rw [mk_size]; have := trimS_len (bytesL s); rwa [bytesL_length] at this
  unfold onlyR at h
  split at h
  · injection h with h; subst h; exact emptyA_small _
  · split at h
    · injection h with h; subst h; exact small_mono (parseL_small _ _) hz
    · cases h
end Go.Proofs.YtpoafhgbhnblmaaGreatDoor
namespace Go.Proofs.YtpoafhgbhnblmaaGreatDoor
open Go.RowKit Go.Pub
theorem attrEnd_small (s : ByteArray) : SmallA s.size (attrEndR s).2 := by
  unfold attrEndR
  split
  · exact parseL_small s _
  · exact emptyA_small _
theorem mk_trim_le (s : ByteArray) (k : Nat) : (mk (trimS (sfx s k))).size ≤ s.size := by
  rw [mk_size]
  have h1 := trimS_len (sfx s k)
  rw [sfx_len] at h1
  omega
theorem head_small {c : ByteArray} {m : MkL} (h : headM c = some m) : SmallA c.size m.att ∧ m.off = 0 := by
  unfold headM at h
  generalize firstN c (· != 35) = n at h
  by_cases h1 : 1 ≤ n ∧ n ≤ 6
  · rw [if_pos h1] at h
    by_cases h2 : spB (c.extract n c.size) = true
    · rw [if_pos h2] at h
      injection h with h
      subst h
      exact ⟨small_mono (attrEnd_small _) (mk_trim_le c n), rfl⟩
    · rw [if_neg h2] at h; cases h
  · rw [if_neg h1] at h; cases h
theorem div_small {c : ByteArray} {m : MkL} (h : divM c = some m) : SmallA c.size m.att ∧ m.off = 0 := by
  unfold divM at h
  generalize firstN c (· != 58) = n at h
  by_cases h1 : 3 ≤ n
  · rw [if_pos h1] at h
    have hz := mk_trim_le c n
    generalize mk (trimS (sfx c n)) = T at h hz
    unfold divT at h
    by_cases h2 : nameB (T.extract 0 (nameN T)) = true
    · rw [if_pos h2] at h
      cases ho : onlyR (T.extract (nameN T) T.size) with
      | none => rw [ho] at h; cases h
      | some a =>
        rw [ho] at h
        injection h with h
        subst h
        exact ⟨small_mono (onlyR_small _ _ ho) (Nat.le_trans (extract_le _ _ _) hz), rfl⟩
    · rw [if_neg h2] at h; cases h
  · rw [if_neg h1] at h; cases h
theorem rule_small {c : ByteArray} {m : MkL} (h : ruleM c = some m) : m.att = emptyA ∧ m.off = 0 := by
  unfold ruleM at h
  split at h
  · split at h
    · injection h with h; subst h; exact ⟨rfl, rfl⟩
    · cases h
  · cases h
theorem fence_small {c : ByteArray} {ind : Nat} {m : MkL} (h : fenceM c ind = some m) : m.att = emptyA ∧ m.off = ind := by
  unfold fenceM at h
  split at h
  · split at h
    · injection h with h; subst h; exact ⟨rfl, rfl⟩
    · cases h
  · cases h
theorem math_small {c : ByteArray} {m : MkL} (h : mathM c = some m) : m.att = emptyA ∧ m.off = 0 := by
  unfold mathM at h
  split at h
  · injection h with h; subst h; exact ⟨rfl, rfl⟩
  · cases h
theorem defTitle_small {L : ByteArray} {d : List UInt8} {A : ByteArray} {n : Nat} {m : MkL} (h : defTitle L d A n = some m) : m.att = emptyA ∧ m.off = 0 := by
  unfold defTitle at h
  by_cases h1 : A.size = 0
  · rw [if_pos h1] at h; injection h with h; subst h; exact ⟨rfl, rfl⟩
  rw [if_neg h1] at h
  by_cases h2 : A.size = n
  · rw [if_pos h2] at h; cases h
  rw [if_neg h2] at h
  generalize titleR A 0 = o at h
  cases o with
  | none => cases h
  | some p =>
    obtain ⟨t, q⟩ := p
    simp only at h
    by_cases h3 : blankB (A.extract q A.size) = true
    · rw [if_pos h3] at h; injection h with h; subst h; exact ⟨rfl, rfl⟩
    · rw [if_neg h3] at h; cases h
theorem def_small {c : ByteArray} {m : MkL} (h : defM c = some m) : m.att = emptyA ∧ m.off = 0 := by
  unfold defM at h
  by_cases h1 : bt c 0 = 91 ∧ cutB (tl1 c) = true ∧ Lib.hasPrefix (bytesL (cutRest (tl1 c))) [58] = true ∧ labelL (bytesL (cutHead (tl1 c))) ≠ []
  · rw [if_pos h1] at h
    unfold defTail at h
    generalize destR _ 0 = o at h
    cases o with
    | none => cases h
    | some p => exact defTitle_small h
  · rw [if_neg h1] at h; cases h
theorem number_off {c : ByteArray} {ind : Nat} {m : MkL} (h : numberM c ind = some m) : m.att = emptyA ∧ m.off ≤ ind + 11 := by
  unfold numberM numR at h
  generalize numDig c = k at h
  generalize numVal c k = v at h
  by_cases h1 : (1 ≤ k ∧ k ≤ 9 ∧ k < c.size) ∧ (bt c k = 46 ∨ bt c k = 41)
  · rw [if_pos h1] at h
    by_cases h2 : spB (c.extract (k + 1) c.size) = true
    · rw [if_pos h2] at h
      injection h with h
      subst h
      exact ⟨rfl, by show ind + k + 2 ≤ _; omega⟩
    · rw [if_neg h2] at h; cases h
  · rw [if_neg h1] at h; cases h
theorem rdrs_small (c : ByteArray) (ind : Nat) (hi : ind ≤ 3) (m : MkL) (h : some m ∈ rdrs c ind) : SmallA c.size m.att ∧ m.off ≤ c.size + 14 := by
  have E : ∀ {n : Nat}, m.att = emptyA → SmallA n m.att := fun e => by rw [e]; exact emptyA_small _
  unfold rdrs at h
  simp only [List.mem_cons, List.not_mem_nil, or_false] at h
  rcases h with h | h | h | h | h | h | h | h | h | h
  · obtain ⟨h1, h2⟩ := head_small h.symm; exact ⟨h1, by omega⟩
  · obtain ⟨h1, h2⟩ := rule_small h.symm; exact ⟨E h1, by omega⟩
  · obtain ⟨_, rfl⟩ := quote_some h.symm; exact ⟨emptyA_small _, by show ind + c.size - _ ≤ _; omega⟩
  · have := bullet_some h.symm; subst this; exact ⟨emptyA_small _, by show ind + 2 ≤ _; omega⟩
  · obtain ⟨h1, h2⟩ := number_off h.symm; exact ⟨E h1, by omega⟩
  · obtain ⟨h1, h2⟩ := fence_small h.symm; exact ⟨E h1, by omega⟩
  · obtain ⟨h1, h2⟩ := math_small h.symm; exact ⟨E h1, by omega⟩
  · obtain ⟨h1, h2⟩ := div_small h.symm; exact ⟨h1, by omega⟩
  · obtain ⟨_, rfl⟩ := note_some h.symm; exact ⟨emptyA_small _, by show 4 ≤ _; omega⟩
  · obtain ⟨h1, h2⟩ := def_small h.symm; exact ⟨E h1, by omega⟩
theorem mark_small (s : ByteArray) : SmallA s.size (markM s).att ∧ (markM s).off ≤ s.size + 14 := by
  unfold markM
  by_cases hb : blankB s = true
  · rw [if_pos hb]; exact ⟨emptyA_small _, Nat.zero_le _⟩
  rw [if_neg hb]
  unfold markC
  by_cases h3 : 3 < indA s 0
  · rw [if_pos h3]; exact ⟨emptyA_small _, Nat.zero_le _⟩
  rw [if_neg h3]
  cases hf : firstS (rdrs (s.extract (indA s 0) s.size) (indA s 0)) with
  | none => exact ⟨emptyA_small _, Nat.zero_le _⟩
  | some m =>
    obtain ⟨h1, h2⟩ := rdrs_small _ _ (by omega) m (first_mem _ _ hf)
    have hz := extract_le s (indA s 0) s.size
    exact ⟨small_mono h1 hz, by show m.off ≤ _; omega⟩
end Go.Proofs.YtpoafhgbhnblmaaGreatDoor
namespace Go.Pub
open Go.RowKit
/-- The cells of a line. -/
def cellsB (l : List UInt8) : List ByteArray := (partsL l).map fun p => mk (cellL p)
theorem cellsB_strs (l : List UInt8) : ((partsL l).map fun p => Value.string (mk (cellL p))) = strs (cellsB l) := by unfold cellsB strs; rw [List.map_map]; rfl
theorem cellsB_len (l : List UInt8) : (cellsB l).length = (partsL l).length := by unfold cellsB; rw [List.length_map]
theorem partsL_pos (l : List UInt8) : 0 < (partsL l).length := List.length_pos_iff.2 (splitGo_ne _ _)
theorem partsL_len (l : List UInt8) : (partsL l).length ≤ l.length + 1 := by
  unfold partsL
  have h1 := splitGo_len (bytesL (coreB l)) false
  have h2 := coreB_size l
  rw [bytesL_length] at h1; omega
end Go.Pub
namespace Go.Proofs.YtpoafhgbhnblmaaGreatDoor
open Go.RowKit Go.Pub
def CellsPost (l : List UInt8) (w : World) (e : Ending) (W' : World) : Prop := ∃ A c, e = .returned (.slice A (cellsB l).length c) ∧ W'.ownsRow w.heap.size 9 1 (.slice A (cellsB l).length c) (cellsB l).length (strs (cellsB l)) ∧ Below w.heap.size w W'
theorem t_cellsP (s : ByteArray) (m : Int) (w : World) (hs : s.size ≤ 1000000) (hm : w.cell? ⟨0, 0, none⟩ = some (.int .i64 m)) : Calls Tryz.prog 120 #[.string s] w (CellsPost (bytesL s) w) := by
  refine (t_cells s m w hs hm).mono ?_
  rintro e W' ⟨v, rfl, hown, hb⟩
  rw [cellsB_strs, ← cellsB_len] at hown
  obtain ⟨A, c, rfl⟩ := own_slice hown
  exact ⟨A, c, rfl, hown, hb⟩
end Go.Proofs.YtpoafhgbhnblmaaGreatDoor
namespace Go.Proofs.YtpoafhgbhnblmaaGreatDoor
open Go.RowKit Go.Pub
theorem number_info {c : ByteArray} {ind : Nat} {m : MkL} (h : numberM c ind = some m) : m.info.size ≤ c.size := by
  unfold numberM numR at h
  generalize numDig c = k at h
  generalize numVal c k = v at h
  by_cases h1 : (1 ≤ k ∧ k ≤ 9 ∧ k < c.size) ∧ (bt c k = 46 ∨ bt c k = 41)
  · rw [if_pos h1] at h
    by_cases h2 : spB (c.extract (k + 1) c.size) = true
    · rw [if_pos h2] at h
      injection h with h
      subst h
      show (c.extract 0 k).size ≤ c.size
      rw [ByteArray.size_extract]; omega
    · rw [if_neg h2] at h; cases h
  · rw [if_neg h1] at h; cases h
theorem rdrs_info (c : ByteArray) (ind : Nat) (m : MkL) (h : some m ∈ rdrs c ind) (h6 : m.kind = 6) : m.info.size ≤ c.size := by
  unfold rdrs at h
  simp only [List.mem_cons, List.not_mem_nil, or_false] at h
  rcases h with h | h | h | h | h | h | h | h | h | h
  · have := head_kind h.symm; omega
  · have := rule_kind h.symm; omega
  · obtain ⟨_, rfl⟩ := quote_some h.symm; exact absurd h6 (by decide : (4 : Nat) ≠ 6)
  · have := bullet_some h.symm; subst this; exact absurd h6 (by decide : (5 : Nat) ≠ 6)
  · exact number_info h.symm
  · have := fence_some h.symm; omega
  · have := math_kind h.symm; omega
  · have := div_kind h.symm; omega
  · obtain ⟨_, rfl⟩ := note_some h.symm; exact absurd h6 (by decide : (10 : Nat) ≠ 6)
  · have := def_kind h.symm; omega
theorem mark_info (s : ByteArray) (h6 : (markM s).kind = 6) : (markM s).info.size ≤ s.size := by
  unfold markM at h6 ⊢
  by_cases hb : blankB s = true
  · rw [if_pos hb] at h6; exact absurd h6 (by decide : (1 : Nat) ≠ 6)
  rw [if_neg hb] at h6 ⊢
  unfold markC at h6 ⊢
  by_cases h3 : 3 < indA s 0
  · rw [if_pos h3] at h6; exact absurd h6 (by decide : (0 : Nat) ≠ 6)
  rw [if_neg h3] at h6 ⊢
  cases hf : firstS (rdrs (s.extract (indA s 0) s.size) (indA s 0)) with
  | none => rw [hf] at h6; exact absurd h6 (by decide : (0 : Nat) ≠ 6)
  | some m =>
    rw [hf] at h6
    exact Nat.le_trans (rdrs_info _ _ m (first_mem _ _ hf) h6) (extract_le s (indA s 0) s.size)
theorem mkpost_val {m : MkL} {w w' : World} {e : Ending} (h : MkPost m w e w') : ∃ A c D d, e = .returned (.agg (m.cells (.slice A m.att.cl.length c) (.slice D m.att.pr.length d))) ∧ Below w.heap.size w w' := by
  obtain ⟨⟨_, rfl, C, P, rfl, o⟩, b⟩ := h
  obtain ⟨A, c, rfl⟩ := own_slice o.cls
  obtain ⟨D, d, rfl⟩ := own_slice o.prs
  exact ⟨A, c, D, d, rfl, b⟩
theorem number_kind {c : ByteArray} {ind : Nat} {m : MkL} (h : numberM c ind = some m) : m.kind = 6 := by
  unfold numberM numR at h
  generalize numDig c = k at h
  generalize numVal c k = v at h
  by_cases h1 : (1 ≤ k ∧ k ≤ 9 ∧ k < c.size) ∧ (bt c k = 46 ∨ bt c k = 41)
  · rw [if_pos h1] at h
    by_cases h2 : spB (c.extract (k + 1) c.size) = true
    · rw [if_pos h2] at h
      injection h with h
      subst h
      rfl
    · rw [if_neg h2] at h; cases h
  · rw [if_neg h1] at h; cases h
theorem rdrs_kind (c : ByteArray) (ind : Nat) (m : MkL) (h : some m ∈ rdrs c ind) : 2 ≤ m.kind ∧ m.kind ≤ 11 := by
  unfold rdrs at h
  simp only [List.mem_cons, List.not_mem_nil, or_false] at h
  rcases h with h | h | h | h | h | h | h | h | h | h
  · have := head_kind h.symm; omega
  · have := rule_kind h.symm; omega
  · obtain ⟨_, rfl⟩ := quote_some h.symm; exact (by decide : 2 ≤ (4 : Nat) ∧ (4 : Nat) ≤ 11)
  · have := bullet_some h.symm; subst this; exact (by decide : 2 ≤ (5 : Nat) ∧ (5 : Nat) ≤ 11)
  · have := number_kind h.symm; omega
  · have := fence_some h.symm; omega
  · have := math_kind h.symm; omega
  · have := div_kind h.symm; omega
  · obtain ⟨_, rfl⟩ := note_some h.symm; exact (by decide : 2 ≤ (10 : Nat) ∧ (10 : Nat) ≤ 11)
  · have := def_kind h.symm; omega
theorem mark_kinds (s : ByteArray) : (blankB s = true → (markM s).kind = 1) ∧ (blankB s = false → (markM s).kind = 0 ∨ 2 ≤ (markM s).kind ∧ (markM s).kind ≤ 11) := by
  unfold markM
  refine ⟨fun h => by rw [if_pos h], fun h => ?_⟩
  rw [if_neg (by rw [h]; exact Bool.false_ne_true)]
  unfold markC
  by_cases h3 : 3 < indA s 0
  · rw [if_pos h3]; exact .inl rfl
  rw [if_neg h3]
  cases hf : firstS (rdrs (s.extract (indA s 0) s.size) (indA s 0)) with
  | none => exact .inl rfl
  | some m => exact .inr (rdrs_kind _ _ m (first_mem _ _ hf))
end Go.Proofs.YtpoafhgbhnblmaaGreatDoor
namespace Go.Pub
open Go.RowKit
/-- Whether two lines begin a table. -/
def headB (a b : List UInt8) : Bool := match alignR b with | none => false | some r => (cellsB a).length == r.length
theorem reads_block {w : World} {g : Nat} {t : TypeId} {zs : List ByteArray} (h : w.heap[g]? = some (.cells (strs zs).toArray t (0, 0))) : Reads w (g + 1) 1 (some ⟨g, 0, none⟩) zs.length (strs zs) := by
  refine ⟨by rw [strs_len]; omega, fun hn => ⟨_, rfl, by show g < g + 1; omega, fun j u hj => ?_⟩⟩
  have := cell_of_row w g j _ t (0, 0) h
  unfold Addr.add
  by_cases h0 : j = 0
  · subst h0; rw [if_pos rfl, this]; simpa using hj
  · rw [if_neg h0]
    show w.cell? ⟨g, 0 + j, none⟩ = _
    rw [Nat.zero_add, this]; simpa using hj
theorem alnR_len {l r : List UInt8} (h : alignR l = some r) : r.length ≤ 32 := by
  unfold alignR at h
  split at h
  · unfold alnL at h
    split at h
    · rename_i hh
      simp only [Option.some.injEq] at h
      subst h
      have hg : ∀ p ∈ partsL l, letP p ≠ [] := fun p hp e => by
        have := List.all_eq_true.1 hh.2 p hp
        rw [e] at this
        cases this
      rw [flat_len _ hg]; exact hh.1
    · simp at h
  · simp at h
end Go.Pub
namespace Go.Proofs.YtpoafhgbhnblmaaGreatDoor
open Go.RowKit Go.Pub
set_option maxRecDepth 100000 in
set_option maxHeartbeats 1000000 in
theorem t_head (a b : ByteArray) (m : Int) (w : World) (ha : a.size ≤ 1000000) (hb : b.size ≤ 1000000) (hm : w.cell? ⟨0, 0, none⟩ = some (.int .i64 m)) :
    Calls Tryz.prog 77 #[.string a, .string b] w fun e w' => e = .returned (.bool (headB (bytesL a) (bytesL b))) ∧ Below w.heap.size w w' := by
  have h0w : 0 < w.heap.size := World.block_lt_of_cell? _ _ hm
  have HA := Lib.hid fun W => t_align b W hb
  have HC := Lib.hid fun W (h : W.cell? ⟨0, 0, none⟩ = some (.int .i64 m)) => t_cellsP a m W ha h
  have HX : Hid (headB (bytesL a) (bytesL b) = match alignR (bytesL b) with | none => false | some r => (cellsB (bytesL a)).length == r.length) := Lib.hid rfl
  have hcl : (cellsB (bytesL a)).length ≤ 1000001 := by rw [cellsB_len]; have := partsL_len (bytesL a); rw [bytesL_length] at this; omega
  have HL : Hid (∀ r, alignR (bytesL b) = some r → r.length ≤ 32) := Lib.hid fun r h => alnR_len h
  unfold CellsPost at HC
  generalize headB (bytesL a) (bytesL b) = R at *
  generalize cellsB (bytesL a) = zs at *
  generalize alignR (bytesL b) = D at *
  cases D with
  | none =>
    have HF : Hid (R = false) := Lib.hid HX.out
    go_enter Tryz.func77, Tryz.ntmps77
    go_wp2_with fail
    ((with_reducible refine (HA.out _).mono ?_))
    rintro e w1 ⟨he, b1⟩
    dsimp only [alnVal] at he
    subst he
    go_wp2_with fail
    go_ret
    exact ⟨ret_bool HF.out.symm, b1⟩
  | some r =>
    have hrl := HL.out r rfl
    have HF : Hid (R = ((zs.length : Int) == ((mk r).size : Int))) := Lib.hid (by
      rw [HX.out, mk_size, Bool.eq_iff_iff]; simp only [beq_iff_eq]; omega)
    have hms : (mk r).size ≤ 32 := by rw [mk_size]; exact hrl
    go_enter Tryz.func77, Tryz.ntmps77
    go_wp2_with fail
    ((with_reducible refine (HA.out _).mono ?_))
    rintro e w1 ⟨he, b1⟩
    dsimp only [alnVal] at he
    subst he
    have hm1 : w1.cell? ⟨0, 0, none⟩ = some (.int .i64 m) := (b1.cell (p := ⟨0, 0, none⟩) h0w).trans hm
    have hz1 := b1.size
    go_wp2_with fail
    ((with_reducible refine (HC.out _ hm1).mono ?_))
    rintro e w2 ⟨A, c, rfl, hown, b2⟩
    clear hown
    go_wp2_with fail
    go_ret
    exact ⟨ret_bool HF.out.symm, b1.trans (b2.mono hz1)⟩

end Go.Proofs.YtpoafhgbhnblmaaGreatDoor
namespace Go.Proofs.YtpoafhgbhnblmaaGreatDoor
open Go.RowKit Go.Pub
/-- A block: its line is a source text. -/
inductive BkT where
  | mk (kind level : Nat) (info text dest title : ByteArray) (att : AttrL) (line : ByteArray) (kids : List BkT)
/-- A leaf of a kind, or a block that only holds others. -/
def kidB (kind : Nat) (kids : List BkT) : BkT := .mk kind 0 ⟨#[]⟩ ⟨#[]⟩ ⟨#[]⟩ ⟨#[]⟩ emptyA ⟨#[]⟩ kids
def leafB (kind : Nat) (line : ByteArray) : BkT := .mk kind 0 ⟨#[]⟩ ⟨#[]⟩ ⟨#[]⟩ ⟨#[]⟩ emptyA line []
/-- Line number i. -/
def ln (zs : List ByteArray) (i : Nat) : ByteArray := zs.getD i ⟨#[]⟩
theorem ln_at (zs : List ByteArray) (i : Nat) (h : i < zs.length) : zs[i] = ln zs i := by
  unfold ln; rw [List.getD_eq_getElem?_getD, List.getElem?_eq_getElem h]; rfl
/-- The first index from i on, below n, that p holds of; or n. -/
def seekF (p : Nat → Bool) : Nat → Nat → Nat
  | 0, i => i
  | d + 1, i => if p i = true then i else seekF p d (i + 1)
def seek (p : Nat → Bool) (n i : Nat) : Nat := seekF p (n - i) i
theorem seekF_spec (p : Nat → Bool) : ∀ (d i : Nat), i ≤ seekF p d i ∧ seekF p d i ≤ i + d ∧ (∀ j, i ≤ j → j < seekF p d i → p j = false) ∧ (seekF p d i < i + d → p (seekF p d i) = true)
  | 0, i => ⟨Nat.le_refl _, Nat.le_refl _, fun j h1 h2 => absurd h2 (by show ¬ j < i; omega), fun h => absurd h (by show ¬ i < i + 0; omega)⟩
  | d + 1, i => by
    unfold seekF
    by_cases h : p i = true
    · rw [if_pos h]
      exact ⟨Nat.le_refl _, by omega, fun j h1 h2 => absurd h2 (by omega), fun _ => h⟩
    · rw [if_neg h]
      obtain ⟨h1, h2, h3, h4⟩ := seekF_spec p d (i + 1)
      refine ⟨by omega, by omega, fun j hj1 hj2 => ?_, fun hlt => h4 (by omega)⟩
      by_cases e : j = i
      · subst e; simpa using h
      · exact h3 j (by omega) hj2
theorem seek_spec (p : Nat → Bool) (n i : Nat) (hi : i ≤ n) : i ≤ seek p n i ∧ seek p n i ≤ n ∧ (∀ j, i ≤ j → j < seek p n i → p j = false) ∧ (seek p n i < n → p (seek p n i) = true) := by
  obtain ⟨h1, h2, h3, h4⟩ := seekF_spec p (n - i) i
  exact ⟨h1, by unfold seek; omega, h3, fun h => h4 (by unfold seek at h; omega)⟩
/-- It is the only one. -/
theorem seek_eq (p : Nat → Bool) (n i k : Nat) (hi : i ≤ k) (hk : k ≤ n) (hno : ∀ j, i ≤ j → j < k → p j = false) (hit : k < n → p k = true) : seek p n i = k := by
  obtain ⟨h1, h2, h3, h4⟩ := seek_spec p n i (by omega)
  rcases Nat.lt_trichotomy (seek p n i) k with h | h | h
  · have a := h4 (by omega)
    rw [hno _ h1 h] at a; cases a
  · exact h
  · have a := hit (by omega)
    rw [h3 k hi h] at a; cases a
/-- One behind the last index in [i, i + d) that q holds of; or i. -/
def lastN (q : Nat → Bool) (i : Nat) : Nat → Nat
  | 0 => i
  | d + 1 => if q (i + d) = true then i + d + 1 else lastN q i d
theorem lastN_le (q : Nat → Bool) (i : Nat) : ∀ d, i ≤ lastN q i d ∧ lastN q i d ≤ i + d
  | 0 => ⟨Nat.le_refl _, Nat.le_refl _⟩
  | d + 1 => by
    unfold lastN
    have := lastN_le q i d
    by_cases h : q (i + d) = true
    · rw [if_pos h]; omega
    · rw [if_neg h]; omega
/-- The lines from i to k. -/
def cutL (zs : List ByteArray) (i k : Nat) : List ByteArray := (zs.drop i).take (k - i)
theorem cutL_len (zs : List ByteArray) (i k : Nat) (h : i ≤ k) (hk : k ≤ zs.length) : (cutL zs i k).length = k - i := by
  unfold cutL; rw [List.length_take, List.length_drop]; omega
theorem ln_cut (zs : List ByteArray) (i k j : Nat) (hj : i + j < k) : ln (cutL zs i k) j = ln zs (i + j) := by
  unfold ln cutL
  rw [List.getD_eq_getElem?_getD, List.getD_eq_getElem?_getD, List.getElem?_take, if_pos (by omega), List.getElem?_drop]
def kindOf (zs : List ByteArray) (i : Nat) : Nat := (markM (ln zs i)).kind
/-- The lines joined, each with a line feed. -/
def joinN (zs : List ByteArray) : List UInt8 := zs.flatMap fun z => bytesL z ++ [10]
/-- What closes the block of the mark m, from i on. -/
def closeP (zs : List ByteArray) (m : MkL) (j : Nat) : Bool := (closesM (ln zs j) m.kind m.n m.ch).2
def closeI (zs : List ByteArray) (m : MkL) (i : Nat) : Nat := seek (closeP zs m) zs.length i
def closeA (zs : List ByteArray) (m : MkL) (i : Nat) : AttrL := if closeI zs m i < zs.length then (closesM (ln zs (closeI zs m i)) m.kind m.n m.ch).1 else emptyA
/-- The content of an item or note. -/
def contStop (zs : List ByteArray) (m : MkL) (j : Nat) : Bool := !blankB (ln zs j) && decide (indA (ln zs j) 0 < m.off)
def contTo (zs : List ByteArray) (i : Nat) (m : MkL) : Nat := lastN (fun j => !blankB (ln zs j)) (i + 1) (seek (contStop zs m) zs.length (i + 1) - (i + 1))
def contNo (zs : List ByteArray) (i : Nat) (m : MkL) : Bool := blankB m.rest && (decide (zs.length ≤ i + 1) || blankB (ln zs (i + 1)))
def contL (zs : List ByteArray) (i : Nat) (m : MkL) : List ByteArray × Nat :=
  if contNo zs i m = true then ([], i + 1) else (m.rest :: (cutL zs (i + 1) (contTo zs i m)).map fun z => stripB z m.off, contTo zs i m)
/-- Quotations. -/
def quoteTo (zs : List ByteArray) (i : Nat) : Nat := seek (fun j => !decide (kindOf zs j = 4)) zs.length i
def quoteIn (zs : List ByteArray) (i : Nat) : List ByteArray := (cutL zs i (quoteTo zs i)).map fun z => (markM z).rest
/-- Tables. -/
def headAt (zs : List ByteArray) (i : Nat) : Bool := decide (i + 1 < zs.length) && headB (bytesL (ln zs i)) (bytesL (ln zs (i + 1)))
def rowT (z : ByteArray) (n : Nat) : BkT := kidB 11 ((fitL (cellsB (bytesL z)) n).map (leafB 12))
def tableTo (zs : List ByteArray) (i : Nat) : Nat := seek (fun j => !decide (kindOf zs j = 0)) zs.length (i + 2)
def tableB (zs : List ByteArray) (i : Nat) (r : List UInt8) : BkT := .mk 10 0 (mk r) ⟨#[]⟩ ⟨#[]⟩ ⟨#[]⟩ emptyA ⟨#[]⟩ (rowT (ln zs i) r.length :: (cutL zs (i + 2) (tableTo zs i)).map fun z => rowT z r.length)
/-- Paragraphs. -/
def paraTo (zs : List ByteArray) (i : Nat) : Nat := seek (fun j => !decide (kindOf zs j = 0) || headAt zs j) zs.length (i + 1)
def paraB (zs : List ByteArray) (i : Nat) : BkT := leafB 1 (mk (joinL ⟨#[10]⟩ ((cutL zs i (paraTo zs i)).map fun z => mk (trimS (bytesL z)))))
/-- Lists: rec gives the blocks of an item's lines. -/
def nextNB (zs : List ByteArray) (i : Nat) : Nat := seek (fun j => !blankB (ln zs j)) zs.length i
def itemsF (rec : List ByteArray → Option (List BkT)) (zs : List ByteArray) : Nat → Nat → MkL → Option (List BkT × Nat)
  | 0, _, _ => none
  | f + 1, i, m =>
    match rec (contL zs i m).1 with
    | none => none
    | some kids =>
      if nextNB zs (contL zs i m).2 < zs.length ∧ sameR m (markM (ln zs (nextNB zs (contL zs i m).2))) = true then
        (itemsF rec zs f (nextNB zs (contL zs i m).2) (markM (ln zs (nextNB zs (contL zs i m).2)))).map fun r => (kidB 9 kids :: r.1, r.2)
      else some ([kidB 9 kids], (contL zs i m).2)
def listB (m : MkL) (kids : List BkT) : BkT := .mk (if m.kind = 6 then 8 else 7) (if m.kind = 6 then m.n else 0) ⟨#[]⟩ ⟨#[]⟩ ⟨#[]⟩ ⟨#[]⟩ emptyA ⟨#[]⟩ kids
/-- The block that begins on line i with the mark m, and the line behind it: rec1 one level deeper, rec2 two levels; d2, d3: whether two, three are left. -/
def blockT (rec1 rec2 : List ByteArray → Option (List BkT)) (d2 d3 : Bool) (zs : List ByteArray) (i : Nat) (m : MkL) : Option (BkT × Nat) :=
  if m.kind = 2 then some (.mk 2 m.n ⟨#[]⟩ ⟨#[]⟩ ⟨#[]⟩ ⟨#[]⟩ m.att m.rest [], i + 1)
  else if m.kind = 3 then some (kidB 5 [], i + 1)
  else if m.kind = 11 then some (.mk 15 0 m.info ⟨#[]⟩ m.dest m.title emptyA ⟨#[]⟩ [], i + 1)
  else if m.kind = 4 then (rec1 (quoteIn zs i)).map fun k => (kidB 6 k, quoteTo zs i)
  else if m.kind = 7 then some (.mk 3 0 m.info (mk (joinN ((cutL zs (i + 1) (closeI zs m (i + 1))).map fun z => stripB z m.off))) ⟨#[]⟩ ⟨#[]⟩ emptyA ⟨#[]⟩ [], min (closeI zs m (i + 1) + 1) zs.length)
  else if m.kind = 8 then some (.mk 4 0 ⟨#[]⟩ (mk (joinN (cutL zs (i + 1) (closeI zs m (i + 1))))) ⟨#[]⟩ ⟨#[]⟩ (closeA zs m (i + 1)) ⟨#[]⟩ [], min (closeI zs m (i + 1) + 1) zs.length)
  else if m.kind = 9 then (rec1 (cutL zs (i + 1) (closeI zs m (i + 1)))).map fun k => (.mk 13 0 m.info ⟨#[]⟩ ⟨#[]⟩ ⟨#[]⟩ m.att ⟨#[]⟩ k, min (closeI zs m (i + 1) + 1) zs.length)
  else if m.kind = 10 then (rec1 (contL zs i m).1).map fun k => (.mk 14 0 m.info ⟨#[]⟩ ⟨#[]⟩ ⟨#[]⟩ emptyA ⟨#[]⟩ k, (contL zs i m).2)
  else if m.kind = 5 ∨ m.kind = 6 then (if d2 = true then (itemsF rec2 zs (zs.length - i) i m).map fun r => (listB m r.1, r.2) else none)
  else if headAt zs i = true then (if d3 = true then some (tableB zs i ((alignR (bytesL (ln zs (i + 1)))).getD []), tableTo zs i) else none)
  else some (paraB zs i, paraTo zs i)
/-- The loop over the lines; f: rounds that are left. -/
def loopT (at_ : Nat → MkL → Option (BkT × Nat)) (zs : List ByteArray) : Nat → Nat → Option (List BkT × List (Nat × Nat))
  | 0, _ => some ([], [])
  | f + 1, i =>
    if zs.length ≤ i then some ([], [])
    else if blankB (ln zs i) = true then loopT at_ zs f (i + 1)
    else match at_ i (markM (ln zs i)) with
      | none => none
      | some (b, tq) => (loopT at_ zs f tq).map fun r => (b :: r.1, (i, tq) :: r.2)
/-- The blocks of lines, n levels left, and their ranges. -/
def blocksN : Nat → List ByteArray → Option (List BkT × List (Nat × Nat))
  | 0, zs => loopT (fun _ _ => none) zs zs.length 0
  | 1, zs => loopT (blockT (fun l => (blocksN 0 l).map (·.1)) (fun _ => none) false false zs) zs zs.length 0
  | n + 2, zs => loopT (blockT (fun l => (blocksN (n + 1) l).map (·.1)) (fun l => (blocksN n l).map (·.1)) true (decide (1 ≤ n)) zs) zs zs.length 0
end Go.Proofs.YtpoafhgbhnblmaaGreatDoor
namespace Go.Pub
open Go.RowKit
/-- The cells of a Text. -/
def textC (s : ByteArray) : List Value := [.int .i64 1, .string s, .string ⟨#[]⟩, .string ⟨#[]⟩, .string ⟨#[]⟩, .slice none 0 0, .slice none 0 0, .slice none 0 0, .slice none 0 0, .slice none 0 0]
/-- The inlines that stand for a source text. -/
def SrcV (w : World) (S : Nat → Prop) (v : Value) (s : ByteArray) : Prop := if s.size = 0 then v = .slice none 0 0 else ∃ A c, v = .slice A 1 c ∧ ReadsS w S 10 A 1 (textC s)
theorem SrcV.keep {w w' : World} {S S' : Nat → Prop} {v : Value} {s : ByteArray} (h : SrcV w S v s) (hk : ∀ g, S g → w'.heap[g]? = w.heap[g]?) (hS : ∀ g, S g → S' g) : SrcV w' S' v s := by
  unfold SrcV at h ⊢
  by_cases hz : s.size = 0
  · rw [if_pos hz] at h ⊢; exact h
  · rw [if_neg hz] at h ⊢
    obtain ⟨A, c, e, hr⟩ := h
    exact ⟨A, c, e, hr.keep hk hS⟩
end Go.Pub
namespace Go.Proofs.YtpoafhgbhnblmaaGreatDoor
open Go.RowKit Go.Pub
/-- What lies in a block's cells behind its attributes and lists. -/
structure AttR (w : World) (S : Nat → Prop) (a : AttrL) (A1 A2 : Option Addr) : Prop where
  cls : ReadsS w S 1 A1 a.cl.length (strs a.cl)
  prs : ReadsS w S 2 A2 a.pr.length (prs a.pr)
  c32 : a.cl.length ≤ 32
  p32 : a.pr.length ≤ 32
theorem AttR.keep {w w' : World} {S S' : Nat → Prop} {a : AttrL} {A1 A2 : Option Addr} (h : AttR w S a A1 A2) (hk : ∀ g, S g → w'.heap[g]? = w.heap[g]?) (hS : ∀ g, S g → S' g) : AttR w' S' a A1 A2 :=
  ⟨h.cls.keep hk hS, h.prs.keep hk hS, h.c32, h.p32⟩
theorem AttR.empty (w : World) (S : Nat → Prop) (A1 A2 : Option Addr) : AttR w S emptyA A1 A2 := ⟨ReadsS.none_, ReadsS.none_, by decide, by decide⟩
mutual
/-- The cells of a block. -/
inductive RepB (w : World) (S : Nat → Prop) : Array Value → BkT → Prop
  | mk (kind level : Nat) (info text dest title : ByteArray) (att : AttrL) (line : ByteArray) (kids : List BkT) (A1 A2 A4 : Option Addr) (c1 c2 c4 : Nat) (vL : Value) (vs : List (Array Value)) :
      AttR w S att A1 A2 → SrcV w S vL line → RepK w S vs kids → ReadsS w S 11 A4 kids.length (vs.flatMap Array.toList) →
      RepB w S #[.int .i64 kind, .int .i64 level, .string info, .string text, .string dest, .string title, .string att.id, .slice A1 att.cl.length c1, .slice A2 att.pr.length c2, vL, .slice A4 kids.length c4] (.mk kind level info text dest title att line kids)
/-- The cells of blocks, one after another. -/
inductive RepK (w : World) (S : Nat → Prop) : List (Array Value) → List BkT → Prop
  | nil : RepK w S [] []
  | cons (v : Array Value) (b : BkT) (vs : List (Array Value)) (bs : List BkT) : RepB w S v b → RepK w S vs bs → RepK w S (v :: vs) (b :: bs)
end

mutual
theorem RepB.keep {w w' : World} {S S' : Nat → Prop} (hk : ∀ g, S g → w'.heap[g]? = w.heap[g]?) (hS : ∀ g, S g → S' g) : ∀ {v : Array Value} {b : BkT}, RepB w S v b → RepB w' S' v b
  | _, _, .mk kind level info text dest title att line kids A1 A2 A4 c1 c2 c4 vL vs ha hl hr hc =>
    .mk kind level info text dest title att line kids A1 A2 A4 c1 c2 c4 vL vs (ha.keep hk hS) (hl.keep hk hS) (RepK.keep hk hS hr) (hc.keep hk hS)
theorem RepK.keep {w w' : World} {S S' : Nat → Prop} (hk : ∀ g, S g → w'.heap[g]? = w.heap[g]?) (hS : ∀ g, S g → S' g) : ∀ {vs : List (Array Value)} {bs : List BkT}, RepK w S vs bs → RepK w' S' vs bs
  | _, _, .nil => .nil
  | _, _, .cons v b vs bs h1 h2 => .cons v b vs bs (RepB.keep hk hS h1) (RepK.keep hk hS h2)
end
theorem RepK.len {w : World} {S : Nat → Prop} {vs : List (Array Value)} {bs : List BkT} (h : RepK w S vs bs) : vs.length = bs.length := by
  induction bs generalizing vs with
  | nil => cases h; rfl
  | cons b bs ih =>
    cases h with
    | cons v b vs bs h1 h2 => rw [List.length_cons, List.length_cons, ih h2]
theorem RepK.snoc {w : World} {S : Nat → Prop} {vs : List (Array Value)} {bs : List BkT} {v : Array Value} {b : BkT} (h : RepK w S vs bs) (hb : RepB w S v b) : RepK w S (vs ++ [v]) (bs ++ [b]) := by
  induction bs generalizing vs with
  | nil => cases h; exact .cons _ _ _ _ hb .nil
  | cons b' bs ih =>
    cases h with
    | cons v' b' vs bs h1 h2 => exact .cons _ _ _ _ h1 (ih h2)
theorem RepB.size {w : World} {S : Nat → Prop} {v : Array Value} {b : BkT} (h : RepB w S v b) : v.size = 11 := by
  cases h; rfl
theorem RepK.at_ {w : World} {S : Nat → Prop} : ∀ {vs : List (Array Value)} {bs : List BkT}, RepK w S vs bs → ∀ (k : Nat) (hk : k < bs.length), ∃ (v : Array Value), RepB w S v bs[k] ∧ ∀ i, i < 11 → (vs.flatMap Array.toList)[k * 11 + i]? = v[i]?
  | _, _, .nil, k, hk => absurd hk (by simp)
  | _, _, .cons v b vs bs h1 h2, 0, hk => ⟨v, h1, fun i hi => by
      have hl : v.toList.length = 11 := by rw [Array.length_toList]; exact h1.size
      rw [List.flatMap_cons, List.getElem?_append_left (by omega), Nat.zero_mul, Nat.zero_add, Array.getElem?_toList]⟩
  | _, _, .cons v b vs bs h1 h2, k + 1, hk => by
    obtain ⟨u, hu, hc⟩ := RepK.at_ h2 k (by simpa using hk)
    refine ⟨u, hu, fun i hi => ?_⟩
    have hl : v.toList.length = 11 := by rw [Array.length_toList]; exact h1.size
    rw [List.flatMap_cons, List.getElem?_append_right (by omega), hl, show (k + 1) * 11 + i - 11 = k * 11 + i by omega]
    exact hc i hi
/-- A slice of blocks. -/
def KidsV (w : World) (S : Nat → Prop) (v : Value) (bs : List BkT) : Prop := ∃ A c vs, v = .slice A bs.length c ∧ RepK w S vs bs ∧ ReadsS w S 11 A bs.length (vs.flatMap Array.toList)
theorem KidsV.keep {w w' : World} {S S' : Nat → Prop} {v : Value} {bs : List BkT} (h : KidsV w S v bs) (hk : ∀ g, S g → w'.heap[g]? = w.heap[g]?) (hS : ∀ g, S g → S' g) : KidsV w' S' v bs := by
  obtain ⟨A, c, vs, e, h1, h2⟩ := h
  exact ⟨A, c, vs, e, RepK.keep hk hS h1, h2.keep hk hS⟩
theorem KidsV.none_ (w : World) (S : Nat → Prop) : KidsV w S (.slice none 0 0) [] := ⟨none, 0, [], rfl, .nil, ReadsS.none_⟩
/-- What is new since there were B blocks. -/
def Rg (B : Nat) (w' : World) (g : Nat) : Prop := B ≤ g ∧ g < w'.heap.size
def rngs (rs : List (Nat × Nat)) : List Value := rs.flatMap fun r => [.int .i64 r.1, .int .i64 r.2]
def bkErr : Value := .tuple #[.slice none 0 0, .slice none 0 0, .int .i64 11]
/-- A block's cells. -/
def AnyB (v : Array Value) : Prop := ∃ (i0 i1 : Int) (s2 s3 s4 s5 s6 : ByteArray) (A7 : Option Addr) (n7 c7 : Nat) (A8 : Option Addr) (n8 c8 : Nat) (A9 : Option Addr) (n9 c9 : Nat) (A10 : Option Addr) (n10 c10 : Nat),
    v = #[.int .i64 i0, .int .i64 i1, .string s2, .string s3, .string s4, .string s5, .string s6, .slice A7 n7 c7, .slice A8 n8 c8, .slice A9 n9 c9, .slice A10 n10 c10]
/-- The block that is returned and the line behind it. -/
def BkPost (B : Nat) (r : Option (BkT × Nat)) (w : World) (e : Ending) (w' : World) : Prop :=
  Below w.heap.size w w' ∧ match r with
  | none => ∃ (v : Array Value) (u : Int), AnyB v ∧ e = .returned (.tuple #[.agg v, .int .i64 u, .int .i64 11])
  | some p => ∃ v, e = .returned (.tuple #[.agg v, .int .i64 p.2, .int .i64 0]) ∧ RepB w' (Rg B w') v p.1
theorem RepB.form {w : World} {S : Nat → Prop} {v : Array Value} {b : BkT} (h : RepB w S v b) : AnyB v := by
  cases h with
  | mk kind level info text dest title att line kids A1 A2 A4 c1 c2 c4 vL vs ha hl hr hc =>
    unfold SrcV at hl
    by_cases hz : line.size = 0
    · rw [if_pos hz] at hl; subst hl
      exact ⟨_, _, _, _, _, _, _, _, _, _, _, _, _, _, _, _, _, _, _, rfl⟩
    · rw [if_neg hz] at hl
      obtain ⟨A, c, rfl, hl⟩ := hl
      exact ⟨_, _, _, _, _, _, _, _, _, _, _, _, _, _, _, _, _, _, _, rfl⟩
theorem AnyB.len {v : Array Value} (h : AnyB v) : v.toList.length = 1 * 11 := by
  obtain ⟨i0, i1, s2, s3, s4, s5, s6, A7, n7, c7, A8, n8, c8, A9, n9, c9, A10, n10, c10, rfl⟩ := h
  rfl
theorem AnyB.one {v : Array Value} (h : AnyB v) : ∀ u ∈ v.toList, u.oneCell' = true := by
  obtain ⟨i0, i1, s2, s3, s4, s5, s6, A7, n7, c7, A8, n8, c8, A9, n9, c9, A10, n10, c10, rfl⟩ := h
  intro u hu
  simp only [List.mem_cons, List.not_mem_nil, or_false] at hu
  rcases hu with rfl | rfl | rfl | rfl | rfl | rfl | rfl | rfl | rfl | rfl | rfl <;> rfl
/-- Blocks in a row that the call owns; none of what is read of them lies in the row or in E. -/
def KOwn (w : World) (base : Nat) (E : Nat → Prop) (v : Value) (bs : List BkT) : Prop :=
  ∃ (S : Nat → Prop) (vs : List (Array Value)), (∀ g, S g → base ≤ g ∧ g < w.heap.size ∧ v.ownBlock ≠ some g ∧ ¬ E g) ∧ RepK w S vs bs ∧ w.ownsRow base 46 11 v bs.length (vs.flatMap Array.toList)
section
variable {w w' : World} {base : Nat} {E E' : Nat → Prop} {v : Value} {bs : List BkT}
theorem KOwn.nil (w : World) (base : Nat) (E : Nat → Prop) : KOwn w base E (.slice none 0 0) [] := ⟨fun _ => False, [], fun _ h => h.elim, .nil, World.ownsRow_nil _ _ _ _⟩
theorem KOwn.below (h : KOwn w base E v bs) (hb : Below w.heap.size w w') : KOwn w' base E v bs := by
  obtain ⟨S, vs, hS, hk, ho⟩ := h
  exact ⟨S, vs, fun g hg => ⟨(hS g hg).1, Nat.lt_of_lt_of_le (hS g hg).2.1 hb.size, (hS g hg).2.2⟩, hk.keep (fun g hg => hb.block g (hS g hg).2.1) fun _ h => h, own_below ho hb⟩
/-- Another row grows. -/
theorem KOwn.kept {g2 H : Nat} {v2 : Value} (h : KOwn w base (fun g => v2.ownBlock = some g) v bs) (hg : w.grownBy w' v2.ownBlock) (hne : v.ownBlock = none ∨ v.ownBlock ≠ v2.ownBlock) (hlies : v2.ownBlock = some g2 ∨ g2 = H) (hH : w.heap.size ≤ H) : KOwn w' base (fun g => some g2 = some g) v bs := by
  obtain ⟨S, vs, hS, hk, ho⟩ := h
  refine ⟨S, vs, fun g hs => ⟨(hS g hs).1, Nat.lt_of_lt_of_le (hS g hs).2.1 hg.size, (hS g hs).2.2.1, fun e => ?_⟩, hk.keep (fun g hs => hg.block g (hS g hs).2.1 fun e => (hS g hs).2.2.2 e.symm) fun _ h => h, ho.kept hg hne⟩
  injection e with e
  rcases hlies with hl | hl
  · exact (hS g hs).2.2.2 (by rw [hl, e])
  · have := (hS g hs).2.1; omega
/-- A block more. -/
theorem KOwn.push {S : Nat → Prop} {vs : List (Array Value)} {W1 w2 : World} {vb : Array Value} {b : BkT} {g cap H B : Nat} {tmp : Obj} (hS : ∀ g, S g → base ≤ g ∧ g < w.heap.size ∧ v.ownBlock ≠ some g ∧ ¬ E g) (hk : RepK w S vs bs) (hbl : Below w.heap.size w W1)
    (hv : ∀ k, v.ownBlock = some k → k < B) (hE : ∀ k, E k → k < B) (hB : base ≤ B) (hBw : B ≤ W1.heap.size)
    (hb : RepB W1 (Rg B W1) vb b) (hown : w2.ownsRow base 46 11 (.slice (some ⟨g, 0, none⟩) (bs.length + 1) cap) (bs.length + 1) (vs.flatMap Array.toList ++ vb.toList))
    (hgrow : (W1.alloc tmp).grownBy w2 v.ownBlock) (hlies : v.ownBlock = some g ∨ g = H) (hH : W1.heap.size ≤ H) :
    KOwn w2 base E (.slice (some ⟨g, 0, none⟩) (bs.length + 1) cap) (bs ++ [b]) := by
  have hsz := hgrow.size
  have hkeep : ∀ k, k < W1.heap.size → v.ownBlock ≠ some k → w2.heap[k]? = W1.heap[k]? := fun k hk hne =>
    (hgrow.block k (by simp; omega) fun e => hne e.symm).trans (Below.heap_alloc W1 tmp k hk)
  refine ⟨fun x => S x ∨ Rg B W1 x, vs ++ [vb], ?_, ?_, ?_⟩
  · rintro x (hx | hx)
    · have h1 := hS x hx
      have h2 := hbl.size
      refine ⟨h1.1, by simp at hsz; omega, ?_, h1.2.2.2⟩
      intro e
      have : g = x := by simpa [Value.ownBlock] using e
      subst this
      rcases hlies with hl | hl
      · exact h1.2.2.1 hl
      · omega
    · obtain ⟨h1, h2⟩ := hx
      refine ⟨by omega, by simp at hsz; omega, ?_, fun e => by have := hE x e; omega⟩
      intro e
      have : g = x := by simpa [Value.ownBlock] using e
      subst this
      rcases hlies with hl | hl
      · have := hv _ hl; omega
      · omega
  · refine RepK.snoc (hk.keep (fun x hx => ?_) fun _ h => .inl h) (hb.keep (fun x hx => hkeep x hx.2 fun e => ?_) fun _ h => .inr h)
    · have h1 := hS x hx
      have h2 := hbl.size
      exact (hkeep x (by omega) h1.2.2.1).trans (hbl.block x h1.2.1)
    · have := hv _ e
      have := hx.1
      omega
  · rw [List.flatMap_append, List.length_append]
    simpa using hown
theorem KOwn.kids (h : KOwn w base E v bs) : KidsV w (Rg base w) v bs := by
  obtain ⟨S, vs, hS, hk, ho⟩ := h
  obtain ⟨A, c, rfl⟩ := own_slice ho
  exact ⟨A, c, vs, rfl, hk.keep (fun _ _ => rfl) fun g hg => ⟨(hS g hg).1, (hS g hg).2.1⟩, ReadsS.of_own ho⟩
end
theorem KidsV.get {w : World} {S : Nat → Prop} {v : Value} {bs : List BkT} (h : KidsV w S v bs) (hn : 0 < bs.length) : ∃ g off c, v = .slice (some ⟨g, off, none⟩) bs.length c ∧ S g ∧ ∀ k (hk : k < bs.length), ∃ vb, RepB w S vb bs[k] ∧ ∀ i, i < 11 → w.cell? ⟨g, off + (k * 11 + i), none⟩ = vb[i]? := by
  obtain ⟨A, c, vs, rfl, hk, hr⟩ := h
  obtain ⟨g, off, rfl, hg, hc⟩ := hr.row hn (by decide)
  refine ⟨g, off, c, rfl, hg, fun k hlt => ?_⟩
  obtain ⟨vb, h1, h2⟩ := hk.at_ k hlt
  refine ⟨vb, h1, fun i hi => ?_⟩
  have hs := h1.size
  rw [Array.getElem?_eq_getElem (by omega)]
  exact hc _ _ (by rw [h2 i hi, Array.getElem?_eq_getElem (by omega)])
theorem KidsV.below {w w' : World} {B : Nat} {v : Value} {bs : List BkT} (h : KidsV w (Rg B w) v bs) (hb : Below w.heap.size w w') : KidsV w' (Rg B w') v bs :=
  h.keep (fun g hg => hb.block g hg.2) fun g hg => ⟨hg.1, Nat.lt_of_lt_of_le hg.2 hb.size⟩
theorem RepB.low {w w' : World} {B : Nat} {v : Array Value} {b : BkT} (h : RepB w (Rg B w) v b) (hb : Below w.heap.size w w') : RepB w' (Rg B w') v b :=
  h.keep (fun g hg => hb.block g hg.2) fun g hg => ⟨hg.1, Nat.lt_of_lt_of_le hg.2 hb.size⟩
theorem AttR.of_own {w : World} {B : Nat} {a : AttrL} {vC vP : Value} (h : OwnA w B a vC vP) : ∃ A1 c1 A2 c2, vC = .slice A1 a.cl.length c1 ∧ vP = .slice A2 a.pr.length c2 ∧ AttR w (Rg B w) a A1 A2 := by
  obtain ⟨A1, c1, rfl⟩ := own_slice h.cls
  obtain ⟨A2, c2, rfl⟩ := own_slice h.prs
  exact ⟨A1, c1, A2, c2, rfl, rfl, ReadsS.of_own h.cls, ReadsS.of_own h.prs, h.c32, h.p32⟩
theorem AttR.below {w w' : World} {B : Nat} {a : AttrL} {A1 A2 : Option Addr} (h : AttR w (Rg B w) a A1 A2) (hb : Below w.heap.size w w') : AttR w' (Rg B w') a A1 A2 :=
  h.keep (fun g hg => hb.block g hg.2) fun g hg => ⟨hg.1, Nat.lt_of_lt_of_le hg.2 hb.size⟩
/-- Lines in memory. -/
structure LinesAt (w : World) (A : Option Addr) (zs : List ByteArray) (m : Int) : Prop where
  rd : Reads w w.heap.size 1 A zs.length (strs zs)
  len : zs.length ≤ 10000
  sz : ∀ z ∈ zs, z.size ≤ 100000
  cell : w.cell? ⟨0, 0, none⟩ = some (.int .i64 m)
theorem LinesAt.below {w w' : World} {A : Option Addr} {zs : List ByteArray} {m : Int} (h : LinesAt w A zs m) (hb : Below w.heap.size w w') : LinesAt w' A zs m :=
  ⟨(h.rd.below hb).more hb.size, h.len, h.sz, (hb.cell (p := ⟨0, 0, none⟩) (World.block_lt_of_cell? _ _ h.cell)).trans h.cell⟩
theorem LinesAt.pos {w : World} {A : Option Addr} {zs : List ByteArray} {m : Int} (h : LinesAt w A zs m) : 0 < w.heap.size := World.block_lt_of_cell? _ _ h.cell
/-- A line. -/
theorem LinesAt.get {w : World} {A : Option Addr} {zs : List ByteArray} {m : Int} (h : LinesAt w A zs m) (hn : 0 < zs.length) : ∃ b off, A = some ⟨b, off, none⟩ ∧ b < w.heap.size ∧ ∀ k, k < zs.length → w.cell? ⟨b, off + k, none⟩ = some (.string (ln zs k)) := by
  obtain ⟨b, off, e, hb, hc⟩ := reads_get h.rd hn
  exact ⟨b, off, e, hb, fun k hk => by rw [hc k hk, ln_at zs k hk]⟩
/-- Some of the lines. -/
theorem LinesAt.cut {w : World} {b off : Nat} {zs : List ByteArray} {m : Int} (h : LinesAt w (some ⟨b, off, none⟩) zs m) (i k : Nat) (hi : i ≤ k) (hk : k ≤ zs.length) : LinesAt w (some ⟨b, off + i, none⟩) (cutL zs i k) m := by
  have hl := cutL_len zs i k hi hk
  refine ⟨⟨by rw [strs_len]; omega, fun hn => ?_⟩, by have := h.len; omega, fun z hz => h.sz z (List.mem_of_mem_drop (List.mem_of_mem_take hz)), h.cell⟩
  obtain ⟨b', off', e, hb, hc⟩ := h.get (by omega)
  obtain ⟨rfl, rfl⟩ : b = b' ∧ off = off' := by injection e with e; injection e with e1 e2; exact ⟨e1, e2⟩
  refine ⟨_, rfl, hb, fun j u hu => ?_⟩
  have hj : j < (cutL zs i k).length := by rw [← strs_len]; exact (List.getElem?_eq_some_iff.1 hu).1
  rw [strs_at _ j hj] at hu
  cases hu
  rw [ln_at _ j hj, ln_cut zs i k j (by omega)]
  have := hc (i + j) (by omega)
  unfold Addr.add
  by_cases h0 : j = 0
  · subst h0; rw [if_pos rfl]; simpa using this
  · rw [if_neg h0]; rw [← Nat.add_assoc] at this; exact this
theorem LinesAt.cut' {w : World} {b off : Nat} {zs : List ByteArray} {m : Int} (h : LinesAt w (some ⟨b, off, none⟩) zs m) (i k : Nat) (hi : i ≤ k) (hk : k ≤ zs.length) (A' : Option Addr) (hA : A' = some ⟨b, off + i, none⟩ ∨ k = i) : LinesAt w A' (cutL zs i k) m := by
  rcases hA with rfl | rfl
  · exact h.cut i k hi hk
  · have e : cutL zs k k = [] := by unfold cutL; simp
    rw [e]
    exact ⟨Reads.none_, by decide, fun z hz => absurd hz (by simp), h.cell⟩
theorem ln_size {zs : List ByteArray} {n : Nat} (h : ∀ z ∈ zs, z.size ≤ n) (k : Nat) : (ln zs k).size ≤ n := by
  rcases Nat.lt_or_ge k zs.length with hk | hk
  · rw [← ln_at zs k hk]; exact h _ (List.getElem_mem hk)
  · unfold ln; rw [List.getD_eq_getElem?_getD, List.getElem?_eq_none hk]; exact Nat.zero_le _
end Go.Proofs.YtpoafhgbhnblmaaGreatDoor
namespace Go.Proofs.YtpoafhgbhnblmaaGreatDoor
open Go.RowKit Go.Pub
theorem contTo_bd (zs : List ByteArray) (i : Nat) (m : MkL) (h : i < zs.length) : i + 1 ≤ contTo zs i m ∧ contTo zs i m ≤ zs.length := by
  have h1 := lastN_le (fun j => !blankB (ln zs j)) (i + 1) (seek (contStop zs m) zs.length (i + 1) - (i + 1))
  have h2 := seek_spec (contStop zs m) zs.length (i + 1) (by omega)
  unfold contTo
  omega
theorem contL_bd (zs : List ByteArray) (i : Nat) (m : MkL) (h : i < zs.length) : i + 1 ≤ (contL zs i m).2 ∧ (contL zs i m).2 ≤ zs.length := by
  have := contTo_bd zs i m h
  unfold contL
  by_cases hn : contNo zs i m = true
  · rw [if_pos hn]; exact ⟨Nat.le_refl _, h⟩
  · rw [if_neg hn]; exact this
theorem nextNB_bd (zs : List ByteArray) (i : Nat) (h : i ≤ zs.length) : i ≤ nextNB zs i ∧ nextNB zs i ≤ zs.length := by
  have := seek_spec (fun j => !blankB (ln zs j)) zs.length i h
  exact ⟨this.1, this.2.1⟩
/-- One round of a list's items. -/
theorem itemsF_fuel (rec : List ByteArray → Option (List BkT)) (zs : List ByteArray) : ∀ (f g i : Nat) (m : MkL), i < zs.length → zs.length - i ≤ f → zs.length - i ≤ g → itemsF rec zs f i m = itemsF rec zs g i m
  | 0, _, i, m, h, hf, _ => absurd h (by omega)
  | _ + 1, 0, i, m, h, _, hg => absurd h (by omega)
  | f + 1, g + 1, i, m, h, hf, hg => by
    unfold itemsF
    have hb := contL_bd zs i m h
    have hn := nextNB_bd zs (contL zs i m).2 hb.2
    cases hr : rec (contL zs i m).1 with
    | none => rfl
    | some kids =>
      simp only []
      by_cases hc : nextNB zs (contL zs i m).2 < zs.length ∧ sameR m (markM (ln zs (nextNB zs (contL zs i m).2))) = true
      · rw [if_pos hc, if_pos hc, itemsF_fuel rec zs f g _ _ hc.1 (by omega) (by omega)]
      · rw [if_neg hc, if_neg hc]
def itemsT (rec : List ByteArray → Option (List BkT)) (zs : List ByteArray) (i : Nat) (m : MkL) : Option (List BkT × Nat) := itemsF rec zs (zs.length - i) i m
theorem itemsT_step (rec : List ByteArray → Option (List BkT)) (zs : List ByteArray) (i : Nat) (m : MkL) (h : i < zs.length) : itemsT rec zs i m =
    match rec (contL zs i m).1 with
    | none => none
    | some kids =>
      if nextNB zs (contL zs i m).2 < zs.length ∧ sameR m (markM (ln zs (nextNB zs (contL zs i m).2))) = true then
        (itemsT rec zs (nextNB zs (contL zs i m).2) (markM (ln zs (nextNB zs (contL zs i m).2)))).map fun r => (kidB 9 kids :: r.1, r.2)
      else some ([kidB 9 kids], (contL zs i m).2) := by
  have hb := contL_bd zs i m h
  have hn := nextNB_bd zs (contL zs i m).2 hb.2
  unfold itemsT
  obtain ⟨f, hf⟩ : ∃ f, zs.length - i = f + 1 := ⟨zs.length - i - 1, by omega⟩
  rw [hf]
  conv => lhs; unfold itemsF
  cases hr : rec (contL zs i m).1 with
  | none => rfl
  | some kids =>
    simp only []
    by_cases hc : nextNB zs (contL zs i m).2 < zs.length ∧ sameR m (markM (ln zs (nextNB zs (contL zs i m).2))) = true
    · rw [if_pos hc, if_pos hc, itemsF_fuel rec zs f (zs.length - nextNB zs (contL zs i m).2) _ _ hc.1 (by omega) (by omega)]
    · rw [if_neg hc, if_neg hc]
theorem itemsF_bd (rec : List ByteArray → Option (List BkT)) (zs : List ByteArray) : ∀ (f i : Nat) (m : MkL) (r : List BkT × Nat), i < zs.length → itemsF rec zs f i m = some r → i < r.2 ∧ r.2 ≤ zs.length
  | 0, i, m, r, h, e => by cases e
  | f + 1, i, m, r, h, e => by
    have hb := contL_bd zs i m h
    have hn := nextNB_bd zs (contL zs i m).2 hb.2
    unfold itemsF at e
    cases hr : rec (contL zs i m).1 with
    | none => rw [hr] at e; cases e
    | some kids =>
      rw [hr] at e
      simp only [] at e
      by_cases hc : nextNB zs (contL zs i m).2 < zs.length ∧ sameR m (markM (ln zs (nextNB zs (contL zs i m).2))) = true
      · rw [if_pos hc] at e
        cases hi : itemsF rec zs f (nextNB zs (contL zs i m).2) (markM (ln zs (nextNB zs (contL zs i m).2))) with
        | none => rw [hi] at e; cases e
        | some q =>
          rw [hi] at e
          injection e with e
          subst e
          have := itemsF_bd rec zs f _ _ q hc.1 hi
          exact ⟨by show i < q.2; omega, this.2⟩
      · rw [if_neg hc] at e
        injection e with e
        subst e
        exact ⟨by show i < (contL zs i m).2; omega, hb.2⟩
theorem opt_map_some {α β : Type} {o : Option α} {f : α → β} {b : β} (h : o.map f = some b) : ∃ a, o = some a ∧ b = f a := by
  cases o with
  | none => cases h
  | some a => injection h with h; exact ⟨a, rfl, h.symm⟩
theorem min_close (zs : List ByteArray) (m : MkL) (i : Nat) (h : i < zs.length) : i < min (closeI zs m (i + 1) + 1) zs.length ∧ min (closeI zs m (i + 1) + 1) zs.length ≤ zs.length := by
  have := seek_spec (closeP zs m) zs.length (i + 1) (by omega)
  unfold closeI
  omega
/-- A block ends behind its line. -/
theorem blockT_bd (rec1 rec2 : List ByteArray → Option (List BkT)) (d2 d3 : Bool) (zs : List ByteArray) (i : Nat) (h : i < zs.length) (r : BkT × Nat) (e : blockT rec1 rec2 d2 d3 zs i (markM (ln zs i)) = some r) : i < r.2 ∧ r.2 ≤ zs.length := by
  have hk : kindOf zs i = (markM (ln zs i)).kind := rfl
  generalize markM (ln zs i) = m at *
  unfold blockT at e
  by_cases h2 : m.kind = 2
  · rw [if_pos h2] at e; injection e with e; subst e; exact ⟨Nat.lt_succ_self _, h⟩
  rw [if_neg h2] at e
  by_cases h3 : m.kind = 3
  · rw [if_pos h3] at e; injection e with e; subst e; exact ⟨Nat.lt_succ_self _, h⟩
  rw [if_neg h3] at e
  by_cases h11 : m.kind = 11
  · rw [if_pos h11] at e; injection e with e; subst e; exact ⟨Nat.lt_succ_self _, h⟩
  rw [if_neg h11] at e
  by_cases h4 : m.kind = 4
  · rw [if_pos h4] at e
    obtain ⟨k, _, rfl⟩ := opt_map_some e
    obtain ⟨s1, s2, s3, s4⟩ := seek_spec (fun j => !decide (kindOf zs j = 4)) zs.length i (by omega)
    refine ⟨?_, s2⟩
    show i < seek (fun j => !decide (kindOf zs j = 4)) zs.length i
    rcases Nat.lt_or_ge i (seek (fun j => !decide (kindOf zs j = 4)) zs.length i) with hl | hl
    · exact hl
    · have ei : seek (fun j => !decide (kindOf zs j = 4)) zs.length i = i := by omega
      have := s4 (by omega)
      rw [ei, hk, h4] at this
      cases this
  rw [if_neg h4] at e
  by_cases h7 : m.kind = 7
  · rw [if_pos h7] at e; injection e with e; subst e; exact min_close zs m i h
  rw [if_neg h7] at e
  by_cases h8 : m.kind = 8
  · rw [if_pos h8] at e; injection e with e; subst e; exact min_close zs m i h
  rw [if_neg h8] at e
  by_cases h9 : m.kind = 9
  · rw [if_pos h9] at e
    obtain ⟨k, _, rfl⟩ := opt_map_some e
    exact min_close zs m i h
  rw [if_neg h9] at e
  by_cases h10 : m.kind = 10
  · rw [if_pos h10] at e
    obtain ⟨k, _, rfl⟩ := opt_map_some e
    have := contL_bd zs i m h
    exact ⟨by show i < (contL zs i m).2; omega, this.2⟩
  rw [if_neg h10] at e
  by_cases h56 : m.kind = 5 ∨ m.kind = 6
  · rw [if_pos h56] at e
    by_cases hd : d2 = true
    · rw [if_pos hd] at e
      obtain ⟨q, hq, rfl⟩ := opt_map_some e
      exact itemsF_bd rec2 zs _ i m q h hq
    · rw [if_neg hd] at e; cases e
  rw [if_neg h56] at e
  by_cases ht : headAt zs i = true
  · rw [if_pos ht] at e
    by_cases hd : d3 = true
    · rw [if_pos hd] at e
      injection e with e
      subst e
      have hi : i + 1 < zs.length := by
        unfold headAt at ht
        rw [Bool.and_eq_true, decide_eq_true_eq] at ht
        exact ht.1
      have := seek_spec (fun j => !decide (kindOf zs j = 0)) zs.length (i + 2) (by omega)
      exact ⟨by show i < seek _ _ _; omega, this.2.1⟩
    · rw [if_neg hd] at e; cases e
  · rw [if_neg ht] at e
    injection e with e
    subst e
    have := seek_spec (fun j => !decide (kindOf zs j = 0) || headAt zs j) zs.length (i + 1) (by omega)
    exact ⟨by show i < seek _ _ _; omega, this.2.1⟩
theorem loopT_fuel (at_ : Nat → MkL → Option (BkT × Nat)) (zs : List ByteArray) (hat : ∀ i r, i < zs.length → at_ i (markM (ln zs i)) = some r → i < r.2) : ∀ (f g i : Nat), zs.length - i ≤ f → zs.length - i ≤ g → loopT at_ zs f i = loopT at_ zs g i
  | 0, 0, i, _, _ => rfl
  | 0, g + 1, i, hf, _ => by
    unfold loopT; rw [if_pos (by omega)]
  | f + 1, 0, i, _, hg => by
    conv => lhs; unfold loopT
    rw [if_pos (by omega)]; rfl
  | f + 1, g + 1, i, hf, hg => by
    unfold loopT
    by_cases h : zs.length ≤ i
    · rw [if_pos h, if_pos h]
    · rw [if_neg h, if_neg h]
      by_cases hb : blankB (ln zs i) = true
      · rw [if_pos hb, if_pos hb, loopT_fuel at_ zs hat f g (i + 1) (by omega) (by omega)]
      · rw [if_neg hb, if_neg hb]
        cases hm : at_ i (markM (ln zs i)) with
        | none => rfl
        | some r =>
          obtain ⟨b, tq⟩ := r
          have := hat i _ (by omega) hm
          simp only [] at this ⊢
          rw [loopT_fuel at_ zs hat f g tq (by omega) (by omega)]
/-- The rest of the loop from line i on. -/
def restT (at_ : Nat → MkL → Option (BkT × Nat)) (zs : List ByteArray) (i : Nat) : Option (List BkT × List (Nat × Nat)) := loopT at_ zs (zs.length - i) i
theorem restT_end (at_ : Nat → MkL → Option (BkT × Nat)) (zs : List ByteArray) (i : Nat) (h : zs.length ≤ i) : restT at_ zs i = some ([], []) := by
  unfold restT
  rw [show zs.length - i = 0 by omega]; rfl
theorem restT_blank (at_ : Nat → MkL → Option (BkT × Nat)) (zs : List ByteArray) (i : Nat) (h : i < zs.length) (hb : blankB (ln zs i) = true) : restT at_ zs i = restT at_ zs (i + 1) := by
  unfold restT
  obtain ⟨f, hf⟩ : ∃ f, zs.length - i = f + 1 := ⟨zs.length - i - 1, by omega⟩
  rw [hf]
  conv => lhs; unfold loopT
  rw [if_neg (by omega), if_pos hb, show zs.length - (i + 1) = f by omega]
theorem restT_step (at_ : Nat → MkL → Option (BkT × Nat)) (zs : List ByteArray) (hat : ∀ i r, i < zs.length → at_ i (markM (ln zs i)) = some r → i < r.2) (i : Nat) (h : i < zs.length) (hb : blankB (ln zs i) = false) : restT at_ zs i =
    match at_ i (markM (ln zs i)) with
    | none => none
    | some (b, tq) => (restT at_ zs tq).map fun r => (b :: r.1, (i, tq) :: r.2) := by
  unfold restT
  obtain ⟨f, hf⟩ : ∃ f, zs.length - i = f + 1 := ⟨zs.length - i - 1, by omega⟩
  rw [hf]
  conv => lhs; unfold loopT
  rw [if_neg (by omega), if_neg (by rw [hb]; exact Bool.false_ne_true)]
  cases hm : at_ i (markM (ln zs i)) with
  | none => rfl
  | some r =>
    obtain ⟨b, tq⟩ := r
    have := hat i _ h hm
    simp only [] at this ⊢
    rw [loopT_fuel at_ zs hat f (zs.length - tq) tq (by omega) (by omega)]
/-- The levels' blocks. -/
def atN : Nat → List ByteArray → Nat → MkL → Option (BkT × Nat)
  | 0, _ => fun _ _ => none
  | 1, zs => blockT (fun l => (blocksN 0 l).map (·.1)) (fun _ => none) false false zs
  | n + 2, zs => blockT (fun l => (blocksN (n + 1) l).map (·.1)) (fun l => (blocksN n l).map (·.1)) true (decide (1 ≤ n)) zs
theorem blocksN_rest (n : Nat) (zs : List ByteArray) : blocksN n zs = restT (atN n zs) zs 0 := by
  match n with
  | 0 => rfl
  | 1 => rfl
  | n + 2 => rfl
theorem atN_one (zs : List ByteArray) : atN 1 zs = blockT (fun l => (blocksN 0 l).map (·.1)) (fun _ => none) false false zs := rfl
theorem atN_two (n : Nat) (zs : List ByteArray) : atN (n + 2) zs = blockT (fun l => (blocksN (n + 1) l).map (·.1)) (fun l => (blocksN n l).map (·.1)) true (decide (1 ≤ n)) zs := rfl
theorem atN_bd (n : Nat) (zs : List ByteArray) (i : Nat) (r : BkT × Nat) (h : i < zs.length) (e : atN n zs i (markM (ln zs i)) = some r) : i < r.2 ∧ r.2 ≤ zs.length := by
  match n with
  | 0 => cases e
  | 1 => rw [atN_one] at e; exact blockT_bd _ _ _ _ zs i h r e
  | n + 2 => rw [atN_two] at e; exact blockT_bd _ _ _ _ zs i h r e
end Go.Proofs.YtpoafhgbhnblmaaGreatDoor
namespace Go.Proofs.YtpoafhgbhnblmaaGreatDoor
open Go.RowKit Go.Pub
theorem closes_ret {W : World} {g : Nat} {x y z u : Value} {P : Ending → World → Prop} {act : Act} (hr : Blk W g 43 #[x, y, z]) (h4 : act.tmps.getD 4 undef = .pointer (some ⟨g, 0, none⟩))
    (h5 : act.tmps.getD 5 undef = u) (hd : act.defers = []) (hP : P (.returned (.tuple #[.agg #[x, y, z], u])) W) : bodyPost Tryz.prog Tryz.f117 P Exit.ret act W := by
  have c0 : W.cell? ⟨g, 0, none⟩ = some x := hr.cell 0
  have c1 : W.cell? ⟨g, 1, none⟩ = some y := hr.cell 1
  have c2 : W.cell? ⟨g, 2, none⟩ = some z := hr.cell 2
  refine bodyPost_ret (v := .tuple #[.agg #[x, y, z], u]) ?_ hd hP
  rw [Array.getD_eq_getD_getElem?] at h4 h5
  simp [results, Tryz.results117, go_sem, h4, h5, c0, c1, c2]
theorem cl_none {r : AttrL × Bool} {b : Bool} {w w' : World} (hr : r = (emptyA, b)) (hb : Below w.heap.size w w') : ClPost r w (.returned (.tuple #[.agg #[.string ⟨#[]⟩, .slice none 0 0, .slice none 0 0], .bool b])) w' := by
  subst hr; exact ⟨⟨_, _, rfl, ownA_empty _ _ hb.size⟩, hb⟩
theorem cl_some {r : AttrL × Bool} {a : AttrL} {b : Bool} {vC vP : Value} {w w' : World} (hr : r = (a, b)) (ho : OwnA w' w.heap.size a vC vP) (hb : Below w.heap.size w w') : ClPost r w (.returned (.tuple #[.agg #[.string a.id, vC, vP], .bool b])) w' := by
  subst hr; exact ⟨⟨_, _, rfl, ho⟩, hb⟩
/-- The parameter's block, and the result's, still empty. -/
structure CW (w : World) (MK : Array Value) (W : World) : Prop where
  mrk : Blk W w.heap.size 74 MK
  at_ : Blk W (w.heap.size + 1) 43 #[.string ⟨#[]⟩, .slice none 0 0, .slice none 0 0]
  bel : Below w.heap.size w W
def cw0 (w : World) (MK : Array Value) : World := (w.alloc (.cells MK 74)).alloc (.cells #[.string ⟨#[]⟩, .slice none 0 0, .slice none 0 0] 43)
theorem cw_start (w : World) (MK : Array Value) : CW w MK (cw0 w MK) := by
  refine ⟨(Blk.new w _ _).alloc _, ?_, ((Below.refl _ w).alloc (Nat.le_refl _) _).alloc (by simp) _⟩
  have := Blk.new (w.alloc (.cells MK 74)) 43 #[.string ⟨#[]⟩, .slice none 0 0, .slice none 0 0]
  unfold cw0
  simpa using this
theorem CW.next {w W W' : World} {MK : Array Value} (h : CW w MK W) (hb : Below W.heap.size W W') : CW w MK W' :=
  ⟨h.mrk.below hb h.mrk.lt, h.at_.below hb h.at_.lt, h.bel.trans (hb.mono h.bel.size)⟩
theorem CW.facts {w W : World} {MK : Array Value} (h : CW w MK W) : W.cell? ⟨w.heap.size, 1, none⟩ = MK[1]? ∧ W.cell? ⟨w.heap.size, 2, none⟩ = MK[2]? ∧
    W.cell? ⟨w.heap.size + 1, 0, none⟩ = some (.string ⟨#[]⟩) ∧ W.cell? ⟨w.heap.size + 1, 1, none⟩ = some (.slice none 0 0) ∧ W.cell? ⟨w.heap.size + 1, 2, none⟩ = some (.slice none 0 0) ∧
    W.frozen? ⟨w.heap.size + 1, 0, none⟩ = false ∧ W.frozen? ⟨w.heap.size + 1, 1, none⟩ = false ∧ W.frozen? ⟨w.heap.size + 1, 2, none⟩ = false ∧ w.heap.size + 1 < W.heap.size :=
  ⟨h.mrk.cell 1, h.mrk.cell 2, h.at_.cell 0, h.at_.cell 1, h.at_.cell 2, h.at_.frozen 0, h.at_.frozen 1, h.at_.frozen 2, h.at_.lt⟩
theorem CW.done {w W : World} {MK : Array Value} (h : CW w MK W) (x y z : Value) : Blk (((W.setCell ⟨w.heap.size + 1, 0, none⟩ x).setCell ⟨w.heap.size + 1, 1, none⟩ y).setCell ⟨w.heap.size + 1, 2, none⟩ z) (w.heap.size + 1) 43 #[x, y, z] ∧
    Below w.heap.size w (((W.setCell ⟨w.heap.size + 1, 0, none⟩ x).setCell ⟨w.heap.size + 1, 1, none⟩ y).setCell ⟨w.heap.size + 1, 2, none⟩ z) :=
  ⟨blk3 h.at_ rfl x y z, below3 h.bel (Nat.le_succ _) x y z⟩
set_option maxRecDepth 100000 in
set_option maxHeartbeats 2000000 in
theorem m_closes (s : ByteArray) (K N o : Int) (ch s4 s5 s6 s7 s8 : ByteArray) (A9 : Option Addr) (n9 c9 : Nat) (A10 : Option Addr) (n10 c10 : Nat) (w : World) (hs : s.size ≤ 1000000) :
    Calls Tryz.prog 117 #[.string s, .agg #[.int .i64 K, .int .i64 N, .string ch, .int .i64 o, .string s4, .string s5, .string s6, .string s7, .string s8, .slice A9 n9 c9, .slice A10 n10 c10]] w (ClPost (closesM s K N ch) w) := by
  have HI := Lib.hid fun W => t_indent s W hs
  have hil : indA s 0 ≤ s.size := indA_le s
  have hcz : (s.extract (indA s 0) s.size).size = s.size - indA s 0 := by rw [ByteArray.size_extract]; omega
  have HR : Hid (closesM s K N ch = if 3 < indA s 0 then (emptyA, false) else closeD (s.extract (indA s 0) s.size) K N ch) := Lib.hid rfl
  have HS := Lib.hid (cw_start w #[.int .i64 K, .int .i64 N, .string ch, .int .i64 o, .string s4, .string s5, .string s6, .string s7, .string s8, .slice A9 n9 c9, .slice A10 n10 c10])
  generalize closesM s K N ch = R at *
  generalize indA s 0 = ind at *
  have hili : (ind : Int) ≤ (s.size : Int) := by omega
  by_cases hi : 3 < ind
  · have HF : Hid (R = (emptyA, false)) := Lib.hid (by rw [HR.out, if_pos hi])
    have d1 : decide (3 < (ind : Int)) = true := decide_eq_true (by omega)
    have d2 : decide (3 < ind) = true := decide_eq_true hi
    clear HR
    go_enter Tryz.func117, Tryz.ntmps117
    go_wp2_with fail
    ((with_reducible refine (HI.out _).mono ?_))
    rintro e w' ⟨rfl, rfl⟩
    go_wp2_with fail
    exact closes_ret HS.out.at_ rfl rfl rfl (cl_none HF.out HS.out.bel)
  have d1 : decide (3 < (ind : Int)) = false := decide_eq_false (by omega)
  have d2 : decide (3 < ind) = false := decide_eq_false hi
  have HR2 : Hid (R = closeD (s.extract ind s.size) K N ch) := Lib.hid (by rw [HR.out, if_neg hi])
  clear HR
  generalize hcc : s.extract ind s.size = c at *
  have hcs : c.size ≤ 1000000 := by omega
  clear hcz
  by_cases h7 : K = 7
  · subst h7
    by_cases hg1 : ch.size = 1
    case neg =>
      have HF : Hid (R = (emptyA, false)) := Lib.hid (by rw [HR2.out]; unfold closeD; rw [if_pos rfl, decide_eq_false (fun h => hg1 h.1)]; rfl)
      have e1 : ((ch.size : Int) != 1) = true := by rw [bne_iff_ne]; omega
      have e2 : (ch.size != 1) = true := by rw [bne_iff_ne]; omega
      clear HR2
      go_enter Tryz.func117, Tryz.ntmps117
      go_wp2_with fail
      ((with_reducible refine (HI.out _).mono ?_))
      rintro e w' ⟨rfl, rfl⟩
      go_wp2_with fail
      exact closes_ret HS.out.at_ rfl rfl rfl (cl_none HF.out HS.out.bel)
    have e1 : ((ch.size : Int) != 1) = false := by rw [bne_eq_false_iff_eq]; omega
    have e2 : (ch.size != 1) = false := by rw [bne_eq_false_iff_eq]; omega
    by_cases hg2 : N < 1
    · have HF : Hid (R = (emptyA, false)) := Lib.hid (by rw [HR2.out]; unfold closeD; rw [if_pos rfl, decide_eq_false (fun h => by omega)]; rfl)
      have e3 : decide (N < 1) = true := decide_eq_true hg2
      clear HR2
      go_enter Tryz.func117, Tryz.ntmps117
      go_wp2_with fail
      ((with_reducible refine (HI.out _).mono ?_))
      rintro e w' ⟨rfl, rfl⟩
      go_wp2_with fail
      exact closes_ret HS.out.at_ rfl rfl rfl (cl_none HF.out HS.out.bel)
    have e3 : decide (N < 1) = false := decide_eq_false hg2
    have h01 : 0 < ch.size := by omega
    have hgb := get_bt ch 0 h01
    have hb256 := bt_lt ch 0
    have HF0 : Hid (R = (emptyA, decide (N ≤ (firstN c (· != bt ch 0) : Int)) && blankB (c.extract (firstN c (· != bt ch 0)) c.size))) := Lib.hid (by rw [HR2.out]; unfold closeD; rw [if_pos rfl, decide_eq_true ⟨hg1, by omega⟩]; rfl)
    clear HR2
    have HRn := Lib.hid fun W => m_run c (bt ch 0) hb256 W hcs
    have hnl := firstN_le c (· != bt ch 0)
    generalize firstN c (· != bt ch 0) = n at *
    generalize bt ch 0 = q at *
    have hxz : (c.extract n c.size).size ≤ 1000000 := by rw [ByteArray.size_extract]; omega
    have HBl := Lib.hid fun W => t_blank (c.extract n c.size) W hxz
    generalize blankB (c.extract n c.size) = bb at *
    by_cases hn : N ≤ (n : Int)
    · have e4 : decide (N ≤ (n : Int)) = true := decide_eq_true hn
      have HF : Hid (R = (emptyA, bb)) := Lib.hid (by rw [HF0.out, e4]; rfl)
      clear HF0
      go_enter Tryz.func117, Tryz.ntmps117
      go_wp2_with fail
      ((with_reducible refine (HI.out _).mono ?_))
      rintro e w' ⟨rfl, rfl⟩
      go_wp2_with fail
      ((with_reducible refine (HRn.out _).mono ?_))
      rintro e w1 ⟨rfl, b1⟩
      have hC := HS.out.next b1
      obtain ⟨k1, k2, a0, a1, a2, f0, f1, f2, hlt⟩ := hC.facts
      have HC := Lib.hid hC
      simp at k1 k2
      clear b1 hC
      go_wp2_with fail
      ((with_reducible refine (HBl.out _).mono ?_))
      rintro e w2 ⟨rfl, rfl⟩
      go_wp2_with fail
      have hD := HC.out.done (.string ⟨#[]⟩) (.slice none 0 0) (.slice none 0 0)
      exact closes_ret hD.1 rfl rfl rfl (cl_none HF.out hD.2)
    · have e4 : decide (N ≤ (n : Int)) = false := decide_eq_false hn
      have HF : Hid (R = (emptyA, false)) := Lib.hid (by rw [HF0.out, e4]; rfl)
      clear HF0
      go_enter Tryz.func117, Tryz.ntmps117
      go_wp2_with fail
      ((with_reducible refine (HI.out _).mono ?_))
      rintro e w' ⟨rfl, rfl⟩
      go_wp2_with fail
      ((with_reducible refine (HRn.out _).mono ?_))
      rintro e w1 ⟨rfl, b1⟩
      have hC := HS.out.next b1
      obtain ⟨k1, k2, a0, a1, a2, f0, f1, f2, hlt⟩ := hC.facts
      have HC := Lib.hid hC
      simp at k1 k2
      clear b1 hC
      go_wp2_with fail
      have hD := HC.out.done (.string ⟨#[]⟩) (.slice none 0 0) (.slice none 0 0)
      exact closes_ret hD.1 rfl rfl rfl (cl_none HF.out hD.2)
  have z7 : (K == 7) = false := by rw [beq_eq_false_iff_ne]; exact h7
  by_cases h8 : K = 8
  · subst h8
    have HP : Hid (∀ W, Calls Tryz.prog 108 #[.string c, .string ⟨#[36, 36]⟩] W fun e w' => e = .returned (.bool (Lib.hasPrefix (bytesL c) [36, 36])) ∧ W = w') := Lib.hid fun W => (Tryz.strings_HasPrefix c ⟨#[36, 36]⟩ W).mono fun e w' ⟨h, h'⟩ => ⟨h, h'.symm⟩
    have HR3 : Hid (R = if Lib.hasPrefix (bytesL c) [36, 36] = true then optA (onlyR (c.extract 2 c.size)) else (emptyA, false)) := Lib.hid (by rw [HR2.out]; unfold closeD; rw [if_neg (by decide), if_pos rfl])
    have hpl : Lib.hasPrefix (bytesL c) [36, 36] = true → 2 ≤ c.size := fun h => pre_len h
    clear HR2
    generalize Lib.hasPrefix (bytesL c) [36, 36] = p at *
    cases p with
    | false =>
      have HF : Hid (R = (emptyA, false)) := Lib.hid (by rw [HR3.out]; rfl)
      clear HR3
      go_enter Tryz.func117, Tryz.ntmps117
      go_wp2_with fail
      ((with_reducible refine (HI.out _).mono ?_))
      rintro e w' ⟨rfl, rfl⟩
      go_wp2_with fail
      ((with_reducible refine (HP.out _).mono ?_))
      rintro e w' ⟨rfl, rfl⟩
      go_wp2_with fail
      exact closes_ret HS.out.at_ rfl rfl rfl (cl_none HF.out HS.out.bel)
    | true =>
      have h2 := hpl rfl
      have hxz : (c.extract 2 c.size).size ≤ 1000000 := by rw [ByteArray.size_extract]; omega
      have HO := Lib.hid fun W => m_only (c.extract 2 c.size) W hxz
      have HF0 : Hid (R = optA (onlyR (c.extract 2 c.size))) := Lib.hid (by rw [HR3.out]; rfl)
      clear HR3 hpl
      generalize onlyR (c.extract 2 c.size) = O at *
      go_enter Tryz.func117, Tryz.ntmps117
      go_wp2_with fail
      ((with_reducible refine (HI.out _).mono ?_))
      rintro e w' ⟨rfl, rfl⟩
      go_wp2_with fail
      ((with_reducible refine (HP.out _).mono ?_))
      rintro e w' ⟨rfl, rfl⟩
      go_wp2_with fail
      ((with_reducible refine (HO.out _).mono ?_))
      rintro e w1 ⟨⟨a, vC, vP, b, rfl, ho, hO, hb0⟩, b1⟩
      have HF : Hid (R = (a, b)) := Lib.hid (by
        rw [HF0.out, hO]
        cases b with
        | true => rfl
        | false => rw [hb0 rfl]; rfl)
      obtain ⟨AC, cC, rfl⟩ := own_slice ho.cls
      obtain ⟨AP, cP, rfl⟩ := own_slice ho.prs
      have hC := HS.out.next b1
      have ho' : OwnA w1 (w.heap.size + 2) a (.slice AC a.cl.length cC) (.slice AP a.pr.length cP) := by
        have e : (cw0 w #[.int .i64 8, .int .i64 N, .string ch, .int .i64 o, .string s4, .string s5, .string s6, .string s7, .string s8, .slice A9 n9 c9, .slice A10 n10 c10]).heap.size = w.heap.size + 2 := by unfold cw0; simp
        rw [← e]; exact ho
      have HO' := Lib.hid ho'
      obtain ⟨k1, k2, a0, a1, a2, f0, f1, f2, hlt⟩ := hC.facts
      have HC := Lib.hid hC
      clear b1 hC ho ho' hO hb0 HF0
      go_wp2_with fail
      have hD := HC.out.done (.string a.id) (.slice AC a.cl.length cC) (.slice AP a.pr.length cP)
      exact closes_ret hD.1 rfl rfl rfl (cl_some HF.out (ownA_low (ownA_far HO'.out (grown3 _ _ _ _ _) (by omega)) (by omega)) hD.2)
  have z8 : (K == 8) = false := by rw [beq_eq_false_iff_ne]; exact h8
  by_cases h9 : K = 9
  · subst h9
    have HF0 : Hid (R = (emptyA, decide (1 ≤ N) && (decide ((firstN c (· != 58) : Int) = N) && blankB (c.extract (firstN c (· != 58)) c.size)))) := Lib.hid (by rw [HR2.out]; unfold closeD; rw [if_neg (by decide), if_neg (by decide), if_pos rfl])
    clear HR2
    have HRn : Hid (∀ W, Calls Tryz.prog 102 #[.string c, .int .u8 58] W fun e w' => e = .returned (.int .i64 (firstN c (· != 58))) ∧ Below W.heap.size W w') := Lib.hid fun W => m_run c 58 (by omega) W hcs
    have hnl := firstN_le c (· != 58)
    generalize firstN c (· != 58) = n at *
    have hxz : (c.extract n c.size).size ≤ 1000000 := by rw [ByteArray.size_extract]; omega
    have HBl := Lib.hid fun W => t_blank (c.extract n c.size) W hxz
    generalize blankB (c.extract n c.size) = bb at *
    have htest : (decide (1 ≤ N) = false ∧ Hid (R = (emptyA, false))) ∨ (decide (1 ≤ N) = true ∧ ((n : Int) == N) = false ∧ Hid (R = (emptyA, false))) ∨ (decide (1 ≤ N) = true ∧ ((n : Int) == N) = true ∧ Hid (R = (emptyA, bb))) := by
      by_cases g1 : 1 ≤ N
      · by_cases g2 : (n : Int) = N
        · right; right; exact ⟨decide_eq_true g1, by rw [beq_iff_eq]; exact g2, Lib.hid (by rw [HF0.out, decide_eq_true g1, decide_eq_true g2]; rfl)⟩
        · right; left; exact ⟨decide_eq_true g1, by rw [beq_eq_false_iff_ne]; exact g2, Lib.hid (by rw [HF0.out, decide_eq_true g1, decide_eq_false g2]; rfl)⟩
      · left; exact ⟨decide_eq_false g1, Lib.hid (by rw [HF0.out, decide_eq_false g1]; rfl)⟩
    clear HF0
    rcases htest with ⟨g1, HF⟩ | ⟨g1, g2, HF⟩ | ⟨g1, g2, HF⟩
    · go_enter Tryz.func117, Tryz.ntmps117
      go_wp2_with fail
      ((with_reducible refine (HI.out _).mono ?_))
      rintro e w' ⟨rfl, rfl⟩
      go_wp2_with fail
      ((with_reducible refine (HRn.out _).mono ?_))
      rintro e w1 ⟨rfl, b1⟩
      have hC := HS.out.next b1
      obtain ⟨k1, k2, a0, a1, a2, f0, f1, f2, hlt⟩ := hC.facts
      have HC := Lib.hid hC
      simp at k1 k2
      clear b1 hC
      go_wp2_with fail
      have hD := HC.out.done (.string ⟨#[]⟩) (.slice none 0 0) (.slice none 0 0)
      exact closes_ret hD.1 rfl rfl rfl (cl_none HF.out hD.2)
    · go_enter Tryz.func117, Tryz.ntmps117
      go_wp2_with fail
      ((with_reducible refine (HI.out _).mono ?_))
      rintro e w' ⟨rfl, rfl⟩
      go_wp2_with fail
      ((with_reducible refine (HRn.out _).mono ?_))
      rintro e w1 ⟨rfl, b1⟩
      have hC := HS.out.next b1
      obtain ⟨k1, k2, a0, a1, a2, f0, f1, f2, hlt⟩ := hC.facts
      have HC := Lib.hid hC
      simp at k1 k2
      clear b1 hC
      go_wp2_with fail
      have hD := HC.out.done (.string ⟨#[]⟩) (.slice none 0 0) (.slice none 0 0)
      exact closes_ret hD.1 rfl rfl rfl (cl_none HF.out hD.2)
    · go_enter Tryz.func117, Tryz.ntmps117
      go_wp2_with fail
      ((with_reducible refine (HI.out _).mono ?_))
      rintro e w' ⟨rfl, rfl⟩
      go_wp2_with fail
      ((with_reducible refine (HRn.out _).mono ?_))
      rintro e w1 ⟨rfl, b1⟩
      have hC := HS.out.next b1
      obtain ⟨k1, k2, a0, a1, a2, f0, f1, f2, hlt⟩ := hC.facts
      have HC := Lib.hid hC
      simp at k1 k2
      clear b1 hC
      go_wp2_with fail
      ((with_reducible refine (HBl.out _).mono ?_))
      rintro e w2 ⟨rfl, rfl⟩
      go_wp2_with fail
      have hD := HC.out.done (.string ⟨#[]⟩) (.slice none 0 0) (.slice none 0 0)
      exact closes_ret hD.1 rfl rfl rfl (cl_none HF.out hD.2)
  have z9 : (K == 9) = false := by rw [beq_eq_false_iff_ne]; exact h9
  have HF : Hid (R = (emptyA, false)) := Lib.hid (by rw [HR2.out]; unfold closeD; rw [if_neg h7, if_neg h8, if_neg h9])
  clear HR2
  go_enter Tryz.func117, Tryz.ntmps117
  go_wp2_with fail
  ((with_reducible refine (HI.out _).mono ?_))
  rintro e w' ⟨rfl, rfl⟩
  go_wp2_with fail
  exact closes_ret HS.out.at_ rfl rfl rfl (cl_none HF.out HS.out.bel)

end Go.Proofs.YtpoafhgbhnblmaaGreatDoor
