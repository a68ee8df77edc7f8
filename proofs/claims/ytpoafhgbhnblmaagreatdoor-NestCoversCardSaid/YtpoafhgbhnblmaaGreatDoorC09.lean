/-
  Texts of the proof, put together (what this law reaches): TabJ, TabK, TabL, Join, MkS, MkSB, MkInf, NsA, NsB, NsR, NsC.
-/
import Derived.Test.YtpoafhgbhnblmaaGreatDoorC08
import Derived.Deep.QuietTactic
import Derived.BigQuiet
import Derived.Test.YtpoafhgbhnblmaaGreatDoorC05
import Derived.Test.YtpoafhgbhnblmaaGreatDoorC02
import Derived.Test.YtpoafhgbhnblmaaGreatDoorC07
import Derived.Test.YtpoafhgbhnblmaaGreatDoorC04
import Derived.Test.YtpoafhgbhnblmaaGreatDoorC06
import Derived.Deep.AppendLies
import Derived.Deep.CutRange
import Derived.Deep.DeepCutAuto
set_option linter.unusedVariables false
set_option linter.unusedSimpArgs false
namespace Go.Pub
open Go.RowKit
/-- The letter of a part. -/
def letP (p : List UInt8) : List UInt8 := letL (trimS p)
/-- The alignments of parts. -/
def alnL (ps : List (List UInt8)) : Option (List UInt8) := if ps.length ≤ 32 ∧ (ps.all fun p => !(letP p).isEmpty) = true then some (ps.flatMap letP) else none
/-- The alignments of a line. -/
def alignR (l : List UInt8) : Option (List UInt8) := if l.contains 124 then alnL (partsL l) else none
theorem letP_len (p : List UInt8) (h : letP p ≠ []) : (letP p).length = 1 := by
  have := letL_len (trimS p)
  unfold letP at *
  cases hp : letL (trimS p) with
  | nil => exact absurd hp h
  | cons a b => rw [hp] at this; simp at this ⊢; exact this
theorem flat_len : ∀ ps : List (List UInt8), (∀ p ∈ ps, letP p ≠ []) → (ps.flatMap letP).length = ps.length
  | [], _ => rfl
  | p :: ps, h => by
    rw [List.flatMap_cons, List.length_append, letP_len p (h p List.mem_cons_self), flat_len ps (fun q hq => h q (List.mem_cons_of_mem _ hq)), List.length_cons]; omega
/-- The letters that have come. -/
def letsP (pre : List Pt) : List UInt8 := pre.flatMap fun x => letP (bytesL x.1)
def goodP (pre : List Pt) : Prop := ∀ x ∈ pre, letP (bytesL x.1) ≠ []
theorem letsP_snoc (pre : List Pt) (x : Pt) : letsP (pre ++ [x]) = letsP pre ++ letP (bytesL x.1) := by unfold letsP; simp
theorem letsP_len : ∀ pre : List Pt, goodP pre → (letsP pre).length = pre.length
  | [], _ => rfl
  | p :: ps, h => by
    unfold letsP
    rw [List.flatMap_cons, List.length_append, letP_len _ (h p List.mem_cons_self)]
    have := letsP_len ps (fun q hq => h q (List.mem_cons_of_mem _ hq))
    unfold letsP at this
    rw [this, List.length_cons]; omega
theorem toPt_back (ps : List (List UInt8)) (h : ∀ p ∈ ps, p.length ≤ 1000000) : (ps.map toPt).map (fun x => bytesL x.1) = ps := by
  rw [List.map_map]
  conv => rhs; rw [← List.map_id ps]
  refine List.map_congr_left fun p hp => ?_
  show bytesL (toPt p).1 = p
  rw [toPt_val p (h p hp), bytesL_mk']
theorem letsP_map (ps : List (List UInt8)) (h : ∀ p ∈ ps, p.length ≤ 1000000) : letsP (ps.map toPt) = ps.flatMap letP := by
  unfold letsP
  conv => rhs; rw [← toPt_back ps h]
  rw [List.flatMap_map, List.map_map, List.flatMap_map]; rfl
theorem aln_done (ps : List (List UInt8)) (h : ∀ p ∈ ps, p.length ≤ 1000000) (hg : goodP (ps.map toPt)) (hl : (ps.map toPt).length ≤ 32) : alnL ps = some (letsP (ps.map toPt)) := by
  unfold alnL
  rw [letsP_map ps h, if_pos]
  refine ⟨by simpa using hl, ?_⟩
  rw [List.all_eq_true]
  intro p hp
  have := hg (toPt p) (List.mem_map_of_mem hp)
  rw [toPt_val p (h p hp), bytesL_mk'] at this
  cases hq : letP p with
  | nil => exact absurd hq this
  | cons a b => rfl
theorem aln_stop (ps : List (List UInt8)) (h : ∀ p ∈ ps, p.length ≤ 1000000) (pre : List Pt) (x : Pt) (hp : (pre ++ [x]) <+: ps.map toPt) (hx : letP (bytesL x.1) = [] ∨ 32 ≤ pre.length) : alnL ps = none := by
  unfold alnL
  rw [if_neg]
  rintro ⟨h1, h2⟩
  rcases hx with hx | hx
  · obtain ⟨r, hr⟩ := hp
    have hm : x ∈ ps.map toPt := by rw [← hr]; simp
    obtain ⟨p, hpm, rfl⟩ := List.mem_map.1 hm
    rw [toPt_val p (h p hpm), bytesL_mk'] at hx
    have := List.all_eq_true.1 h2 p hpm
    rw [hx] at this
    cases this
  · have := hp.length_le
    simp at this
    omega
end Go.Pub
namespace Go.Proofs.YtpoafhgbhnblmaaGreatDoor
open Go.RowKit Go.Pub Go.Shelf
attribute [local go_sem] Oper.semAt_some
def alnVal : Option (List UInt8) → Value
  | none => .tuple #[.string ⟨#[]⟩, .bool false]
  | some r => .tuple #[.string (mk r), .bool true]
def AlnPost (r : Option (List UInt8)) (w : World) (e : Ending) (w' : World) : Prop := e = .returned (alnVal r) ∧ Below w.heap.size w w'
theorem contains_iff (l : List UInt8) (c : UInt8) : decide (0 ≤ Lib.indexByte l c) = l.contains c := (Lib.contains_iff_indexByte l c).symm
set_option maxRecDepth 100000 in
set_option maxHeartbeats 4000000 in
theorem t_align (s : ByteArray) (w : World) (hs : s.size ≤ 1000000) : Calls Tryz.prog 119 #[.string s] w (AlnPost (alignR (bytesL s)) w) := by
  have HCn : Hid (∀ W, Calls Tryz.prog 170 #[.string s, .string ⟨#[124]⟩] W fun e w' => e = .returned (.bool ((bytesL s).contains 124)) ∧ w' = W) := Lib.hid fun W => by
    have h := Tryz.strings_Contains_one s 124 W
    rw [contains_iff] at h
    exact h
  have HA : Hid (alignR (bytesL s) = if (bytesL s).contains 124 = true then alnL (partsL (bytesL s)) else none) := Lib.hid rfl
  have HP := Lib.hid fun W => t_parts s W hs
  have hcs := coreB_size (bytesL s)
  rw [bytesL_length] at hcs
  have HX : Hid (partsL (bytesL s) = restP (coreB (bytesL s)) 0 0) := Lib.hid (by rw [restP_zero]; rfl)
  have HM : Hid (∀ p ∈ restP (coreB (bytesL s)) 0 0, p.length ≤ 1000000) := Lib.hid (fun p hp => by
    rw [← HX.out] at hp
    have := splitGo_mem _ _ p hp
    rw [bytesL_length] at this
    omega)
  rw [HX.out] at HA
  clear HX
  generalize alignR (bytesL s) = R at *
  generalize coreB (bytesL s) = C at *
  cases hcn : (bytesL s).contains 124
  · have HF : Hid (R = none) := Lib.hid (by rw [HA.out, hcn]; rfl)
    rw [hcn] at HCn
    clear hcn HA
    go_enter Tryz.func119, Tryz.ntmps119
    go_wp2_with fail
    ((with_reducible refine (HCn.out _).mono ?_))
    rintro e w' ⟨rfl, rfl⟩
    go_wp2_with fail
    refine bodyPost_ret (v := .tuple #[.string ⟨#[]⟩, .bool false]) (by simp [results, Tryz.results119, go_sem]) rfl ⟨by rw [HF.out]; rfl, ?_⟩
    exact ((Below.refl _ _).alloc (Nat.le_refl _) _).alloc (by simp) _
  have HF : Hid (R = alnL (restP C 0 0)) := Lib.hid (by rw [HA.out, hcn]; rfl)
  rw [hcn] at HCn
  clear hcn HA
  refine (callsIn_wide (n := 5)).1 ?_
  refine callsIn_of_wp_marks Tryz.func119 rfl trivial ?_ rfl
  simp only [Tryz.ntmps119, List.size_toArray, List.length_cons, List.length_nil, Nat.reduceAdd, Nat.reduceSub, Array.replicate_succ, Array.replicate_zero, List.push_toArray, List.append_toArray, List.nil_append, List.cons_append]
  gi_wp2_with fail
  refine ⟨trivial, ?_⟩
  ((with_reducible refine (callsIn_wide.2 (HCn.out _)).mono ?_))
  rintro e w' ⟨rfl, rfl⟩
  gi_wp2_with fail
  refine ⟨trivial, ?_⟩
  ((with_reducible refine (callsIn_wide.2 (HP.out _)).mono ?_))
  rintro e w' ⟨rfl, rfl⟩
  gi_wp2_with fail
  have bR := Boxed.new w 9 (.string ⟨#[]⟩)
  have bF := Boxed.new (w.alloc (.cells #[.string ⟨#[]⟩] 9)) 4 (.bool false)
  rw [World.size_alloc] at bF
  have bL := Boxed.new ((w.alloc (.cells #[.string ⟨#[]⟩] 9)).alloc (.cells #[.bool false] 4)) 9 (.string ⟨#[]⟩)
  rw [World.size_alloc, World.size_alloc] at bL
  have bC := Boxed.new (((w.alloc (.cells #[.string ⟨#[]⟩] 9)).alloc (.cells #[.bool false] 4)).alloc (.cells #[.string ⟨#[]⟩] 9)) 9 (.string C)
  rw [World.size_alloc, World.size_alloc, World.size_alloc] at bC
  have hB0 : Below w.heap.size w ((((w.alloc (.cells #[.string ⟨#[]⟩] 9)).alloc (.cells #[.bool false] 4)).alloc (.cells #[.string ⟨#[]⟩] 9)).alloc (.cells #[.string C] 9)) := ((((Below.refl _ w).alloc (Nat.le_refl _) _).alloc (by simp) _).alloc (by simp; omega) _).alloc (by simp; omega) _
  have bR' := ((bR.alloc (.cells #[.bool false] 4)).alloc (.cells #[.string ⟨#[]⟩] 9)).alloc (.cells #[.string C] 9)
  have bF' := (bF.alloc (.cells #[.string ⟨#[]⟩] 9)).alloc (.cells #[.string C] 9)
  have bL' := bL.alloc (.cells #[.string C] 9)
  have hzW : ((((w.alloc (.cells #[.string ⟨#[]⟩] 9)).alloc (.cells #[.bool false] 4)).alloc (.cells #[.string ⟨#[]⟩] 9)).alloc (.cells #[.string C] 9)).heap.size = w.heap.size + 4 := by simp
  generalize ((((w.alloc (.cells #[.string ⟨#[]⟩] 9)).alloc (.cells #[.bool false] 4)).alloc (.cells #[.string ⟨#[]⟩] 9)).alloc (.cells #[.string C] 9)) = W0 at *
  clear bR bF bL
  refine wpIn_rangeFunc_ownG rfl (by omega) (gf := 214) (lb := #[.pointer (some ⟨w.heap.size + 1 + 1 + 1, 0, none⟩)]) rfl trivial (enters_of Tryz.func214 (by kernel_rfl) rfl)
    (parts_stops 4 (by omega) (w.heap.size + 1 + 1 + 1) C (by omega) _ bC) (Kp := KpB (w.heap.size + 1 + 1 + 1)) (fun h1 h2 => h2.trans h1) (fun W l o o' hl ho hc _ => World.putObj_heap_other (fun e => by omega)) (Below.refl _ _) (fun _ => rfl)
    (fun (pre : List Pt) W => (Boxed W (w.heap.size + 1 + 1) 9 (.string (mk (letsP pre))) ∧ Boxed W (w.heap.size + 1 + 1 + 1) 9 (.string C)) ∧ (Boxed W w.heap.size 9 (.string ⟨#[]⟩) ∧ Boxed W (w.heap.size + 1) 4 (.bool false)) ∧ (goodP pre ∧ pre.length ≤ 32) ∧ Below w.heap.size w W)
    (fun c (pre : List Pt) W => (c = Code.ret ∧ ∃ pr x, pre = pr ++ [x] ∧ (letP (bytesL x.1) = [] ∨ 32 ≤ pr.length)) ∧ (Boxed W w.heap.size 9 (.string ⟨#[]⟩) ∧ Boxed W (w.heap.size + 1) 4 (.bool false)) ∧ Below w.heap.size w W)
    (OwnFrom.and (OwnFrom.and (Own.from (boxed_own _ _ (fun pre => .string (mk (letsP pre)))) _) (Own.from (boxed_own _ _ (fun _ => .string C)) _)) (OwnFrom.and (OwnFrom.and (Own.from (boxed_own _ _ (fun _ => .string ⟨#[]⟩)) _) (Own.from (boxed_own _ _ (fun _ => .bool false)) _)) (OwnFrom.and (ownFrom_pure _ _) (ownFrom_below (Nat.le_refl _) (by omega)))))
    (fun c => OwnFrom.and (ownFrom_pure _ _) (OwnFrom.and (OwnFrom.and (Own.from (boxed_own _ _ (fun _ => .string ⟨#[]⟩)) _) (Own.from (boxed_own _ _ (fun _ => .bool false)) _)) (ownFrom_below (Nat.le_refl _) (by omega))))
    ⟨⟨bL', bC⟩, ⟨bR', bF'⟩, ⟨fun x hx => (by cases hx), by simp⟩, hB0⟩
    (fun (x : Pt) => { tmps := #[.string s, undef, .pointer (some ⟨w.heap.size, 0, none⟩), .pointer (some ⟨w.heap.size + 1, 0, none⟩), .pointer (some ⟨w.heap.size + 1 + 1, 0, none⟩), .string x.1, undef, .string s, .bool true, .bool false, .string s, .func (.func 214) #[] #[.pointer (some ⟨w.heap.size + 1 + 1 + 1, 0, none⟩)], .string x.1, undef, undef, undef, undef, undef, undef, undef, undef, undef, undef, undef, undef, undef, undef], defers := [] }) ?assign ?body ?done ?stop
  case assign =>
    intro l x W K hK
    gi_wp2_with fail
    exact hK
  case body =>
    rintro l pre x W ⟨⟨hL, hsB⟩, ⟨hr1, hr2⟩, ⟨hg, hlen⟩, hB⟩ hlt
    have HT := Lib.hid fun W => CallsIn.inRound l ((callsIn_wide (n := 5 - 1 - 1 - 1)).2 (t_trim x.1 W x.2))
    have hxt : (mk (trimS (bytesL x.1))).size ≤ 1000000 := by rw [mk_size]; have := trimS_len (bytesL x.1); rw [bytesL_length] at this; have := x.2; omega
    have HR1 : Hid (∀ W1, CallsIn (Fence.wide.inRound l) (5 - 1 - 1 - 1) Tryz.prog 172 #[.string (mk (trimS (bytesL x.1)))] W1 fun e w' => e = .returned (.string (mk (letP (bytesL x.1)))) ∧ Below W1.heap.size W1 w') := Lib.hid fun W1 => by
      have h := CallsIn.inRound l ((callsIn_wide (n := 5 - 1 - 1 - 1)).2 (t_align1 (mk (trimS (bytesL x.1))) W1 hxt))
      rw [bytesL_mk'] at h
      exact h
    have hls : (mk (letsP pre)).size = pre.length := by rw [mk_size, letsP_len pre hg]
    have HLs := Lib.hid (letsP_snoc pre x)
    have HG := Lib.hid hg
    clear hg
    have hml := mk_size (letP (bytesL x.1))
    have hl1 : (letP (bytesL x.1)).length ≤ 1 := letL_len _
    generalize hLp : mk (letsP pre) = Lb at *
    have HLp := Lib.hid hLp
    clear hLp
    generalize mk (trimS (bytesL x.1)) = T at *
    by_cases h0 : letP (bytesL x.1) = []
    · have HR1' : Hid (∀ W1, CallsIn (Fence.wide.inRound l) (5 - 1 - 1 - 1) Tryz.prog 172 #[.string T] W1 fun e w' => e = .returned (.string ⟨#[]⟩) ∧ Below W1.heap.size W1 w') := Lib.hid (by rw [h0] at HR1; exact HR1.out)
      have H0 := Lib.hid h0
      clear h0 HR1
      gi_wp2_with fail
      refine ⟨trivial, ?_⟩
      ((with_reducible refine (HT.out _).mono ?_))
      rintro e w' ⟨rfl, rfl⟩
      gi_wp2_with fail
      refine ⟨trivial, ?_⟩
      ((with_reducible refine (HR1'.out _).mono ?_))
      rintro e W1 ⟨rfl, b1⟩
      have gr1 : Boxed W1 w.heap.size 9 (.string ⟨#[]⟩) := (b1.block _ hr1.lt).trans hr1
      have gr2 : Boxed W1 (w.heap.size + 1) 4 (.bool false) := (b1.block _ hr2.lt).trans hr2
      have q1 : Boxed ((W1.setCell ⟨w.heap.size, 0, none⟩ (.string ⟨#[]⟩)).setCell ⟨w.heap.size + 1, 0, none⟩ (.bool false)) w.heap.size 9 (.string ⟨#[]⟩) := (gr1.set _).kept (grownBy_setCell' _ (w.heap.size + 1) _) (by simp)
      have q2 : Boxed ((W1.setCell ⟨w.heap.size, 0, none⟩ (.string ⟨#[]⟩)).setCell ⟨w.heap.size + 1, 0, none⟩ (.bool false)) (w.heap.size + 1) 4 (.bool false) := (gr2.kept (grownBy_setCell' W1 w.heap.size _) (by simp)).set _
      have k1 := gr1.cell
      have k2 := gr2.cell
      have k2' := (gr2.kept (grownBy_setCell' W1 w.heap.size (.string ⟨#[]⟩)) (by simp)).cell
      have k3 := gr1.frozen
      have k4 := gr2.frozen
      gi_wp2_with fail
      exact ⟨((keeps_of_below b1).trans ((KeepsOthers.setCell _ _ _).trans (KeepsOthers.setCell _ _ _))).from _, ⟨rfl, pre, x, rfl, Or.inl H0.out⟩, ⟨q1, q2⟩, ((hB.trans (b1.mono hB.size)).setCell (p := ⟨w.heap.size, 0, none⟩) (Nat.le_refl _) _).setCell (p := ⟨w.heap.size + 1, 0, none⟩) (by show w.heap.size ≤ w.heap.size + 1; omega) _⟩
    · obtain ⟨x1, x2⟩ := cons_list (mk (letP (bytesL x.1))) (by rw [bytesL_mk']; exact h0)
      have H0 := Lib.hid h0
      clear h0
      have cat : ∀ w : World, (Op.stringOp .add Lb (mk (letP (bytesL x.1)))).run Tryz.prog w = .ok (.string (mk (letsP (pre ++ [x])))) w := fun w => by
        rw [HLs.out, ← HLp.out]
        refine cat_mk w _ _ _ ?_ (by rw [bytesL_mk'])
        have : (letsP pre).length = pre.length := by rw [← hls, ← HLp.out, mk_size]
        omega
      generalize hL2 : mk (letsP (pre ++ [x])) = Lb2 at *
      have HL2 := Lib.hid hL2
      clear hL2
      generalize mk (letP (bytesL x.1)) = Y at *
      by_cases h32 : 32 ≤ pre.length
      · gi_wp2_with fail
        refine ⟨trivial, ?_⟩
        ((with_reducible refine (HT.out _).mono ?_))
        rintro e w' ⟨rfl, rfl⟩
        gi_wp2_with fail
        refine ⟨trivial, ?_⟩
        ((with_reducible refine (HR1.out _).mono ?_))
        rintro e W1 ⟨rfl, b1⟩
        have gr1 : Boxed W1 w.heap.size 9 (.string ⟨#[]⟩) := (b1.block _ hr1.lt).trans hr1
        have gr2 : Boxed W1 (w.heap.size + 1) 4 (.bool false) := (b1.block _ hr2.lt).trans hr2
        have gL : Boxed W1 (w.heap.size + 1 + 1) 9 (.string Lb) := (b1.block _ hL.lt).trans hL
        have q1 : Boxed ((W1.setCell ⟨w.heap.size, 0, none⟩ (.string ⟨#[]⟩)).setCell ⟨w.heap.size + 1, 0, none⟩ (.bool false)) w.heap.size 9 (.string ⟨#[]⟩) := (gr1.set _).kept (grownBy_setCell' _ (w.heap.size + 1) _) (by simp)
        have q2 : Boxed ((W1.setCell ⟨w.heap.size, 0, none⟩ (.string ⟨#[]⟩)).setCell ⟨w.heap.size + 1, 0, none⟩ (.bool false)) (w.heap.size + 1) 4 (.bool false) := (gr2.kept (grownBy_setCell' W1 w.heap.size _) (by simp)).set _
        have k0 := gL.cell
        have k1 := gr1.cell
        have k2 := gr2.cell
        have k2' := (gr2.kept (grownBy_setCell' W1 w.heap.size (.string ⟨#[]⟩)) (by simp)).cell
        have k3 := gr1.frozen
        have k4 := gr2.frozen
        gi_wp2_with fail
        exact ⟨((keeps_of_below b1).trans ((KeepsOthers.setCell _ _ _).trans (KeepsOthers.setCell _ _ _))).from _, ⟨rfl, pre, x, rfl, Or.inr h32⟩, ⟨q1, q2⟩, ((hB.trans (b1.mono hB.size)).setCell (p := ⟨w.heap.size, 0, none⟩) (Nat.le_refl _) _).setCell (p := ⟨w.heap.size + 1, 0, none⟩) (by show w.heap.size ≤ w.heap.size + 1; omega) _⟩
      · have hgn : Hid (goodP (pre ++ [x])) := Lib.hid (fun y hy => by
          rcases List.mem_append.1 hy with hy | hy
          · exact HG.out y hy
          · rw [List.mem_singleton] at hy; rw [hy]; exact H0.out)
        gi_wp2_with fail
        refine ⟨trivial, ?_⟩
        ((with_reducible refine (HT.out _).mono ?_))
        rintro e w' ⟨rfl, rfl⟩
        gi_wp2_with fail
        refine ⟨trivial, ?_⟩
        ((with_reducible refine (HR1.out _).mono ?_))
        rintro e W1 ⟨rfl, b1⟩
        have gr1 : Boxed W1 w.heap.size 9 (.string ⟨#[]⟩) := (b1.block _ hr1.lt).trans hr1
        have gr2 : Boxed W1 (w.heap.size + 1) 4 (.bool false) := (b1.block _ hr2.lt).trans hr2
        have gL : Boxed W1 (w.heap.size + 1 + 1) 9 (.string Lb) := (b1.block _ hL.lt).trans hL
        have gC : Boxed W1 (w.heap.size + 1 + 1 + 1) 9 (.string C) := (b1.block _ hsB.lt).trans hsB
        have k0 := gL.cell
        have k5 := gL.frozen
        gi_wp2_with fail
        have gC2 : Boxed (W1.setCell ⟨w.heap.size + 1 + 1, 0, none⟩ (.string Lb2)) (w.heap.size + 1 + 1 + 1) 9 (.string C) := gC.kept (grownBy_setCell' W1 (w.heap.size + 1 + 1) _) (by simp)
        exact ⟨((keeps_of_below b1).trans (KeepsOthers.setCell _ _ _)).from _, gC2.trans hsB.symm, ⟨by rw [HL2.out]; exact gL.set _, gC2⟩, ⟨gr1.kept (grownBy_setCell' W1 (w.heap.size + 1 + 1) _) (by simp; omega), gr2.kept (grownBy_setCell' W1 (w.heap.size + 1 + 1) _) (by simp)⟩, ⟨hgn.out, by simp; omega⟩, (hB.trans (b1.mono hB.size)).setCell (p := ⟨w.heap.size + 1 + 1, 0, none⟩) (by show w.heap.size ≤ w.heap.size + 1 + 1; omega) _⟩
  case done =>
    rintro D ys W hD rfl ⟨⟨hL, hsB⟩, ⟨hr1, hr2⟩, ⟨hg, hlen⟩, hB⟩ hK
    have HE := Lib.hid (aln_done _ HM.out hg hlen)
    clear hg
    generalize hLp : mk (letsP ((restP C 0 0).map toPt)) = Lb at *
    have HLp := Lib.hid hLp
    clear hLp
    have k0 := hL.cell
    have k1 := hr1.cell
    have k3 := hr1.frozen
    have k2 := hr2.cell
    have k2' := (hr2.kept (grownBy_setCell' W w.heap.size (.string Lb)) (by simp)).cell
    have k4 := hr2.frozen
    have q1 : Boxed ((W.setCell ⟨w.heap.size, 0, none⟩ (.string Lb)).setCell ⟨w.heap.size + 1, 0, none⟩ (.bool true)) w.heap.size 9 (.string Lb) := (hr1.set _).kept (grownBy_setCell' _ (w.heap.size + 1) _) (by simp)
    have q2 : Boxed ((W.setCell ⟨w.heap.size, 0, none⟩ (.string Lb)).setCell ⟨w.heap.size + 1, 0, none⟩ (.bool true)) (w.heap.size + 1) 4 (.bool true) := (hr2.kept (grownBy_setCell' W w.heap.size _) (by simp)).set _
    have q3 : Below w.heap.size w ((W.setCell ⟨w.heap.size, 0, none⟩ (.string Lb)).setCell ⟨w.heap.size + 1, 0, none⟩ (.bool true)) := (hB.setCell (p := ⟨w.heap.size, 0, none⟩) (Nat.le_refl _) _).setCell (p := ⟨w.heap.size + 1, 0, none⟩) (by show w.heap.size ≤ w.heap.size + 1; omega) _
    have hK' := ((KeepsOthers.setCell W ⟨w.heap.size, 0, none⟩ (.string Lb)).trans (KeepsOthers.setCell _ ⟨w.heap.size + 1, 0, none⟩ (.bool true))).same D _ hK rfl
    gi_wp2_with fail
    refine ⟨by simp, .inl ⟨_, _, rfl, run_takeDeferred hK', ?_⟩⟩
    have c1 := cell_kept q1.cell (grownBy_putObj' _ D (.deferred none)) (fun r e => by cases e; exact ⟨_, hK', rfl⟩)
    have c2 := cell_kept q2.cell (grownBy_putObj' _ D (.deferred none)) (fun r e => by cases e; exact ⟨_, hK', rfl⟩)
    refine ⟨.tuple #[.string Lb, .bool true], by simp [results, Tryz.results119, go_sem, c1, c2], ?_, q3.trans (belowK_b (w := w) (Nat.le_refl _) _ D _ _ (by omega) hK' rfl rfl)⟩
    rw [HF.out, HE.out, ← HLp.out]; rfl
  case stop =>
    rintro D c pre W hD hpre ⟨⟨rfl, pr, x, rfl, hx⟩, ⟨hr1, hr2⟩, hB⟩ hK
    have HE := Lib.hid (aln_stop _ HM.out pr x hpre hx)
    gi_wp2_with fail
    refine ⟨by simp, .inl ⟨_, _, rfl, run_takeDeferred hK, ?_⟩⟩
    have c1 := cell_kept hr1.cell (grownBy_putObj' _ D (.deferred none)) (fun r e => by cases e; exact ⟨_, hK, rfl⟩)
    have c2 := cell_kept hr2.cell (grownBy_putObj' _ D (.deferred none)) (fun r e => by cases e; exact ⟨_, hK, rfl⟩)
    refine ⟨.tuple #[.string ⟨#[]⟩, .bool false], by simp [results, Tryz.results119, go_sem, c1, c2], ?_, hB.trans (belowK_b (w := w) (Nat.le_refl _) _ D _ _ (by omega) hK rfl rfl)⟩
    rw [HF.out, HE.out]; rfl

end Go.Proofs.YtpoafhgbhnblmaaGreatDoor
namespace Go.Pub
open Go.RowKit
/-- The cells of a line. -/
def cellsB (l : List UInt8) : List ByteArray := (partsL l).map fun p => mk (cellL p)
theorem cellsB_strs (l : List UInt8) : ((partsL l).map fun p => Value.string (mk (cellL p))) = strs (cellsB l) := by unfold cellsB strs; rw [List.map_map]; rfl
theorem cellsB_len (l : List UInt8) : (cellsB l).length = (partsL l).length := by unfold cellsB; rw [List.length_map]
theorem partsL_len (l : List UInt8) : (partsL l).length ≤ l.length + 1 := by
  unfold partsL
  have h1 := splitGo_len (bytesL (coreB l)) false
  have h2 := coreB_size l
  rw [bytesL_length] at h1; omega
end Go.Pub
namespace Go.Proofs.YtpoafhgbhnblmaaGreatDoor
open Go.RowKit Go.Pub
def CellsPost (l : List UInt8) (w : World) (e : Ending) (W' : World) : Prop := ∃ A c, e = .returned (.slice A (cellsB l).length c) ∧ W'.ownsRow w.heap.size 9 1 (.slice A (cellsB l).length c) (cellsB l).length (strs (cellsB l)) ∧ Below w.heap.size w W'
theorem t_cellsP (s : ByteArray) (m : Int) (w : World) (hs : s.size ≤ 1000000) (hm : w.cell? ⟨0, 0, none⟩ = some (.int .i64 m)) : Calls Tryz.prog 120 #[.string s] w (CellsPost (bytesL s) w) := by
  refine (t_cells s m w hs hm).mono ?_
  rintro e W' ⟨v, rfl, hown, hb⟩
  rw [cellsB_strs, ← cellsB_len] at hown
  obtain ⟨A, c, rfl⟩ := own_slice hown
  exact ⟨A, c, rfl, hown, hb⟩
end Go.Proofs.YtpoafhgbhnblmaaGreatDoor
namespace Go.Pub
open Go.RowKit
/-- Whether two lines begin a table. -/
def headB (a b : List UInt8) : Bool := match alignR b with | none => false | some r => (cellsB a).length == r.length
theorem reads_block {w : World} {g : Nat} {t : TypeId} {zs : List ByteArray} (h : w.heap[g]? = some (.cells (strs zs).toArray t (0, 0))) : Reads w (g + 1) 1 (some ⟨g, 0, none⟩) zs.length (strs zs) := by
  refine ⟨by rw [strs_len]; omega, fun hn => ⟨_, rfl, by show g < g + 1; omega, fun j u hj => ?_⟩⟩
  have := cell_of_row w g j _ t (0, 0) h
  unfold Addr.add
  by_cases h0 : j = 0
  · subst h0; rw [if_pos rfl, this]; simpa using hj
  · rw [if_neg h0]
    show w.cell? ⟨g, 0 + j, none⟩ = _
    rw [Nat.zero_add, this]; simpa using hj
theorem alnR_len {l r : List UInt8} (h : alignR l = some r) : r.length ≤ 32 := by
  unfold alignR at h
  split at h
  · unfold alnL at h
    split at h
    · rename_i hh
      simp only [Option.some.injEq] at h
      subst h
      have hg : ∀ p ∈ partsL l, letP p ≠ [] := fun p hp e => by
        have := List.all_eq_true.1 hh.2 p hp
        rw [e] at this
        cases this
      rw [flat_len _ hg]; exact hh.1
    · simp at h
  · simp at h
end Go.Pub
namespace Go.Proofs.YtpoafhgbhnblmaaGreatDoor
open Go.RowKit Go.Pub
set_option maxRecDepth 100000 in
set_option maxHeartbeats 1000000 in
theorem t_head (a b : ByteArray) (m : Int) (w : World) (ha : a.size ≤ 1000000) (hb : b.size ≤ 1000000) (hm : w.cell? ⟨0, 0, none⟩ = some (.int .i64 m)) :
    Calls Tryz.prog 77 #[.string a, .string b] w fun e w' => e = .returned (.bool (headB (bytesL a) (bytesL b))) ∧ Below w.heap.size w w' := by
  have h0w : 0 < w.heap.size := World.block_lt_of_cell? _ _ hm
  have HA := Lib.hid fun W => t_align b W hb
  have HC := Lib.hid fun W (h : W.cell? ⟨0, 0, none⟩ = some (.int .i64 m)) => t_cellsP a m W ha h
  have HX : Hid (headB (bytesL a) (bytesL b) = match alignR (bytesL b) with | none => false | some r => (cellsB (bytesL a)).length == r.length) := Lib.hid rfl
  have hcl : (cellsB (bytesL a)).length ≤ 1000001 := by rw [cellsB_len]; have := partsL_len (bytesL a); rw [bytesL_length] at this; omega
  have HL : Hid (∀ r, alignR (bytesL b) = some r → r.length ≤ 32) := Lib.hid fun r h => alnR_len h
  unfold CellsPost at HC
  generalize headB (bytesL a) (bytesL b) = R at *
  generalize cellsB (bytesL a) = zs at *
  generalize alignR (bytesL b) = D at *
  cases D with
  | none =>
    have HF : Hid (R = false) := Lib.hid HX.out
    go_enter Tryz.func77, Tryz.ntmps77
    go_wp2_with fail
    ((with_reducible refine (HA.out _).mono ?_))
    rintro e w1 ⟨he, b1⟩
    dsimp only [alnVal] at he
    subst he
    go_wp2_with fail
    go_ret
    exact ⟨ret_bool HF.out.symm, b1⟩
  | some r =>
    have hrl := HL.out r rfl
    have HF : Hid (R = ((zs.length : Int) == ((mk r).size : Int))) := Lib.hid (by
      rw [HX.out, mk_size, Bool.eq_iff_iff]; simp only [beq_iff_eq]; omega)
    have hms : (mk r).size ≤ 32 := by rw [mk_size]; exact hrl
    go_enter Tryz.func77, Tryz.ntmps77
    go_wp2_with fail
    ((with_reducible refine (HA.out _).mono ?_))
    rintro e w1 ⟨he, b1⟩
    dsimp only [alnVal] at he
    subst he
    have hm1 : w1.cell? ⟨0, 0, none⟩ = some (.int .i64 m) := (b1.cell (p := ⟨0, 0, none⟩) h0w).trans hm
    have hz1 := b1.size
    go_wp2_with fail
    ((with_reducible refine (HC.out _ hm1).mono ?_))
    rintro e w2 ⟨A, c, rfl, hown, b2⟩
    clear hown
    go_wp2_with fail
    go_ret
    exact ⟨ret_bool HF.out.symm, b1.trans (b2.mono hz1)⟩

end Go.Proofs.YtpoafhgbhnblmaaGreatDoor
namespace Go.Pub
/-- The bytes of texts with a separator between them. -/
def joinL (sep : ByteArray) : List ByteArray → List UInt8
  | [] => []
  | x :: r => bytesL x ++ r.flatMap fun y => bytesL sep ++ bytesL y
def sizes (l : List ByteArray) : Nat := (l.map ByteArray.size).sum
theorem sizes_take (l : List ByteArray) (k : Nat) (h : k < l.length) : sizes (l.take (k + 1)) = sizes (l.take k) + l[k].size := by
  unfold sizes; rw [List.take_succ_eq_append_getElem h, List.map_append, List.sum_append]; simp
theorem sizes_le (l : List ByteArray) (k : Nat) : sizes (l.take k) ≤ sizes l := by
  unfold sizes
  rw [← List.take_append_drop k l, List.map_append, List.sum_append, List.take_append_drop]
  omega
theorem sizes_bd (M : Nat) : ∀ l : List ByteArray, (∀ x ∈ l, x.size ≤ M) → sizes l ≤ l.length * M
  | [], _ => by simp [sizes]
  | x :: l, h => by
    have := sizes_bd M l fun y hy => h y (List.mem_cons_of_mem _ hy)
    have h1 := h x (List.mem_cons_self ..)
    unfold sizes at this ⊢
    rw [List.map_cons, List.sum_cons, List.length_cons, Nat.succ_mul]
    omega
theorem strCells_eq (s : ByteArray) : Lib.strCells s = Lib.byteCells (bytesL s) := rfl
end Go.Pub
namespace Go.Proofs.YtpoafhgbhnblmaaGreatDoor
open Go.RowKit Go.Pub
set_option maxRecDepth 100000 in
set_option maxHeartbeats 1000000 in
theorem join_few (zs : List ByteArray) (A : Option Addr) (c B : Nat) (sep : ByteArray) (w : World) (hr : Reads w B 1 A zs.length (strs zs)) (hn : zs.length ≤ 1) :
    Calls Tryz.prog 122 #[.slice A zs.length c, .string sep] w fun e w' => e = .returned (.string (mk (joinL sep zs))) ∧ w = w' := by
  match zs, hn with
  | [], _ =>
    have HX : Hid (mk (joinL sep []) = ⟨#[]⟩) := Lib.hid rfl
    clear hr
    generalize mk (joinL sep []) = R at *
    go_enter Tryz.func122, Tryz.ntmps122
    go_wp2
    go_ret
    exact ⟨ret_str HX.out.symm, rfl⟩
  | [x], _ =>
    have HX : Hid (mk (joinL sep [x]) = x) := Lib.hid (by show mk (bytesL x ++ []) = x; rw [List.append_nil]; exact mk_bytesL x)
    generalize mk (joinL sep [x]) = R at *
    obtain ⟨b, off, rfl, hb, hcell⟩ := hr.row (by simp) (by omega)
    have hc := hcell 0 _ (strs_at [x] 0 (by simp))
    simp at hc
    clear hcell hr
    go_enter Tryz.func122, Tryz.ntmps122
    go_wp2
    go_ret
    exact ⟨ret_str HX.out.symm, rfl⟩

def JRel (zs : List ByteArray) (sep : ByteArray) (B0 : Nat) (w : World) (i : Value) (wr : World) : Prop :=
  ∃ (k : Nat) (acc : List UInt8), i = .int .i64 k ∧ k + 1 ≤ zs.length ∧ Lib.IsBuilderF 158 5 w.heap.size w.heap.size (Lib.byteCells acc) wr ∧ Below w.heap.size w wr ∧ Hid (acc = joinL sep (zs.take (k + 1))) ∧ acc.length ≤ sizes (zs.take (k + 1)) + k * sep.size ∧ w.heap.size < wr.heap.size
theorem joinL_succ (sep : ByteArray) (zs : List ByteArray) (k : Nat) (h : k + 1 < zs.length) : joinL sep (zs.take (k + 1 + 1)) = joinL sep (zs.take (k + 1)) ++ bytesL sep ++ bytesL zs[k + 1] := by
  match zs, h with
  | x :: r, h =>
    have h' : k < r.length := by simpa using h
    rw [List.take_succ_cons, List.take_succ_cons]
    show bytesL x ++ _ = bytesL x ++ _ ++ bytesL sep ++ bytesL (x :: r)[k + 1]
    rw [List.take_succ_eq_append_getElem h', List.flatMap_append]
    simp
set_option maxRecDepth 100000 in
set_option maxHeartbeats 600000 in
theorem join_many (zs : List ByteArray) (A : Option Addr) (c B : Nat) (sep : ByteArray) (w : World) (hr : Reads w B 1 A zs.length (strs zs)) (hB : B ≤ w.heap.size) (hn : 2 ≤ zs.length) (hc : zs.length ≤ c) (hl : zs.length ≤ 1000000) (ht : sizes zs ≤ 1000000000) (hsep : 0 < sep.size) (hsl : sep.size ≤ 1000) :
    Calls Tryz.prog 122 #[.slice A zs.length c, .string sep] w fun e w' => e = .returned (.string (mk (joinL sep zs))) ∧ Below w.heap.size w w' := by
  have HX : Hid (joinL sep zs = joinL sep (zs.take zs.length)) := Lib.hid (by rw [List.take_length])
  generalize joinL sep zs = R at *
  have HRd := Lib.hid hr
  obtain ⟨b, off, rfl, hb, hcell⟩ := hr.row (by omega) (by omega)
  have HC := Lib.hid fun k (hk : k < zs.length) => hcell k _ (strs_at zs k hk)
  have hc0 := HC.out 0 (by omega)
  clear hcell hr
  have z0 : ((zs.length : Int) == 0) = false := by rw [beq_eq_false_iff_ne]; omega
  have z1 : ((zs.length : Int) == 1) = false := by rw [beq_eq_false_iff_ne]; omega
  have hdv : 9223372036854775807 / 1000000 ≤ (9223372036854775807 : Int) / ((zs.length : Int) - 1) := Int.le_ediv_of_mul_le (by omega) (by omega)
  have hq : decide ((9223372036854775807 : Int) / ((zs.length : Int) - 1) ≤ (sep.size : Int)) = false := decide_eq_false (by omega)
  have hm1 : (sep.size : Int) * ((zs.length : Int) - 1) ≤ 1000 * 1000000 := by
    have := Int.mul_le_mul (a := (sep.size : Int)) (b := (zs.length : Int) - 1) (c := 1000) (d := 1000000) (by omega) (by omega) (by omega) (by omega)
    exact this
  have hm0 : 0 ≤ (sep.size : Int) * ((zs.length : Int) - 1) := Int.mul_nonneg (by omega) (by omega)
  clear hdv
  go_enter Tryz.func122, Tryz.ntmps122
  go_wp2_with fail
  go_loop [5, 41] (fun n i => ∃ k : Nat, i = .int .i64 k ∧ k ≤ zs.length ∧ n = .int .i64 ((sep.size : Int) * ((zs.length : Int) - 1) + (sizes (zs.take k) : Nat))) (fun _ i => zs.length - (intOf i).toNat)
  case atStart => exact ⟨0, rfl, by omega, by simp [sizes]⟩
  case round =>
    obtain ⟨k, rfl, hk, rfl⟩ := hrel
    have hsk := sizes_le zs k
    by_cases hlt : k < zs.length
    · have hck := HC.out k hlt
      have hs1 := Lib.hid (sizes_take zs k hlt)
      have hs2 := sizes_le zs (k + 1)
      have hs3 : sizes (zs.take k) + zs[k].size ≤ 1000000000 := by rw [← hs1.out]; omega
      go_wp2
      go_round
      case rel => exact ⟨k + 1, by go_num, by omega, by rw [hs1.out]; go_num⟩
      case measure => simp [intOf]; omega
    · obtain rfl : k = zs.length := by omega
      have htl := Lib.hid (List.take_length (l := zs))
      have hcast : Hid ((sep.size : Int) * ((zs.length : Int) - 1) + ((sizes zs : Nat) : Int) = ((sep.size * (zs.length - 1) + sizes zs : Nat) : Int)) := Lib.hid (by
        rw [Int.natCast_add, Int.natCast_mul, Int.natCast_sub (by omega)]; rfl)
      have hbig : sep.size * (zs.length - 1) + sizes zs ≤ 281474976710656 := by
        have := Nat.mul_le_mul (show sep.size ≤ 1000 from hsl) (show zs.length - 1 ≤ 1000000 by omega)
        omega
      have HG : Hid (Calls Tryz.prog 175 #[.pointer (some ⟨w.heap.size, 0, none⟩), .int .i64 ((sep.size : Int) * ((zs.length : Int) - 1) + ((sizes zs : Nat) : Int))] (w.alloc (.cells #[.pointer none, .slice none 0 0] 158)) fun e w' => e = .returned (.tuple #[]) ∧ Lib.IsBuilderF 158 5 w.heap.size w.heap.size (Lib.byteCells []) w' ∧ Below w.heap.size (w.alloc (.cells #[.pointer none, .slice none 0 0] 158)) w') := Lib.hid (by
        rw [hcast.out]
        refine (Tryz.Builder_Grow_fresh_cap w.heap.size w.heap.size (sep.size * (zs.length - 1) + sizes zs) _ (Nat.le_refl _) ?_ (by simp) hbig).mono ?_
        · exact heap_alloc_new w _
        · rintro e w' ⟨rfl, ⟨h1, h2⟩, _⟩
          exact ⟨rfl, Or.inr (Lib.BuilderAtF.of h1), h2⟩)
      clear hcast
      have hwc : ∀ (W : World), Below w.heap.size w W → W.cell? ⟨b, off, none⟩ = some (.string zs[0]) := fun W hW => (hW.cell (p := ⟨b, off, none⟩) (by show b < _; omega)).trans hc0
      have HWC := Lib.hid hwc
      clear hwc
      go_wp2_with fail
      ((with_reducible refine HG.out.mono ?_))
      rintro e W1 ⟨rfl, I1, b1⟩
      have bb1 : Below w.heap.size w W1 := ((Below.refl _ w).alloc (Nat.le_refl _) _).trans b1
      have hz1 := b1.size
      simp only [heap_alloc_size] at hz1
      have hd1 := HWC.out W1 bb1
      have KB1 := Lib.hid bb1
      clear bb1 b1
      go_wp2_with fail
      refine (writeString_k w.heap.size w.heap.size _ _ _ I1 (by have := sizes_take zs 0 (by omega); have := sizes_le zs 1; simp [Lib.byteCells_length] at *; omega) (by omega)).mono ?_
      rintro e W2 ⟨rfl, h2, b2, _⟩
      rw [strCells_eq, ← Lib.byteCells_append, List.nil_append] at h2
      have hz2 := b2.size
      have KB2 := Lib.hid (KB1.out.trans b2)
      clear b2 hd1
      have hcn : c ≠ 1 := by omega
      clear hq hm1 hm0 z0 z1 HG hbig hc0
      go_wp2_with fail
      go_loopw [65] (fun v wr => JRel zs sep B w v wr) (fun v _ => zs.length - (intOf v).toNat)
      case atStart =>
        refine ⟨0, bytesL zs[0], rfl, by omega, ?_, KB2.out, Lib.hid ?_, ?_, by omega⟩
        · exact Or.inr h2
        · match zs, hn with
          | x :: r, _ => show bytesL x = bytesL x ++ []; rw [List.append_nil]
        · have := sizes_take zs 0 (by omega)
          rw [bytesL_length]; omega
      case round =>
        obtain ⟨k, acc, rfl, hk, hI, hbw, Hacc, hal, hsz⟩ := hrel
        by_cases hlt : k + 1 < zs.length
        · have hck0 := HC.out (k + 1) hlt
          have hck : wr.cell? ⟨b, off + 1 + k, none⟩ = some (.string zs[k + 1]) := by
            rw [show off + 1 + k = off + (k + 1) by omega]
            exact (hbw.cell (p := ⟨b, off + (k + 1), none⟩) (by show b < _; omega)).trans hck0
          clear hck0
          have hs1 := sizes_take zs (k + 1) hlt
          have hs2 := sizes_le zs (k + 1 + 1)
          have hmul : k * sep.size ≤ 1000000 * 1000 := Nat.mul_le_mul (by omega) hsl
          have hmul2 : (k + 1) * sep.size = k * sep.size + sep.size := Nat.succ_mul _ _
          have HS1 := Lib.hid hs1
          have HM2 := Lib.hid hmul2
          have hlen1 : acc.length + sep.size ≤ 140737488355328 := by omega
          have hlen2 : acc.length + sep.size + zs[k + 1].size ≤ 140737488355328 := by omega
          have hjs := Lib.hid (joinL_succ sep zs k hlt)
          have hal2 : acc.length + sep.size + zs[k + 1].size ≤ sizes (zs.take (k + 1 + 1)) + (k + 1) * sep.size := by omega
          have HAL2 := Lib.hid hal2
          have hkl : k < zs.length - 1 := by omega
          clear hs1 hmul2 hal2
          go_wp2_with fail
          refine (writeString_k w.heap.size w.heap.size _ _ _ hI (by rw [Lib.byteCells_length]; exact hlen1) (by omega)).mono ?_
          rintro e W3 ⟨rfl, h3, b3, _⟩
          rw [strCells_eq, ← Lib.byteCells_append] at h3
          have hz3 := b3.size
          go_wp2_with fail
          refine (writeString_k w.heap.size w.heap.size _ _ _ (Or.inr h3) (by rw [Lib.byteCells_length, List.length_append, bytesL_length]; exact hlen2) (by omega)).mono ?_
          rintro e W4 ⟨rfl, h4, b4, _⟩
          rw [strCells_eq, ← Lib.byteCells_append] at h4
          have hz4 := b4.size
          go_wp2_with fail
          go_roundw
          case rel =>
            refine ⟨k + 1, acc ++ bytesL sep ++ bytesL zs[k + 1], by go_num, by omega, ?_, (hbw.trans b3).trans b4, Lib.hid (by rw [hjs.out, ← Hacc.out]), ?_, by omega⟩
            · exact Or.inr h4
            · rw [List.length_append, List.length_append, bytesL_length, bytesL_length]; exact HAL2.out
          case measure => simp [intOf]; omega
        · have hkl : ¬ k < zs.length - 1 := by omega
          have hkk : Hid (k + 1 = zs.length) := Lib.hid (by omega)
          go_wp2_with fail
          refine (Tryz.Builder_String_any_k w.heap.size w.heap.size acc _ hI (by omega)).mono ?_
          rintro e W1 ⟨rfl, h1, b1, _⟩
          go_wp2
          go_ret
          exact ⟨ret_str (by rw [HX.out, ← hkk.out, ← Hacc.out]; rfl), hbw.trans b1⟩

theorem join_any (zs : List ByteArray) (A : Option Addr) (c B : Nat) (sep : ByteArray) (w : World) (hr : Reads w B 1 A zs.length (strs zs)) (hB : B ≤ w.heap.size) (hc : zs.length ≤ c) (hl : zs.length ≤ 1000000) (ht : sizes zs ≤ 1000000000) (hsep : 0 < sep.size) (hsl : sep.size ≤ 1000) :
    Calls Tryz.prog 122 #[.slice A zs.length c, .string sep] w fun e w' => e = .returned (.string (mk (joinL sep zs))) ∧ Below w.heap.size w w' := by
  by_cases hn : 2 ≤ zs.length
  · exact join_many zs A c B sep w hr hB hn hc hl ht hsep hsl
  · exact (join_few zs A c B sep w hr (by omega)).mono fun e w' h => ⟨h.1, h.2 ▸ Below.refl _ _⟩
end Go.Proofs.YtpoafhgbhnblmaaGreatDoor
namespace Go.Proofs.YtpoafhgbhnblmaaGreatDoor
open Go.RowKit Go.Pub
theorem head_kind {c : ByteArray} {m : MkL} (h : headM c = some m) : m.kind = 2 := by
  unfold headM at h
  split at h
  · split at h
    · injection h with h; subst h; rfl
    · cases h
  · cases h
theorem rule_kind {c : ByteArray} {m : MkL} (h : ruleM c = some m) : m.kind = 3 := by
  unfold ruleM at h
  split at h
  · split at h
    · injection h with h; subst h; rfl
    · cases h
  · cases h
theorem quote_some {c : ByteArray} {ind : Nat} {m : MkL} (h : quoteM c ind = some m) : bt c 0 = 62 ∧ m = { kind := 4, off := ind + c.size - (stripB (tl1 c) 1).size, rest := stripB (tl1 c) 1 } := by
  unfold quoteM at h
  split at h
  · rename_i h0; injection h with h; exact ⟨h0, h.symm⟩
  · cases h
theorem bullet_some {c : ByteArray} {ind : Nat} {m : MkL} (h : bulletM c ind = some m) : m = { kind := 5, ch := c.extract 0 1, off := ind + 2, rest := tl1 (tl1 c) } := by
  unfold bulletM at h
  split at h
  · split at h
    · injection h with h; exact h.symm
    · cases h
  · cases h
theorem number_some {c : ByteArray} {ind : Nat} {m : MkL} (h : numberM c ind = some m) : ∃ k v, m = { kind := 6, n := v, ch := c.extract k (k + 1), off := ind + k + 2, info := c.extract 0 k, rest := tl1 (c.extract (k + 1) c.size) } := by
  unfold numberM numR at h
  split at h
  · split at h
    · injection h with h; exact ⟨_, _, h.symm⟩
    · cases h
  · cases h
theorem fence_some {c : ByteArray} {ind : Nat} {m : MkL} (h : fenceM c ind = some m) : m.kind = 7 := by
  unfold fenceM at h
  split at h
  · split at h
    · injection h with h; subst h; rfl
    · cases h
  · cases h
theorem math_kind {c : ByteArray} {m : MkL} (h : mathM c = some m) : m.kind = 8 := by
  unfold mathM at h
  split at h
  · injection h with h; subst h; rfl
  · cases h
theorem div_kind {c : ByteArray} {m : MkL} (h : divM c = some m) : m.kind = 9 := by
  unfold divM divT at h
  split at h
  · split at h
    · generalize onlyR _ = o at h
      cases o with
      | none => cases h
      | some a => injection h with h; subst h; rfl
    · cases h
  · cases h
theorem note_some {c : ByteArray} {m : MkL} (h : noteM c = some m) : cutB (c.extract 2 c.size) = true ∧ m = { kind := 10, info := cutHead (c.extract 2 c.size), off := 4, rest := stripB (tl1 (cutRest (c.extract 2 c.size))) 1 } := by
  unfold noteM noteX at h
  split at h
  · split at h
    · rename_i h0; injection h with h; exact ⟨h0.1, h.symm⟩
    · cases h
  · cases h
theorem defTitle_kind {L : ByteArray} {d : List UInt8} {A : ByteArray} {n : Nat} {m : MkL} (h : defTitle L d A n = some m) : m.kind = 11 := by
  unfold defTitle at h
  by_cases h1 : A.size = 0
  · rw [if_pos h1] at h; injection h with h; rw [← h]
  rw [if_neg h1] at h
  by_cases h2 : A.size = n
  · rw [if_pos h2] at h; cases h
  rw [if_neg h2] at h
  generalize titleR A 0 = o at h
  cases o with
  | none => cases h
  | some p =>
    obtain ⟨t, q⟩ := p
    simp only at h
    by_cases h3 : blankB (A.extract q A.size) = true
    · rw [if_pos h3] at h; injection h with h; rw [← h]
    · rw [if_neg h3] at h; cases h
theorem defTail_kind {L r : ByteArray} {m : MkL} (h : defTail L r = some m) : m.kind = 11 := by
  unfold defTail at h
  generalize destR r 0 = o at h
  cases o with
  | none => cases h
  | some p => exact defTitle_kind h
theorem def_kind {c : ByteArray} {m : MkL} (h : defM c = some m) : m.kind = 11 := by
  unfold defM at h
  by_cases h1 : bt c 0 = 91 ∧ cutB (tl1 c) = true ∧ Lib.hasPrefix (bytesL (cutRest (tl1 c))) [58] = true ∧ labelL (bytesL (cutHead (tl1 c))) ≠ []
  · rw [if_pos h1] at h; exact defTail_kind h
  · rw [if_neg h1] at h; cases h
theorem first_mem : ∀ (l : List (Option MkL)) (m : MkL), firstS l = some m → some m ∈ l
  | some x :: l, m, h => by injection h with h; subst h; exact List.mem_cons_self ..
  | none :: l, m, h => List.mem_cons_of_mem _ (first_mem l m h)
theorem sfx_mk (c : ByteArray) (a b : Nat) : mk (sfx (mk (sfx c a)) b) = mk (sfx c (a + b)) := by
  unfold sfx; rw [bytesL_mk', List.drop_drop]
theorem tl1_sfx (x : ByteArray) : tl1 x = mk (sfx x 1) := extract_drop x 1
theorem strip_sfx (x : ByteArray) (n : Nat) : stripB x n = mk (sfx x (min n (indA x 0))) := extract_drop x _
/-- The rest of a mark is the end of its line. -/
def RestAt (c : ByteArray) (ind : Nat) (m : MkL) : Prop := m.kind = 4 ∨ m.kind = 5 ∨ m.kind = 6 ∨ m.kind = 10 → ∃ j, m.rest = mk (sfx c j) ∧ (m.kind = 10 → m.off = 4) ∧ (m.kind ≠ 10 → m.off = ind + j)
theorem rdrs_rest (c : ByteArray) (ind : Nat) (h0 : 0 < c.size) (m : MkL) (h : some m ∈ rdrs c ind) : RestAt c ind m := by
  unfold rdrs at h
  simp only [List.mem_cons, List.not_mem_nil, or_false] at h
  intro hk
  rcases h with h | h | h | h | h | h | h | h | h | h
  · have := head_kind h.symm; omega
  · have := rule_kind h.symm; omega
  · obtain ⟨hq, rfl⟩ := quote_some h.symm
    have e : stripB (tl1 c) 1 = mk (sfx c (1 + min 1 (indA (tl1 c) 0))) := by rw [strip_sfx, tl1_sfx, sfx_mk, ← tl1_sfx]
    refine ⟨1 + min 1 (indA (tl1 c) 0), e, (fun h => by cases h), fun _ => ?_⟩
    have h1 := indA_le (tl1 c)
    have h2 := tl1_size c
    show ind + c.size - (stripB (tl1 c) 1).size = _
    rw [e, mk_size, sfx_len]
    omega
  · have := bullet_some h.symm
    subst this
    exact ⟨2, by show tl1 (tl1 c) = _; rw [tl1_sfx, tl1_sfx, sfx_mk], (fun h => by cases h), fun _ => rfl⟩
  · obtain ⟨k, v, rfl⟩ := number_some h.symm
    refine ⟨k + 2, ?_, (fun h => by cases h), fun _ => ?_⟩
    · show tl1 (c.extract (k + 1) c.size) = _
      rw [extract_drop, tl1_sfx, sfx_mk]
    · show ind + k + 2 = _; omega
  · have := fence_some h.symm; omega
  · have := math_kind h.symm; omega
  · have := div_kind h.symm; omega
  · obtain ⟨hc, rfl⟩ := note_some h.symm
    unfold cutB at hc
    have hc := of_decide_eq_true hc
    refine ⟨2 + (brk (bytesL (c.extract 2 c.size)) + 1) + (1 + min 1 (indA (tl1 (cutRest (c.extract 2 c.size))) 0)), ?_, fun _ => rfl, fun h => absurd rfl h⟩
    show stripB (tl1 (cutRest (c.extract 2 c.size))) 1 = _
    rw [strip_sfx]
    generalize min 1 (indA (tl1 (cutRest (c.extract 2 c.size))) 0) = q
    have e : cutRest (c.extract 2 c.size) = mk (sfx c (2 + (brk (bytesL (c.extract 2 c.size)) + 1))) := by
      unfold cutRest
      rw [if_pos hc, extract_drop, extract_drop, sfx_mk]
    rw [e, tl1_sfx, sfx_mk, sfx_mk]
  · have := def_kind h.symm; omega
theorem mark_rest (s : ByteArray) (hk : (markM s).kind = 4 ∨ (markM s).kind = 5 ∨ (markM s).kind = 6 ∨ (markM s).kind = 10) :
    (markM s).rest.size ≤ s.size ∧ s.extract (s.size - (markM s).rest.size) s.size = (markM s).rest ∧ ((markM s).kind = 10 → (markM s).off = 4) ∧ ((markM s).kind ≠ 10 → s.size - (markM s).rest.size = (markM s).off ∨ (markM s).rest.size = 0 ∧ s.size - (markM s).rest.size ≤ (markM s).off) := by
  have hR : (0 < (s.extract (indA s 0) s.size).size ∧ some (markM s) ∈ rdrs (s.extract (indA s 0) s.size) (indA s 0)) := by
    unfold markM at hk ⊢
    by_cases hb : blankB s = true
    · rw [if_pos hb] at hk
      have : (1 : Nat) = 4 ∨ (1 : Nat) = 5 ∨ (1 : Nat) = 6 ∨ (1 : Nat) = 10 := hk
      omega
    · rw [if_neg hb] at hk ⊢
      unfold markC at hk ⊢
      by_cases h3 : 3 < indA s 0
      · rw [if_pos h3] at hk
        have : (0 : Nat) = 4 ∨ (0 : Nat) = 5 ∨ (0 : Nat) = 6 ∨ (0 : Nat) = 10 := hk
        omega
      · rw [if_neg h3] at hk ⊢
        have h1 := indA_le s
        have h2 : indA s 0 ≠ s.size := fun e => hb (by unfold blankB; exact decide_eq_true e)
        refine ⟨by rw [ByteArray.size_extract]; omega, ?_⟩
        cases hf : firstS (rdrs (s.extract (indA s 0) s.size) (indA s 0)) with
        | none =>
          rw [hf] at hk
          have : (0 : Nat) = 4 ∨ (0 : Nat) = 5 ∨ (0 : Nat) = 6 ∨ (0 : Nat) = 10 := hk
          omega
        | some m => exact first_mem _ _ hf
  obtain ⟨h0, hm⟩ := hR
  obtain ⟨j, e1, e2, e3⟩ := rdrs_rest _ _ h0 _ hm hk
  have e4 : (markM s).rest = mk (sfx s (indA s 0 + j)) := by rw [e1, extract_drop, sfx_mk]
  have hz : (markM s).rest.size = s.size - (indA s 0 + j) := by rw [e4, mk_size, sfx_len]
  refine ⟨by omega, ?_, e2, fun h => ?_⟩
  · rw [hz, extract_drop, e4]
    rcases Nat.le_total (indA s 0 + j) s.size with h | h
    · rw [show s.size - (s.size - (indA s 0 + j)) = indA s 0 + j by omega]
    · rw [sfx_nil s _ h, sfx_nil s _ (by omega)]
  · have := e3 h
    omega
end Go.Proofs.YtpoafhgbhnblmaaGreatDoor
namespace Go.Proofs.YtpoafhgbhnblmaaGreatDoor
open Go.RowKit Go.Pub
theorem attrEnd_small (s : ByteArray) : SmallA s.size (attrEndR s).2 := by
  unfold attrEndR
  split
  · exact parseL_small s _
  · exact emptyA_small _
theorem mk_trim_le (s : ByteArray) (k : Nat) : (mk (trimS (sfx s k))).size ≤ s.size := by
  rw [mk_size]
  have h1 := trimS_len (sfx s k)
  rw [sfx_len] at h1
  omega
theorem head_small {c : ByteArray} {m : MkL} (h : headM c = some m) : SmallA c.size m.att ∧ m.off = 0 := by
  unfold headM at h
  generalize firstN c (· != 35) = n at h
  by_cases h1 : 1 ≤ n ∧ n ≤ 6
  · rw [if_pos h1] at h
    by_cases h2 : spB (c.extract n c.size) = true
    · rw [if_pos h2] at h
      injection h with h
      subst h
      exact ⟨small_mono (attrEnd_small _) (mk_trim_le c n), rfl⟩
    · rw [if_neg h2] at h; cases h
  · rw [if_neg h1] at h; cases h
theorem div_small {c : ByteArray} {m : MkL} (h : divM c = some m) : SmallA c.size m.att ∧ m.off = 0 := by
  unfold divM at h
  generalize firstN c (· != 58) = n at h
  by_cases h1 : 3 ≤ n
  · rw [if_pos h1] at h
    have hz := mk_trim_le c n
    generalize mk (trimS (sfx c n)) = T at h hz
    unfold divT at h
    by_cases h2 : nameB (T.extract 0 (nameN T)) = true
    · rw [if_pos h2] at h
      cases ho : onlyR (T.extract (nameN T) T.size) with
      | none => rw [ho] at h; cases h
      | some a =>
        rw [ho] at h
        injection h with h
        subst h
        exact ⟨small_mono (onlyR_small _ _ ho) (Nat.le_trans (extract_le _ _ _) hz), rfl⟩
    · rw [if_neg h2] at h; cases h
  · rw [if_neg h1] at h; cases h
theorem rule_small {c : ByteArray} {m : MkL} (h : ruleM c = some m) : m.att = emptyA ∧ m.off = 0 := by
  unfold ruleM at h
  split at h
  · split at h
    · injection h with h; subst h; exact ⟨rfl, rfl⟩
    · cases h
  · cases h
theorem fence_small {c : ByteArray} {ind : Nat} {m : MkL} (h : fenceM c ind = some m) : m.att = emptyA ∧ m.off = ind := by
  unfold fenceM at h
  split at h
  · split at h
    · injection h with h; subst h; exact ⟨rfl, rfl⟩
    · cases h
  · cases h
theorem math_small {c : ByteArray} {m : MkL} (h : mathM c = some m) : m.att = emptyA ∧ m.off = 0 := by
  unfold mathM at h
  split at h
  · injection h with h; subst h; exact ⟨rfl, rfl⟩
  · cases h
theorem defTitle_small {L : ByteArray} {d : List UInt8} {A : ByteArray} {n : Nat} {m : MkL} (h : defTitle L d A n = some m) : m.att = emptyA ∧ m.off = 0 := by
  unfold defTitle at h
  by_cases h1 : A.size = 0
  · rw [if_pos h1] at h; injection h with h; subst h; exact ⟨rfl, rfl⟩
  rw [if_neg h1] at h
  by_cases h2 : A.size = n
  · rw [if_pos h2] at h; cases h
  rw [if_neg h2] at h
  generalize titleR A 0 = o at h
  cases o with
  | none => cases h
  | some p =>
    obtain ⟨t, q⟩ := p
    simp only at h
    by_cases h3 : blankB (A.extract q A.size) = true
    · rw [if_pos h3] at h; injection h with h; subst h; exact ⟨rfl, rfl⟩
    · rw [if_neg h3] at h; cases h
theorem def_small {c : ByteArray} {m : MkL} (h : defM c = some m) : m.att = emptyA ∧ m.off = 0 := by
  unfold defM at h
  by_cases h1 : bt c 0 = 91 ∧ cutB (tl1 c) = true ∧ Lib.hasPrefix (bytesL (cutRest (tl1 c))) [58] = true ∧ labelL (bytesL (cutHead (tl1 c))) ≠ []
  · rw [if_pos h1] at h
    unfold defTail at h
    generalize destR _ 0 = o at h
    cases o with
    | none => cases h
    | some p => exact defTitle_small h
  · rw [if_neg h1] at h; cases h
theorem number_off {c : ByteArray} {ind : Nat} {m : MkL} (h : numberM c ind = some m) : m.att = emptyA ∧ m.off ≤ ind + 11 := by
  unfold numberM numR at h
  generalize numDig c = k at h
  generalize numVal c k = v at h
  by_cases h1 : (1 ≤ k ∧ k ≤ 9 ∧ k < c.size) ∧ (bt c k = 46 ∨ bt c k = 41)
  · rw [if_pos h1] at h
    by_cases h2 : spB (c.extract (k + 1) c.size) = true
    · rw [if_pos h2] at h
      injection h with h
      subst h
      exact ⟨rfl, by show ind + k + 2 ≤ _; omega⟩
    · rw [if_neg h2] at h; cases h
  · rw [if_neg h1] at h; cases h
theorem rdrs_small (c : ByteArray) (ind : Nat) (hi : ind ≤ 3) (m : MkL) (h : some m ∈ rdrs c ind) : SmallA c.size m.att ∧ m.off ≤ c.size + 14 := by
  have E : ∀ {n : Nat}, m.att = emptyA → SmallA n m.att := fun e => by rw [e]; exact emptyA_small _
  unfold rdrs at h
  simp only [List.mem_cons, List.not_mem_nil, or_false] at h
  rcases h with h | h | h | h | h | h | h | h | h | h
  · obtain ⟨h1, h2⟩ := head_small h.symm; exact ⟨h1, by omega⟩
  · obtain ⟨h1, h2⟩ := rule_small h.symm; exact ⟨E h1, by omega⟩
  · obtain ⟨_, rfl⟩ := quote_some h.symm; exact ⟨emptyA_small _, by show ind + c.size - _ ≤ _; omega⟩
  · have := bullet_some h.symm; subst this; exact ⟨emptyA_small _, by show ind + 2 ≤ _; omega⟩
  · obtain ⟨h1, h2⟩ := number_off h.symm; exact ⟨E h1, by omega⟩
  · obtain ⟨h1, h2⟩ := fence_small h.symm; exact ⟨E h1, by omega⟩
  · obtain ⟨h1, h2⟩ := math_small h.symm; exact ⟨E h1, by omega⟩
  · obtain ⟨h1, h2⟩ := div_small h.symm; exact ⟨h1, by omega⟩
  · obtain ⟨_, rfl⟩ := note_some h.symm; exact ⟨emptyA_small _, by show 4 ≤ _; omega⟩
  · obtain ⟨h1, h2⟩ := def_small h.symm; exact ⟨E h1, by omega⟩
theorem mark_small (s : ByteArray) : SmallA s.size (markM s).att ∧ (markM s).off ≤ s.size + 14 := by
  unfold markM
  by_cases hb : blankB s = true
  · rw [if_pos hb]; exact ⟨emptyA_small _, Nat.zero_le _⟩
  rw [if_neg hb]
  unfold markC
  by_cases h3 : 3 < indA s 0
  · rw [if_pos h3]; exact ⟨emptyA_small _, Nat.zero_le _⟩
  rw [if_neg h3]
  cases hf : firstS (rdrs (s.extract (indA s 0) s.size) (indA s 0)) with
  | none => exact ⟨emptyA_small _, Nat.zero_le _⟩
  | some m =>
    obtain ⟨h1, h2⟩ := rdrs_small _ _ (by omega) m (first_mem _ _ hf)
    have hz := extract_le s (indA s 0) s.size
    exact ⟨small_mono h1 hz, by show m.off ≤ _; omega⟩
end Go.Proofs.YtpoafhgbhnblmaaGreatDoor
namespace Go.Proofs.YtpoafhgbhnblmaaGreatDoor
open Go.RowKit Go.Pub
theorem number_info {c : ByteArray} {ind : Nat} {m : MkL} (h : numberM c ind = some m) : m.info.size ≤ c.size := by
  unfold numberM numR at h
  generalize numDig c = k at h
  generalize numVal c k = v at h
  by_cases h1 : (1 ≤ k ∧ k ≤ 9 ∧ k < c.size) ∧ (bt c k = 46 ∨ bt c k = 41)
  · rw [if_pos h1] at h
    by_cases h2 : spB (c.extract (k + 1) c.size) = true
    · rw [if_pos h2] at h
      injection h with h
      subst h
      show (c.extract 0 k).size ≤ c.size
      rw [ByteArray.size_extract]; omega
    · rw [if_neg h2] at h; cases h
  · rw [if_neg h1] at h; cases h
theorem rdrs_info (c : ByteArray) (ind : Nat) (m : MkL) (h : some m ∈ rdrs c ind) (h6 : m.kind = 6) : m.info.size ≤ c.size := by
  unfold rdrs at h
  simp only [List.mem_cons, List.not_mem_nil, or_false] at h
  rcases h with h | h | h | h | h | h | h | h | h | h
  · have := head_kind h.symm; omega
  · have := rule_kind h.symm; omega
  · obtain ⟨_, rfl⟩ := quote_some h.symm; exact absurd h6 (by decide : (4 : Nat) ≠ 6)
  · have := bullet_some h.symm; subst this; exact absurd h6 (by decide : (5 : Nat) ≠ 6)
  · exact number_info h.symm
  · have := fence_some h.symm; omega
  · have := math_kind h.symm; omega
  · have := div_kind h.symm; omega
  · obtain ⟨_, rfl⟩ := note_some h.symm; exact absurd h6 (by decide : (10 : Nat) ≠ 6)
  · have := def_kind h.symm; omega
theorem mark_info (s : ByteArray) (h6 : (markM s).kind = 6) : (markM s).info.size ≤ s.size := by
  unfold markM at h6 ⊢
  by_cases hb : blankB s = true
  · rw [if_pos hb] at h6; exact absurd h6 (by decide : (1 : Nat) ≠ 6)
  rw [if_neg hb] at h6 ⊢
  unfold markC at h6 ⊢
  by_cases h3 : 3 < indA s 0
  · rw [if_pos h3] at h6; exact absurd h6 (by decide : (0 : Nat) ≠ 6)
  rw [if_neg h3] at h6 ⊢
  cases hf : firstS (rdrs (s.extract (indA s 0) s.size) (indA s 0)) with
  | none => rw [hf] at h6; exact absurd h6 (by decide : (0 : Nat) ≠ 6)
  | some m =>
    rw [hf] at h6
    exact Nat.le_trans (rdrs_info _ _ m (first_mem _ _ hf) h6) (extract_le s (indA s 0) s.size)
theorem mkpost_val {m : MkL} {w w' : World} {e : Ending} (h : MkPost m w e w') : ∃ A c D d, e = .returned (.agg (m.cells (.slice A m.att.cl.length c) (.slice D m.att.pr.length d))) ∧ Below w.heap.size w w' := by
  obtain ⟨⟨_, rfl, C, P, rfl, o⟩, b⟩ := h
  obtain ⟨A, c, rfl⟩ := own_slice o.cls
  obtain ⟨D, d, rfl⟩ := own_slice o.prs
  exact ⟨A, c, D, d, rfl, b⟩
theorem number_kind {c : ByteArray} {ind : Nat} {m : MkL} (h : numberM c ind = some m) : m.kind = 6 := by
  unfold numberM numR at h
  generalize numDig c = k at h
  generalize numVal c k = v at h
  by_cases h1 : (1 ≤ k ∧ k ≤ 9 ∧ k < c.size) ∧ (bt c k = 46 ∨ bt c k = 41)
  · rw [if_pos h1] at h
    by_cases h2 : spB (c.extract (k + 1) c.size) = true
    · rw [if_pos h2] at h
      injection h with h
      subst h
      rfl
    · rw [if_neg h2] at h; cases h
  · rw [if_neg h1] at h; cases h
theorem rdrs_kind (c : ByteArray) (ind : Nat) (m : MkL) (h : some m ∈ rdrs c ind) : 2 ≤ m.kind ∧ m.kind ≤ 11 := by
  unfold rdrs at h
  simp only [List.mem_cons, List.not_mem_nil, or_false] at h
  rcases h with h | h | h | h | h | h | h | h | h | h
  · have := head_kind h.symm; omega
  · have := rule_kind h.symm; omega
  · obtain ⟨_, rfl⟩ := quote_some h.symm; exact (by decide : 2 ≤ (4 : Nat) ∧ (4 : Nat) ≤ 11)
  · have := bullet_some h.symm; subst this; exact (by decide : 2 ≤ (5 : Nat) ∧ (5 : Nat) ≤ 11)
  · have := number_kind h.symm; omega
  · have := fence_some h.symm; omega
  · have := math_kind h.symm; omega
  · have := div_kind h.symm; omega
  · obtain ⟨_, rfl⟩ := note_some h.symm; exact (by decide : 2 ≤ (10 : Nat) ∧ (10 : Nat) ≤ 11)
  · have := def_kind h.symm; omega
theorem mark_kinds (s : ByteArray) : (blankB s = true → (markM s).kind = 1) ∧ (blankB s = false → (markM s).kind = 0 ∨ 2 ≤ (markM s).kind ∧ (markM s).kind ≤ 11) := by
  unfold markM
  refine ⟨fun h => by rw [if_pos h], fun h => ?_⟩
  rw [if_neg (by rw [h]; exact Bool.false_ne_true)]
  unfold markC
  by_cases h3 : 3 < indA s 0
  · rw [if_pos h3]; exact .inl rfl
  rw [if_neg h3]
  cases hf : firstS (rdrs (s.extract (indA s 0) s.size) (indA s 0)) with
  | none => exact .inl rfl
  | some m => exact .inr (rdrs_kind _ _ m (first_mem _ _ hf))
end Go.Proofs.YtpoafhgbhnblmaaGreatDoor
namespace Go.Proofs.YtpoafhgbhnblmaaGreatDoor
open Go.RowKit Go.Pub
/-- A block: its line is a source text. -/
inductive BkT where
  | mk (kind level : Nat) (info text dest title : ByteArray) (att : AttrL) (line : ByteArray) (kids : List BkT)
/-- A leaf of a kind, or a block that only holds others. -/
def kidB (kind : Nat) (kids : List BkT) : BkT := .mk kind 0 ⟨#[]⟩ ⟨#[]⟩ ⟨#[]⟩ ⟨#[]⟩ emptyA ⟨#[]⟩ kids
def leafB (kind : Nat) (line : ByteArray) : BkT := .mk kind 0 ⟨#[]⟩ ⟨#[]⟩ ⟨#[]⟩ ⟨#[]⟩ emptyA line []
/-- Line number i. -/
def ln (zs : List ByteArray) (i : Nat) : ByteArray := zs.getD i ⟨#[]⟩
theorem ln_at (zs : List ByteArray) (i : Nat) (h : i < zs.length) : zs[i] = ln zs i := by
  unfold ln; rw [List.getD_eq_getElem?_getD, List.getElem?_eq_getElem h]; rfl
/-- The first index from i on, below n, that p holds of; or n. -/
def seekF (p : Nat → Bool) : Nat → Nat → Nat
  | 0, i => i
  | d + 1, i => if p i = true then i else seekF p d (i + 1)
def seek (p : Nat → Bool) (n i : Nat) : Nat := seekF p (n - i) i
theorem seekF_spec (p : Nat → Bool) : ∀ (d i : Nat), i ≤ seekF p d i ∧ seekF p d i ≤ i + d ∧ (∀ j, i ≤ j → j < seekF p d i → p j = false) ∧ (seekF p d i < i + d → p (seekF p d i) = true)
  | 0, i => ⟨Nat.le_refl _, Nat.le_refl _, fun j h1 h2 => absurd h2 (by show ¬ j < i; omega), fun h => absurd h (by show ¬ i < i + 0; omega)⟩
  | d + 1, i => by
    unfold seekF
    by_cases h : p i = true
    · rw [if_pos h]
      exact ⟨Nat.le_refl _, by omega, fun j h1 h2 => absurd h2 (by omega), fun _ => h⟩
    · rw [if_neg h]
      obtain ⟨h1, h2, h3, h4⟩ := seekF_spec p d (i + 1)
      refine ⟨by omega, by omega, fun j hj1 hj2 => ?_, fun hlt => h4 (by omega)⟩
      by_cases e : j = i
      · subst e; simpa using h
      · exact h3 j (by omega) hj2
theorem seek_spec (p : Nat → Bool) (n i : Nat) (hi : i ≤ n) : i ≤ seek p n i ∧ seek p n i ≤ n ∧ (∀ j, i ≤ j → j < seek p n i → p j = false) ∧ (seek p n i < n → p (seek p n i) = true) := by
  obtain ⟨h1, h2, h3, h4⟩ := seekF_spec p (n - i) i
  exact ⟨h1, by unfold seek; omega, h3, fun h => h4 (by unfold seek at h; omega)⟩
/-- It is the only one. -/
theorem seek_eq (p : Nat → Bool) (n i k : Nat) (hi : i ≤ k) (hk : k ≤ n) (hno : ∀ j, i ≤ j → j < k → p j = false) (hit : k < n → p k = true) : seek p n i = k := by
  obtain ⟨h1, h2, h3, h4⟩ := seek_spec p n i (by omega)
  rcases Nat.lt_trichotomy (seek p n i) k with h | h | h
  · have a := h4 (by omega)
    rw [hno _ h1 h] at a; cases a
  · exact h
  · have a := hit (by omega)
    rw [h3 k hi h] at a; cases a
/-- One behind the last index in [i, i + d) that q holds of; or i. -/
def lastN (q : Nat → Bool) (i : Nat) : Nat → Nat
  | 0 => i
  | d + 1 => if q (i + d) = true then i + d + 1 else lastN q i d
theorem lastN_le (q : Nat → Bool) (i : Nat) : ∀ d, i ≤ lastN q i d ∧ lastN q i d ≤ i + d
  | 0 => ⟨Nat.le_refl _, Nat.le_refl _⟩
  | d + 1 => by
    unfold lastN
    have := lastN_le q i d
    by_cases h : q (i + d) = true
    · rw [if_pos h]; omega
    · rw [if_neg h]; omega
/-- The lines from i to k. -/
def cutL (zs : List ByteArray) (i k : Nat) : List ByteArray := (zs.drop i).take (k - i)
theorem cutL_len (zs : List ByteArray) (i k : Nat) (h : i ≤ k) (hk : k ≤ zs.length) : (cutL zs i k).length = k - i := by
  unfold cutL; rw [List.length_take, List.length_drop]; omega
theorem ln_cut (zs : List ByteArray) (i k j : Nat) (hj : i + j < k) : ln (cutL zs i k) j = ln zs (i + j) := by
  unfold ln cutL
  rw [List.getD_eq_getElem?_getD, List.getD_eq_getElem?_getD, List.getElem?_take, if_pos (by omega), List.getElem?_drop]
def kindOf (zs : List ByteArray) (i : Nat) : Nat := (markM (ln zs i)).kind
/-- The lines joined, each with a line feed. -/
def joinN (zs : List ByteArray) : List UInt8 := zs.flatMap fun z => bytesL z ++ [10]
/-- What closes the block of the mark m, from i on. -/
def closeP (zs : List ByteArray) (m : MkL) (j : Nat) : Bool := (closesM (ln zs j) m.kind m.n m.ch).2
def closeI (zs : List ByteArray) (m : MkL) (i : Nat) : Nat := seek (closeP zs m) zs.length i
def closeA (zs : List ByteArray) (m : MkL) (i : Nat) : AttrL := if closeI zs m i < zs.length then (closesM (ln zs (closeI zs m i)) m.kind m.n m.ch).1 else emptyA
/-- The content of an item or note. -/
def contStop (zs : List ByteArray) (m : MkL) (j : Nat) : Bool := !blankB (ln zs j) && decide (indA (ln zs j) 0 < m.off)
def contTo (zs : List ByteArray) (i : Nat) (m : MkL) : Nat := lastN (fun j => !blankB (ln zs j)) (i + 1) (seek (contStop zs m) zs.length (i + 1) - (i + 1))
def contNo (zs : List ByteArray) (i : Nat) (m : MkL) : Bool := blankB m.rest && (decide (zs.length ≤ i + 1) || blankB (ln zs (i + 1)))
def contL (zs : List ByteArray) (i : Nat) (m : MkL) : List ByteArray × Nat :=
  if contNo zs i m = true then ([], i + 1) else (m.rest :: (cutL zs (i + 1) (contTo zs i m)).map fun z => stripB z m.off, contTo zs i m)
/-- Quotations. -/
def quoteTo (zs : List ByteArray) (i : Nat) : Nat := seek (fun j => !decide (kindOf zs j = 4)) zs.length i
def quoteIn (zs : List ByteArray) (i : Nat) : List ByteArray := (cutL zs i (quoteTo zs i)).map fun z => (markM z).rest
/-- Tables. -/
def headAt (zs : List ByteArray) (i : Nat) : Bool := decide (i + 1 < zs.length) && headB (bytesL (ln zs i)) (bytesL (ln zs (i + 1)))
def rowT (z : ByteArray) (n : Nat) : BkT := kidB 11 ((fitL (cellsB (bytesL z)) n).map (leafB 12))
def tableTo (zs : List ByteArray) (i : Nat) : Nat := seek (fun j => !decide (kindOf zs j = 0)) zs.length (i + 2)
def tableB (zs : List ByteArray) (i : Nat) (r : List UInt8) : BkT := .mk 10 0 (mk r) ⟨#[]⟩ ⟨#[]⟩ ⟨#[]⟩ emptyA ⟨#[]⟩ (rowT (ln zs i) r.length :: (cutL zs (i + 2) (tableTo zs i)).map fun z => rowT z r.length)
/-- Paragraphs. -/
def paraTo (zs : List ByteArray) (i : Nat) : Nat := seek (fun j => !decide (kindOf zs j = 0) || headAt zs j) zs.length (i + 1)
def paraB (zs : List ByteArray) (i : Nat) : BkT := leafB 1 (mk (joinL ⟨#[10]⟩ ((cutL zs i (paraTo zs i)).map fun z => mk (trimS (bytesL z)))))
/-- Lists: rec gives the blocks of an item's lines. -/
def nextNB (zs : List ByteArray) (i : Nat) : Nat := seek (fun j => !blankB (ln zs j)) zs.length i
def itemsF (rec : List ByteArray → Option (List BkT)) (zs : List ByteArray) : Nat → Nat → MkL → Option (List BkT × Nat)
  | 0, _, _ => none
  | f + 1, i, m =>
    match rec (contL zs i m).1 with
    | none => none
    | some kids =>
      if nextNB zs (contL zs i m).2 < zs.length ∧ sameR m (markM (ln zs (nextNB zs (contL zs i m).2))) = true then
        (itemsF rec zs f (nextNB zs (contL zs i m).2) (markM (ln zs (nextNB zs (contL zs i m).2)))).map fun r => (kidB 9 kids :: r.1, r.2)
      else some ([kidB 9 kids], (contL zs i m).2)
def listB (m : MkL) (kids : List BkT) : BkT := .mk (if m.kind = 6 then 8 else 7) (if m.kind = 6 then m.n else 0) ⟨#[]⟩ ⟨#[]⟩ ⟨#[]⟩ ⟨#[]⟩ emptyA ⟨#[]⟩ kids
/-- The block that begins on line i with the mark m, and the line behind it: rec1 one level deeper, rec2 two levels; d2, d3: whether two, three are left. -/
def blockT (rec1 rec2 : List ByteArray → Option (List BkT)) (d2 d3 : Bool) (zs : List ByteArray) (i : Nat) (m : MkL) : Option (BkT × Nat) :=
  if m.kind = 2 then some (.mk 2 m.n ⟨#[]⟩ ⟨#[]⟩ ⟨#[]⟩ ⟨#[]⟩ m.att m.rest [], i + 1)
  else if m.kind = 3 then some (kidB 5 [], i + 1)
  else if m.kind = 11 then some (.mk 15 0 m.info ⟨#[]⟩ m.dest m.title emptyA ⟨#[]⟩ [], i + 1)
  else if m.kind = 4 then (rec1 (quoteIn zs i)).map fun k => (kidB 6 k, quoteTo zs i)
  else if m.kind = 7 then some (.mk 3 0 m.info (mk (joinN ((cutL zs (i + 1) (closeI zs m (i + 1))).map fun z => stripB z m.off))) ⟨#[]⟩ ⟨#[]⟩ emptyA ⟨#[]⟩ [], min (closeI zs m (i + 1) + 1) zs.length)
  else if m.kind = 8 then some (.mk 4 0 ⟨#[]⟩ (mk (joinN (cutL zs (i + 1) (closeI zs m (i + 1))))) ⟨#[]⟩ ⟨#[]⟩ (closeA zs m (i + 1)) ⟨#[]⟩ [], min (closeI zs m (i + 1) + 1) zs.length)
  else if m.kind = 9 then (rec1 (cutL zs (i + 1) (closeI zs m (i + 1)))).map fun k => (.mk 13 0 m.info ⟨#[]⟩ ⟨#[]⟩ ⟨#[]⟩ m.att ⟨#[]⟩ k, min (closeI zs m (i + 1) + 1) zs.length)
  else if m.kind = 10 then (rec1 (contL zs i m).1).map fun k => (.mk 14 0 m.info ⟨#[]⟩ ⟨#[]⟩ ⟨#[]⟩ emptyA ⟨#[]⟩ k, (contL zs i m).2)
  else if m.kind = 5 ∨ m.kind = 6 then (if d2 = true then (itemsF rec2 zs (zs.length - i) i m).map fun r => (listB m r.1, r.2) else none)
  else if headAt zs i = true then (if d3 = true then some (tableB zs i ((alignR (bytesL (ln zs (i + 1)))).getD []), tableTo zs i) else none)
  else some (paraB zs i, paraTo zs i)
/-- The loop over the lines; f: rounds that are left. -/
def loopT (at_ : Nat → MkL → Option (BkT × Nat)) (zs : List ByteArray) : Nat → Nat → Option (List BkT × List (Nat × Nat))
  | 0, _ => some ([], [])
  | f + 1, i =>
    if zs.length ≤ i then some ([], [])
    else if blankB (ln zs i) = true then loopT at_ zs f (i + 1)
    else match at_ i (markM (ln zs i)) with
      | none => none
      | some (b, tq) => (loopT at_ zs f tq).map fun r => (b :: r.1, (i, tq) :: r.2)
/-- The blocks of lines, n levels left, and their ranges. -/
def blocksN : Nat → List ByteArray → Option (List BkT × List (Nat × Nat))
  | 0, zs => loopT (fun _ _ => none) zs zs.length 0
  | 1, zs => loopT (blockT (fun l => (blocksN 0 l).map (·.1)) (fun _ => none) false false zs) zs zs.length 0
  | n + 2, zs => loopT (blockT (fun l => (blocksN (n + 1) l).map (·.1)) (fun l => (blocksN n l).map (·.1)) true (decide (1 ≤ n)) zs) zs zs.length 0
end Go.Proofs.YtpoafhgbhnblmaaGreatDoor
namespace Go.Pub
open Go.RowKit
/-- As Reads, the memory's block being one of S. -/
def ReadsS (w : World) (S : Nat → Prop) (size : Nat) (A : Option Addr) (n : Nat) (xs : List Value) : Prop :=
  (xs.length = n * size ∧ n ≤ maxLen) ∧ (0 < n → ∃ ad, A = some ad ∧ S ad.block ∧ ∀ j u, xs[j]? = some u → w.cell? (ad.add j) = some u)
section
variable {w w' : World} {S S' : Nat → Prop} {size n B : Nat} {A : Option Addr} {xs : List Value}
theorem ReadsS.none_ : ReadsS w S size A 0 [] := ⟨⟨by simp, Nat.zero_le _⟩, fun h => absurd h (by omega)⟩
theorem ReadsS.keep (h : ReadsS w S size A n xs) (hk : ∀ g, S g → w'.heap[g]? = w.heap[g]?) (hS : ∀ g, S g → S' g) : ReadsS w' S' size A n xs :=
  ⟨h.1, fun hn => by
    obtain ⟨ad, e, hb, hc⟩ := h.2 hn
    exact ⟨ad, e, hS _ hb, fun j u hu => (World.cell?_of_block (hk _ (by rw [block_of_add]; exact hb))).trans (hc j u hu)⟩⟩
theorem ReadsS.row (h : ReadsS w S size A n xs) (hn : 0 < n) (hs : 0 < size) : ∃ b off, A = some ⟨b, off, none⟩ ∧ S b ∧ ∀ j u, xs[j]? = some u → w.cell? ⟨b, off + j, none⟩ = some u := by
  obtain ⟨ad, e, hb, hc⟩ := h.2 hn
  obtain ⟨b, off, sp⟩ := ad
  have hl : 0 < xs.length := by rw [h.1.1]; exact Nat.mul_pos hn hs
  have h0 := hc 0 _ (List.getElem?_eq_getElem hl)
  obtain rfl : sp = none := by simpa [Addr.add] using World.cell?_spot h0
  refine ⟨b, off, e, hb, fun j u hu => ?_⟩
  have := hc j u hu
  unfold Addr.add at this
  by_cases hj : j = 0
  · subst hj; simpa using this
  · simpa [hj] using this
theorem ReadsS.block {g : Nat} {t : TypeId} {cs : Array Value} (h : w.heap[g]? = some (.cells cs t (0, 0))) (hS : S g) (hl : cs.size = n * size) (hn : n ≤ maxLen) : ReadsS w S size (some ⟨g, 0, none⟩) n cs.toList := by
  refine ⟨⟨by rw [Array.length_toList]; exact hl, hn⟩, fun _ => ⟨_, rfl, hS, fun j u hj => ?_⟩⟩
  have := cell_of_row w g j _ t (0, 0) h
  unfold Addr.add
  by_cases h0 : j = 0
  · subst h0; rw [if_pos rfl, this]; simpa using hj
  · rw [if_neg h0]
    show w.cell? ⟨g, 0 + j, none⟩ = _
    rw [Nat.zero_add, this]; simpa using hj
theorem ReadsS.of_own {base c : Nat} {e : TypeId} (h : w.ownsRow base e size (.slice A n c) n xs) : ReadsS w (fun g => base ≤ g ∧ g < w.heap.size) size A n xs := by
  refine ⟨⟨h.1, ?_⟩, fun hn => ?_⟩
  · rcases h.2 with ⟨_, h0⟩ | ⟨g, cap, cur, _, _, _, h1, h2, _⟩
    · omega
    · exact Nat.le_trans h1 h2
  obtain ⟨g, cap, hv, hg1, hlt⟩ := h.form hn
  have hA : A = some ⟨g, 0, none⟩ := by injection hv
  subst hA
  exact ⟨_, rfl, ⟨hg1, hlt⟩, h.cells (g := g) rfl⟩
end
/-- The cells of a Text. -/
def textC (s : ByteArray) : List Value := [.int .i64 1, .string s, .string ⟨#[]⟩, .string ⟨#[]⟩, .string ⟨#[]⟩, .slice none 0 0, .slice none 0 0, .slice none 0 0, .slice none 0 0, .slice none 0 0]
/-- The inlines that stand for a source text. -/
def SrcV (w : World) (S : Nat → Prop) (v : Value) (s : ByteArray) : Prop := if s.size = 0 then v = .slice none 0 0 else ∃ A c, v = .slice A 1 c ∧ ReadsS w S 10 A 1 (textC s)
theorem SrcV.keep {w w' : World} {S S' : Nat → Prop} {v : Value} {s : ByteArray} (h : SrcV w S v s) (hk : ∀ g, S g → w'.heap[g]? = w.heap[g]?) (hS : ∀ g, S g → S' g) : SrcV w' S' v s := by
  unfold SrcV at h ⊢
  by_cases hz : s.size = 0
  · rw [if_pos hz] at h ⊢; exact h
  · rw [if_neg hz] at h ⊢
    obtain ⟨A, c, e, hr⟩ := h
    exact ⟨A, c, e, hr.keep hk hS⟩
end Go.Pub
namespace Go.Proofs.YtpoafhgbhnblmaaGreatDoor
open Go.RowKit Go.Pub
/-- What lies in a block's cells behind its attributes and lists. -/
structure AttR (w : World) (S : Nat → Prop) (a : AttrL) (A1 A2 : Option Addr) : Prop where
  cls : ReadsS w S 1 A1 a.cl.length (strs a.cl)
  prs : ReadsS w S 2 A2 a.pr.length (prs a.pr)
  c32 : a.cl.length ≤ 32
  p32 : a.pr.length ≤ 32
theorem AttR.keep {w w' : World} {S S' : Nat → Prop} {a : AttrL} {A1 A2 : Option Addr} (h : AttR w S a A1 A2) (hk : ∀ g, S g → w'.heap[g]? = w.heap[g]?) (hS : ∀ g, S g → S' g) : AttR w' S' a A1 A2 :=
  ⟨h.cls.keep hk hS, h.prs.keep hk hS, h.c32, h.p32⟩
theorem AttR.empty (w : World) (S : Nat → Prop) (A1 A2 : Option Addr) : AttR w S emptyA A1 A2 := ⟨ReadsS.none_, ReadsS.none_, by decide, by decide⟩
mutual
/-- The cells of a block. -/
inductive RepB (w : World) (S : Nat → Prop) : Array Value → BkT → Prop
  | mk (kind level : Nat) (info text dest title : ByteArray) (att : AttrL) (line : ByteArray) (kids : List BkT) (A1 A2 A4 : Option Addr) (c1 c2 c4 : Nat) (vL : Value) (vs : List (Array Value)) :
      AttR w S att A1 A2 → SrcV w S vL line → RepK w S vs kids → ReadsS w S 11 A4 kids.length (vs.flatMap Array.toList) →
      RepB w S #[.int .i64 kind, .int .i64 level, .string info, .string text, .string dest, .string title, .string att.id, .slice A1 att.cl.length c1, .slice A2 att.pr.length c2, vL, .slice A4 kids.length c4] (.mk kind level info text dest title att line kids)
/-- The cells of blocks, one after another. -/
inductive RepK (w : World) (S : Nat → Prop) : List (Array Value) → List BkT → Prop
  | nil : RepK w S [] []
  | cons (v : Array Value) (b : BkT) (vs : List (Array Value)) (bs : List BkT) : RepB w S v b → RepK w S vs bs → RepK w S (v :: vs) (b :: bs)
end

mutual
theorem RepB.keep {w w' : World} {S S' : Nat → Prop} (hk : ∀ g, S g → w'.heap[g]? = w.heap[g]?) (hS : ∀ g, S g → S' g) : ∀ {v : Array Value} {b : BkT}, RepB w S v b → RepB w' S' v b
  | _, _, .mk kind level info text dest title att line kids A1 A2 A4 c1 c2 c4 vL vs ha hl hr hc =>
    .mk kind level info text dest title att line kids A1 A2 A4 c1 c2 c4 vL vs (ha.keep hk hS) (hl.keep hk hS) (RepK.keep hk hS hr) (hc.keep hk hS)
theorem RepK.keep {w w' : World} {S S' : Nat → Prop} (hk : ∀ g, S g → w'.heap[g]? = w.heap[g]?) (hS : ∀ g, S g → S' g) : ∀ {vs : List (Array Value)} {bs : List BkT}, RepK w S vs bs → RepK w' S' vs bs
  | _, _, .nil => .nil
  | _, _, .cons v b vs bs h1 h2 => .cons v b vs bs (RepB.keep hk hS h1) (RepK.keep hk hS h2)
end
theorem RepK.len {w : World} {S : Nat → Prop} {vs : List (Array Value)} {bs : List BkT} (h : RepK w S vs bs) : vs.length = bs.length := by
  induction bs generalizing vs with
  | nil => cases h; rfl
  | cons b bs ih =>
    cases h with
    | cons v b vs bs h1 h2 => rw [List.length_cons, List.length_cons, ih h2]
theorem RepK.snoc {w : World} {S : Nat → Prop} {vs : List (Array Value)} {bs : List BkT} {v : Array Value} {b : BkT} (h : RepK w S vs bs) (hb : RepB w S v b) : RepK w S (vs ++ [v]) (bs ++ [b]) := by
  induction bs generalizing vs with
  | nil => cases h; exact .cons _ _ _ _ hb .nil
  | cons b' bs ih =>
    cases h with
    | cons v' b' vs bs h1 h2 => exact .cons _ _ _ _ h1 (ih h2)
theorem RepB.size {w : World} {S : Nat → Prop} {v : Array Value} {b : BkT} (h : RepB w S v b) : v.size = 11 := by
  cases h; rfl
theorem RepK.at_ {w : World} {S : Nat → Prop} : ∀ {vs : List (Array Value)} {bs : List BkT}, RepK w S vs bs → ∀ (k : Nat) (hk : k < bs.length), ∃ (v : Array Value), RepB w S v bs[k] ∧ ∀ i, i < 11 → (vs.flatMap Array.toList)[k * 11 + i]? = v[i]?
  | _, _, .nil, k, hk => absurd hk (by simp)
  | _, _, .cons v b vs bs h1 h2, 0, hk => ⟨v, h1, fun i hi => by
      have hl : v.toList.length = 11 := by rw [Array.length_toList]; exact h1.size
      rw [List.flatMap_cons, List.getElem?_append_left (by omega), Nat.zero_mul, Nat.zero_add, Array.getElem?_toList]⟩
  | _, _, .cons v b vs bs h1 h2, k + 1, hk => by
    obtain ⟨u, hu, hc⟩ := RepK.at_ h2 k (by simpa using hk)
    refine ⟨u, hu, fun i hi => ?_⟩
    have hl : v.toList.length = 11 := by rw [Array.length_toList]; exact h1.size
    rw [List.flatMap_cons, List.getElem?_append_right (by omega), hl, show (k + 1) * 11 + i - 11 = k * 11 + i by omega]
    exact hc i hi
/-- A slice of blocks. -/
def KidsV (w : World) (S : Nat → Prop) (v : Value) (bs : List BkT) : Prop := ∃ A c vs, v = .slice A bs.length c ∧ RepK w S vs bs ∧ ReadsS w S 11 A bs.length (vs.flatMap Array.toList)
theorem KidsV.keep {w w' : World} {S S' : Nat → Prop} {v : Value} {bs : List BkT} (h : KidsV w S v bs) (hk : ∀ g, S g → w'.heap[g]? = w.heap[g]?) (hS : ∀ g, S g → S' g) : KidsV w' S' v bs := by
  obtain ⟨A, c, vs, e, h1, h2⟩ := h
  exact ⟨A, c, vs, e, RepK.keep hk hS h1, h2.keep hk hS⟩
theorem KidsV.none_ (w : World) (S : Nat → Prop) : KidsV w S (.slice none 0 0) [] := ⟨none, 0, [], rfl, .nil, ReadsS.none_⟩
/-- What is new since there were B blocks. -/
def Rg (B : Nat) (w' : World) (g : Nat) : Prop := B ≤ g ∧ g < w'.heap.size
def rngs (rs : List (Nat × Nat)) : List Value := rs.flatMap fun r => [.int .i64 r.1, .int .i64 r.2]
def bkErr : Value := .tuple #[.slice none 0 0, .slice none 0 0, .int .i64 11]
/-- The blocks and ranges that are returned, or that a block lies too deep. -/
def BksPost (r : Option (List BkT × List (Nat × Nat))) (w : World) (e : Ending) (w' : World) : Prop :=
  Below w.heap.size w w' ∧ match r with
  | none => e = .returned bkErr
  | some p => ∃ v A c, e = .returned (.tuple #[v, .slice A p.2.length c, .int .i64 0]) ∧ KidsV w' (Rg w.heap.size w') v p.1 ∧ ReadsS w' (Rg w.heap.size w') 2 A p.2.length (rngs p.2)
/-- A block's cells. -/
def AnyB (v : Array Value) : Prop := ∃ (i0 i1 : Int) (s2 s3 s4 s5 s6 : ByteArray) (A7 : Option Addr) (n7 c7 : Nat) (A8 : Option Addr) (n8 c8 : Nat) (A9 : Option Addr) (n9 c9 : Nat) (A10 : Option Addr) (n10 c10 : Nat),
    v = #[.int .i64 i0, .int .i64 i1, .string s2, .string s3, .string s4, .string s5, .string s6, .slice A7 n7 c7, .slice A8 n8 c8, .slice A9 n9 c9, .slice A10 n10 c10]
/-- The block that is returned and the line behind it. -/
def BkPost (B : Nat) (r : Option (BkT × Nat)) (w : World) (e : Ending) (w' : World) : Prop :=
  Below w.heap.size w w' ∧ match r with
  | none => ∃ (v : Array Value) (u : Int), AnyB v ∧ e = .returned (.tuple #[.agg v, .int .i64 u, .int .i64 11])
  | some p => ∃ v, e = .returned (.tuple #[.agg v, .int .i64 p.2, .int .i64 0]) ∧ RepB w' (Rg B w') v p.1
theorem RepB.form {w : World} {S : Nat → Prop} {v : Array Value} {b : BkT} (h : RepB w S v b) : AnyB v := by
  cases h with
  | mk kind level info text dest title att line kids A1 A2 A4 c1 c2 c4 vL vs ha hl hr hc =>
    unfold SrcV at hl
    by_cases hz : line.size = 0
    · rw [if_pos hz] at hl; subst hl
      exact ⟨_, _, _, _, _, _, _, _, _, _, _, _, _, _, _, _, _, _, _, rfl⟩
    · rw [if_neg hz] at hl
      obtain ⟨A, c, rfl, hl⟩ := hl
      exact ⟨_, _, _, _, _, _, _, _, _, _, _, _, _, _, _, _, _, _, _, rfl⟩
theorem AnyB.len {v : Array Value} (h : AnyB v) : v.toList.length = 1 * 11 := by
  obtain ⟨i0, i1, s2, s3, s4, s5, s6, A7, n7, c7, A8, n8, c8, A9, n9, c9, A10, n10, c10, rfl⟩ := h
  rfl
theorem AnyB.one {v : Array Value} (h : AnyB v) : ∀ u ∈ v.toList, u.oneCell' = true := by
  obtain ⟨i0, i1, s2, s3, s4, s5, s6, A7, n7, c7, A8, n8, c8, A9, n9, c9, A10, n10, c10, rfl⟩ := h
  intro u hu
  simp only [List.mem_cons, List.not_mem_nil, or_false] at hu
  rcases hu with rfl | rfl | rfl | rfl | rfl | rfl | rfl | rfl | rfl | rfl | rfl <;> rfl
/-- Blocks in a row that the call owns; none of what is read of them lies in the row or in E. -/
def KOwn (w : World) (base : Nat) (E : Nat → Prop) (v : Value) (bs : List BkT) : Prop :=
  ∃ (S : Nat → Prop) (vs : List (Array Value)), (∀ g, S g → base ≤ g ∧ g < w.heap.size ∧ v.ownBlock ≠ some g ∧ ¬ E g) ∧ RepK w S vs bs ∧ w.ownsRow base 46 11 v bs.length (vs.flatMap Array.toList)
section
variable {w w' : World} {base : Nat} {E E' : Nat → Prop} {v : Value} {bs : List BkT}
theorem KOwn.nil (w : World) (base : Nat) (E : Nat → Prop) : KOwn w base E (.slice none 0 0) [] := ⟨fun _ => False, [], fun _ h => h.elim, .nil, World.ownsRow_nil _ _ _ _⟩
theorem KOwn.below (h : KOwn w base E v bs) (hb : Below w.heap.size w w') : KOwn w' base E v bs := by
  obtain ⟨S, vs, hS, hk, ho⟩ := h
  exact ⟨S, vs, fun g hg => ⟨(hS g hg).1, Nat.lt_of_lt_of_le (hS g hg).2.1 hb.size, (hS g hg).2.2⟩, hk.keep (fun g hg => hb.block g (hS g hg).2.1) fun _ h => h, own_below ho hb⟩
/-- Another row grows. -/
theorem KOwn.kept {g2 H : Nat} {v2 : Value} (h : KOwn w base (fun g => v2.ownBlock = some g) v bs) (hg : w.grownBy w' v2.ownBlock) (hne : v.ownBlock = none ∨ v.ownBlock ≠ v2.ownBlock) (hlies : v2.ownBlock = some g2 ∨ g2 = H) (hH : w.heap.size ≤ H) : KOwn w' base (fun g => some g2 = some g) v bs := by
  obtain ⟨S, vs, hS, hk, ho⟩ := h
  refine ⟨S, vs, fun g hs => ⟨(hS g hs).1, Nat.lt_of_lt_of_le (hS g hs).2.1 hg.size, (hS g hs).2.2.1, fun e => ?_⟩, hk.keep (fun g hs => hg.block g (hS g hs).2.1 fun e => (hS g hs).2.2.2 e.symm) fun _ h => h, ho.kept hg hne⟩
  injection e with e
  rcases hlies with hl | hl
  · exact (hS g hs).2.2.2 (by rw [hl, e])
  · have := (hS g hs).2.1; omega
/-- A block more. -/
theorem KOwn.push {S : Nat → Prop} {vs : List (Array Value)} {W1 w2 : World} {vb : Array Value} {b : BkT} {g cap H B : Nat} {tmp : Obj} (hS : ∀ g, S g → base ≤ g ∧ g < w.heap.size ∧ v.ownBlock ≠ some g ∧ ¬ E g) (hk : RepK w S vs bs) (hbl : Below w.heap.size w W1)
    (hv : ∀ k, v.ownBlock = some k → k < B) (hE : ∀ k, E k → k < B) (hB : base ≤ B) (hBw : B ≤ W1.heap.size)
    (hb : RepB W1 (Rg B W1) vb b) (hown : w2.ownsRow base 46 11 (.slice (some ⟨g, 0, none⟩) (bs.length + 1) cap) (bs.length + 1) (vs.flatMap Array.toList ++ vb.toList))
    (hgrow : (W1.alloc tmp).grownBy w2 v.ownBlock) (hlies : v.ownBlock = some g ∨ g = H) (hH : W1.heap.size ≤ H) :
    KOwn w2 base E (.slice (some ⟨g, 0, none⟩) (bs.length + 1) cap) (bs ++ [b]) := by
  have hsz := hgrow.size
  have hkeep : ∀ k, k < W1.heap.size → v.ownBlock ≠ some k → w2.heap[k]? = W1.heap[k]? := fun k hk hne =>
    (hgrow.block k (by simp; omega) fun e => hne e.symm).trans (Below.heap_alloc W1 tmp k hk)
  refine ⟨fun x => S x ∨ Rg B W1 x, vs ++ [vb], ?_, ?_, ?_⟩
  · rintro x (hx | hx)
    · have h1 := hS x hx
      have h2 := hbl.size
      refine ⟨h1.1, by simp at hsz; omega, ?_, h1.2.2.2⟩
      intro e
      have : g = x := by simpa [Value.ownBlock] using e
      subst this
      rcases hlies with hl | hl
      · exact h1.2.2.1 hl
      · omega
    · obtain ⟨h1, h2⟩ := hx
      refine ⟨by omega, by simp at hsz; omega, ?_, fun e => by have := hE x e; omega⟩
      intro e
      have : g = x := by simpa [Value.ownBlock] using e
      subst this
      rcases hlies with hl | hl
      · have := hv _ hl; omega
      · omega
  · refine RepK.snoc (hk.keep (fun x hx => ?_) fun _ h => .inl h) (hb.keep (fun x hx => hkeep x hx.2 fun e => ?_) fun _ h => .inr h)
    · have h1 := hS x hx
      have h2 := hbl.size
      exact (hkeep x (by omega) h1.2.2.1).trans (hbl.block x h1.2.1)
    · have := hv _ e
      have := hx.1
      omega
  · rw [List.flatMap_append, List.length_append]
    simpa using hown
theorem KOwn.kids (h : KOwn w base E v bs) : KidsV w (Rg base w) v bs := by
  obtain ⟨S, vs, hS, hk, ho⟩ := h
  obtain ⟨A, c, rfl⟩ := own_slice ho
  exact ⟨A, c, vs, rfl, hk.keep (fun _ _ => rfl) fun g hg => ⟨(hS g hg).1, (hS g hg).2.1⟩, ReadsS.of_own ho⟩
end
theorem KidsV.get {w : World} {S : Nat → Prop} {v : Value} {bs : List BkT} (h : KidsV w S v bs) (hn : 0 < bs.length) : ∃ g off c, v = .slice (some ⟨g, off, none⟩) bs.length c ∧ S g ∧ ∀ k (hk : k < bs.length), ∃ vb, RepB w S vb bs[k] ∧ ∀ i, i < 11 → w.cell? ⟨g, off + (k * 11 + i), none⟩ = vb[i]? := by
  obtain ⟨A, c, vs, rfl, hk, hr⟩ := h
  obtain ⟨g, off, rfl, hg, hc⟩ := hr.row hn (by decide)
  refine ⟨g, off, c, rfl, hg, fun k hlt => ?_⟩
  obtain ⟨vb, h1, h2⟩ := hk.at_ k hlt
  refine ⟨vb, h1, fun i hi => ?_⟩
  have hs := h1.size
  rw [Array.getElem?_eq_getElem (by omega)]
  exact hc _ _ (by rw [h2 i hi, Array.getElem?_eq_getElem (by omega)])
theorem KidsV.below {w w' : World} {B : Nat} {v : Value} {bs : List BkT} (h : KidsV w (Rg B w) v bs) (hb : Below w.heap.size w w') : KidsV w' (Rg B w') v bs :=
  h.keep (fun g hg => hb.block g hg.2) fun g hg => ⟨hg.1, Nat.lt_of_lt_of_le hg.2 hb.size⟩
theorem RepB.low {w w' : World} {B : Nat} {v : Array Value} {b : BkT} (h : RepB w (Rg B w) v b) (hb : Below w.heap.size w w') : RepB w' (Rg B w') v b :=
  h.keep (fun g hg => hb.block g hg.2) fun g hg => ⟨hg.1, Nat.lt_of_lt_of_le hg.2 hb.size⟩
theorem AttR.of_own {w : World} {B : Nat} {a : AttrL} {vC vP : Value} (h : OwnA w B a vC vP) : ∃ A1 c1 A2 c2, vC = .slice A1 a.cl.length c1 ∧ vP = .slice A2 a.pr.length c2 ∧ AttR w (Rg B w) a A1 A2 := by
  obtain ⟨A1, c1, rfl⟩ := own_slice h.cls
  obtain ⟨A2, c2, rfl⟩ := own_slice h.prs
  exact ⟨A1, c1, A2, c2, rfl, rfl, ReadsS.of_own h.cls, ReadsS.of_own h.prs, h.c32, h.p32⟩
theorem AttR.below {w w' : World} {B : Nat} {a : AttrL} {A1 A2 : Option Addr} (h : AttR w (Rg B w) a A1 A2) (hb : Below w.heap.size w w') : AttR w' (Rg B w') a A1 A2 :=
  h.keep (fun g hg => hb.block g hg.2) fun g hg => ⟨hg.1, Nat.lt_of_lt_of_le hg.2 hb.size⟩
/-- Lines in memory. -/
structure LinesAt (w : World) (A : Option Addr) (zs : List ByteArray) (m : Int) : Prop where
  rd : Reads w w.heap.size 1 A zs.length (strs zs)
  len : zs.length ≤ 10000
  sz : ∀ z ∈ zs, z.size ≤ 100000
  cell : w.cell? ⟨0, 0, none⟩ = some (.int .i64 m)
theorem LinesAt.below {w w' : World} {A : Option Addr} {zs : List ByteArray} {m : Int} (h : LinesAt w A zs m) (hb : Below w.heap.size w w') : LinesAt w' A zs m :=
  ⟨(h.rd.below hb).more hb.size, h.len, h.sz, (hb.cell (p := ⟨0, 0, none⟩) (World.block_lt_of_cell? _ _ h.cell)).trans h.cell⟩
theorem LinesAt.pos {w : World} {A : Option Addr} {zs : List ByteArray} {m : Int} (h : LinesAt w A zs m) : 0 < w.heap.size := World.block_lt_of_cell? _ _ h.cell
/-- A line. -/
theorem LinesAt.get {w : World} {A : Option Addr} {zs : List ByteArray} {m : Int} (h : LinesAt w A zs m) (hn : 0 < zs.length) : ∃ b off, A = some ⟨b, off, none⟩ ∧ b < w.heap.size ∧ ∀ k, k < zs.length → w.cell? ⟨b, off + k, none⟩ = some (.string (ln zs k)) := by
  obtain ⟨b, off, e, hb, hc⟩ := reads_get h.rd hn
  exact ⟨b, off, e, hb, fun k hk => by rw [hc k hk, ln_at zs k hk]⟩
/-- Some of the lines. -/
theorem LinesAt.cut {w : World} {b off : Nat} {zs : List ByteArray} {m : Int} (h : LinesAt w (some ⟨b, off, none⟩) zs m) (i k : Nat) (hi : i ≤ k) (hk : k ≤ zs.length) : LinesAt w (some ⟨b, off + i, none⟩) (cutL zs i k) m := by
  have hl := cutL_len zs i k hi hk
  refine ⟨⟨by rw [strs_len]; omega, fun hn => ?_⟩, by have := h.len; omega, fun z hz => h.sz z (List.mem_of_mem_drop (List.mem_of_mem_take hz)), h.cell⟩
  obtain ⟨b', off', e, hb, hc⟩ := h.get (by omega)
  obtain ⟨rfl, rfl⟩ : b = b' ∧ off = off' := by injection e with e; injection e with e1 e2; exact ⟨e1, e2⟩
  refine ⟨_, rfl, hb, fun j u hu => ?_⟩
  have hj : j < (cutL zs i k).length := by rw [← strs_len]; exact (List.getElem?_eq_some_iff.1 hu).1
  rw [strs_at _ j hj] at hu
  cases hu
  rw [ln_at _ j hj, ln_cut zs i k j (by omega)]
  have := hc (i + j) (by omega)
  unfold Addr.add
  by_cases h0 : j = 0
  · subst h0; rw [if_pos rfl]; simpa using this
  · rw [if_neg h0]; rw [← Nat.add_assoc] at this; exact this
theorem LinesAt.cut' {w : World} {b off : Nat} {zs : List ByteArray} {m : Int} (h : LinesAt w (some ⟨b, off, none⟩) zs m) (i k : Nat) (hi : i ≤ k) (hk : k ≤ zs.length) (A' : Option Addr) (hA : A' = some ⟨b, off + i, none⟩ ∨ k = i) : LinesAt w A' (cutL zs i k) m := by
  rcases hA with rfl | rfl
  · exact h.cut i k hi hk
  · have e : cutL zs k k = [] := by unfold cutL; simp
    rw [e]
    exact ⟨Reads.none_, by decide, fun z hz => absurd hz (by simp), h.cell⟩
theorem ln_size {zs : List ByteArray} {n : Nat} (h : ∀ z ∈ zs, z.size ≤ n) (k : Nat) : (ln zs k).size ≤ n := by
  rcases Nat.lt_or_ge k zs.length with hk | hk
  · rw [← ln_at zs k hk]; exact h _ (List.getElem_mem hk)
  · unfold ln; rw [List.getD_eq_getElem?_getD, List.getElem?_eq_none hk]; exact Nat.zero_le _
end Go.Proofs.YtpoafhgbhnblmaaGreatDoor
namespace Go.Proofs.YtpoafhgbhnblmaaGreatDoor
open Go.RowKit Go.Pub
theorem quoteAt_ret {W : World} {g : Nat} {x0 x1 x2 x3 x4 x5 x6 x7 x8 x9 x10 : Value} {u7 : Value} {u8 : Value} {P : Ending → World → Prop} {act : Act} (hr : Blk W g 46 #[x0, x1, x2, x3, x4, x5, x6, x7, x8, x9, x10]) (h6 : act.tmps.getD 6 undef = .pointer (some ⟨g, 0, none⟩)) (h7 : act.tmps.getD 7 undef = u7) (h8 : act.tmps.getD 8 undef = u8) (hd : act.defers = []) (hP : P (.returned (.tuple #[.agg #[x0, x1, x2, x3, x4, x5, x6, x7, x8, x9, x10], u7, u8])) W) : bodyPost Tryz.prog Tryz.f70 P Exit.ret act W := by
  have c0 : W.cell? ⟨g, 0, none⟩ = some x0 := hr.cell 0
  have c1 : W.cell? ⟨g, 1, none⟩ = some x1 := hr.cell 1
  have c2 : W.cell? ⟨g, 2, none⟩ = some x2 := hr.cell 2
  have c3 : W.cell? ⟨g, 3, none⟩ = some x3 := hr.cell 3
  have c4 : W.cell? ⟨g, 4, none⟩ = some x4 := hr.cell 4
  have c5 : W.cell? ⟨g, 5, none⟩ = some x5 := hr.cell 5
  have c6 : W.cell? ⟨g, 6, none⟩ = some x6 := hr.cell 6
  have c7 : W.cell? ⟨g, 7, none⟩ = some x7 := hr.cell 7
  have c8 : W.cell? ⟨g, 8, none⟩ = some x8 := hr.cell 8
  have c9 : W.cell? ⟨g, 9, none⟩ = some x9 := hr.cell 9
  have c10 : W.cell? ⟨g, 10, none⟩ = some x10 := hr.cell 10
  refine bodyPost_ret (v := .tuple #[.agg #[x0, x1, x2, x3, x4, x5, x6, x7, x8, x9, x10], u7, u8]) ?_ hd hP
  rw [Array.getD_eq_getD_getElem?] at h6 h7 h8
  simp [results, Tryz.results70, go_sem, h6, h7, h8, c0, c1, c2, c3, c4, c5, c6, c7, c8, c9, c10]
theorem fenceAt_ret {W : World} {g : Nat} {x0 x1 x2 x3 x4 x5 x6 x7 x8 x9 x10 : Value} {u7 : Value} {u8 : Value} {P : Ending → World → Prop} {act : Act} (hr : Blk W g 46 #[x0, x1, x2, x3, x4, x5, x6, x7, x8, x9, x10]) (h6 : act.tmps.getD 6 undef = .pointer (some ⟨g, 0, none⟩)) (h7 : act.tmps.getD 7 undef = u7) (h8 : act.tmps.getD 8 undef = u8) (hd : act.defers = []) (hP : P (.returned (.tuple #[.agg #[x0, x1, x2, x3, x4, x5, x6, x7, x8, x9, x10], u7, u8])) W) : bodyPost Tryz.prog Tryz.f71 P Exit.ret act W := by
  have c0 : W.cell? ⟨g, 0, none⟩ = some x0 := hr.cell 0
  have c1 : W.cell? ⟨g, 1, none⟩ = some x1 := hr.cell 1
  have c2 : W.cell? ⟨g, 2, none⟩ = some x2 := hr.cell 2
  have c3 : W.cell? ⟨g, 3, none⟩ = some x3 := hr.cell 3
  have c4 : W.cell? ⟨g, 4, none⟩ = some x4 := hr.cell 4
  have c5 : W.cell? ⟨g, 5, none⟩ = some x5 := hr.cell 5
  have c6 : W.cell? ⟨g, 6, none⟩ = some x6 := hr.cell 6
  have c7 : W.cell? ⟨g, 7, none⟩ = some x7 := hr.cell 7
  have c8 : W.cell? ⟨g, 8, none⟩ = some x8 := hr.cell 8
  have c9 : W.cell? ⟨g, 9, none⟩ = some x9 := hr.cell 9
  have c10 : W.cell? ⟨g, 10, none⟩ = some x10 := hr.cell 10
  refine bodyPost_ret (v := .tuple #[.agg #[x0, x1, x2, x3, x4, x5, x6, x7, x8, x9, x10], u7, u8]) ?_ hd hP
  rw [Array.getD_eq_getD_getElem?] at h6 h7 h8
  simp [results, Tryz.results71, go_sem, h6, h7, h8, c0, c1, c2, c3, c4, c5, c6, c7, c8, c9, c10]
theorem divAt_ret {W : World} {g : Nat} {x0 x1 x2 x3 x4 x5 x6 x7 x8 x9 x10 : Value} {u9 : Value} {u10 : Value} {P : Ending → World → Prop} {act : Act} (hr : Blk W g 46 #[x0, x1, x2, x3, x4, x5, x6, x7, x8, x9, x10]) (h8 : act.tmps.getD 8 undef = .pointer (some ⟨g, 0, none⟩)) (h9 : act.tmps.getD 9 undef = u9) (h10 : act.tmps.getD 10 undef = u10) (hd : act.defers = []) (hP : P (.returned (.tuple #[.agg #[x0, x1, x2, x3, x4, x5, x6, x7, x8, x9, x10], u9, u10])) W) : bodyPost Tryz.prog Tryz.f74 P Exit.ret act W := by
  have c0 : W.cell? ⟨g, 0, none⟩ = some x0 := hr.cell 0
  have c1 : W.cell? ⟨g, 1, none⟩ = some x1 := hr.cell 1
  have c2 : W.cell? ⟨g, 2, none⟩ = some x2 := hr.cell 2
  have c3 : W.cell? ⟨g, 3, none⟩ = some x3 := hr.cell 3
  have c4 : W.cell? ⟨g, 4, none⟩ = some x4 := hr.cell 4
  have c5 : W.cell? ⟨g, 5, none⟩ = some x5 := hr.cell 5
  have c6 : W.cell? ⟨g, 6, none⟩ = some x6 := hr.cell 6
  have c7 : W.cell? ⟨g, 7, none⟩ = some x7 := hr.cell 7
  have c8 : W.cell? ⟨g, 8, none⟩ = some x8 := hr.cell 8
  have c9 : W.cell? ⟨g, 9, none⟩ = some x9 := hr.cell 9
  have c10 : W.cell? ⟨g, 10, none⟩ = some x10 := hr.cell 10
  refine bodyPost_ret (v := .tuple #[.agg #[x0, x1, x2, x3, x4, x5, x6, x7, x8, x9, x10], u9, u10]) ?_ hd hP
  rw [Array.getD_eq_getD_getElem?] at h8 h9 h10
  simp [results, Tryz.results74, go_sem, h8, h9, h10, c0, c1, c2, c3, c4, c5, c6, c7, c8, c9, c10]
theorem listAt_ret {W : World} {g : Nat} {x0 x1 x2 x3 x4 x5 x6 x7 x8 x9 x10 : Value} {u9 : Value} {u10 : Value} {P : Ending → World → Prop} {act : Act} (hr : Blk W g 46 #[x0, x1, x2, x3, x4, x5, x6, x7, x8, x9, x10]) (h8 : act.tmps.getD 8 undef = .pointer (some ⟨g, 0, none⟩)) (h9 : act.tmps.getD 9 undef = u9) (h10 : act.tmps.getD 10 undef = u10) (hd : act.defers = []) (hP : P (.returned (.tuple #[.agg #[x0, x1, x2, x3, x4, x5, x6, x7, x8, x9, x10], u9, u10])) W) : bodyPost Tryz.prog Tryz.f76 P Exit.ret act W := by
  have c0 : W.cell? ⟨g, 0, none⟩ = some x0 := hr.cell 0
  have c1 : W.cell? ⟨g, 1, none⟩ = some x1 := hr.cell 1
  have c2 : W.cell? ⟨g, 2, none⟩ = some x2 := hr.cell 2
  have c3 : W.cell? ⟨g, 3, none⟩ = some x3 := hr.cell 3
  have c4 : W.cell? ⟨g, 4, none⟩ = some x4 := hr.cell 4
  have c5 : W.cell? ⟨g, 5, none⟩ = some x5 := hr.cell 5
  have c6 : W.cell? ⟨g, 6, none⟩ = some x6 := hr.cell 6
  have c7 : W.cell? ⟨g, 7, none⟩ = some x7 := hr.cell 7
  have c8 : W.cell? ⟨g, 8, none⟩ = some x8 := hr.cell 8
  have c9 : W.cell? ⟨g, 9, none⟩ = some x9 := hr.cell 9
  have c10 : W.cell? ⟨g, 10, none⟩ = some x10 := hr.cell 10
  refine bodyPost_ret (v := .tuple #[.agg #[x0, x1, x2, x3, x4, x5, x6, x7, x8, x9, x10], u9, u10]) ?_ hd hP
  rw [Array.getD_eq_getD_getElem?] at h8 h9 h10
  simp [results, Tryz.results76, go_sem, h8, h9, h10, c0, c1, c2, c3, c4, c5, c6, c7, c8, c9, c10]
theorem tableAt_ret {W : World} {g : Nat} {x0 x1 x2 x3 x4 x5 x6 x7 x8 x9 x10 : Value} {u7 : Value} {u8 : Value} {P : Ending → World → Prop} {act : Act} (hr : Blk W g 46 #[x0, x1, x2, x3, x4, x5, x6, x7, x8, x9, x10]) (h6 : act.tmps.getD 6 undef = .pointer (some ⟨g, 0, none⟩)) (h7 : act.tmps.getD 7 undef = u7) (h8 : act.tmps.getD 8 undef = u8) (hd : act.defers = []) (hP : P (.returned (.tuple #[.agg #[x0, x1, x2, x3, x4, x5, x6, x7, x8, x9, x10], u7, u8])) W) : bodyPost Tryz.prog Tryz.f78 P Exit.ret act W := by
  have c0 : W.cell? ⟨g, 0, none⟩ = some x0 := hr.cell 0
  have c1 : W.cell? ⟨g, 1, none⟩ = some x1 := hr.cell 1
  have c2 : W.cell? ⟨g, 2, none⟩ = some x2 := hr.cell 2
  have c3 : W.cell? ⟨g, 3, none⟩ = some x3 := hr.cell 3
  have c4 : W.cell? ⟨g, 4, none⟩ = some x4 := hr.cell 4
  have c5 : W.cell? ⟨g, 5, none⟩ = some x5 := hr.cell 5
  have c6 : W.cell? ⟨g, 6, none⟩ = some x6 := hr.cell 6
  have c7 : W.cell? ⟨g, 7, none⟩ = some x7 := hr.cell 7
  have c8 : W.cell? ⟨g, 8, none⟩ = some x8 := hr.cell 8
  have c9 : W.cell? ⟨g, 9, none⟩ = some x9 := hr.cell 9
  have c10 : W.cell? ⟨g, 10, none⟩ = some x10 := hr.cell 10
  refine bodyPost_ret (v := .tuple #[.agg #[x0, x1, x2, x3, x4, x5, x6, x7, x8, x9, x10], u7, u8]) ?_ hd hP
  rw [Array.getD_eq_getD_getElem?] at h6 h7 h8
  simp [results, Tryz.results78, go_sem, h6, h7, h8, c0, c1, c2, c3, c4, c5, c6, c7, c8, c9, c10]
theorem blockAt_ret {W : World} {g : Nat} {x0 x1 x2 x3 x4 x5 x6 x7 x8 x9 x10 : Value} {u9 : Value} {u10 : Value} {P : Ending → World → Prop} {act : Act} (hr : Blk W g 46 #[x0, x1, x2, x3, x4, x5, x6, x7, x8, x9, x10]) (h8 : act.tmps.getD 8 undef = .pointer (some ⟨g, 0, none⟩)) (h9 : act.tmps.getD 9 undef = u9) (h10 : act.tmps.getD 10 undef = u10) (hd : act.defers = []) (hP : P (.returned (.tuple #[.agg #[x0, x1, x2, x3, x4, x5, x6, x7, x8, x9, x10], u9, u10])) W) : bodyPost Tryz.prog Tryz.f39 P Exit.ret act W := by
  have c0 : W.cell? ⟨g, 0, none⟩ = some x0 := hr.cell 0
  have c1 : W.cell? ⟨g, 1, none⟩ = some x1 := hr.cell 1
  have c2 : W.cell? ⟨g, 2, none⟩ = some x2 := hr.cell 2
  have c3 : W.cell? ⟨g, 3, none⟩ = some x3 := hr.cell 3
  have c4 : W.cell? ⟨g, 4, none⟩ = some x4 := hr.cell 4
  have c5 : W.cell? ⟨g, 5, none⟩ = some x5 := hr.cell 5
  have c6 : W.cell? ⟨g, 6, none⟩ = some x6 := hr.cell 6
  have c7 : W.cell? ⟨g, 7, none⟩ = some x7 := hr.cell 7
  have c8 : W.cell? ⟨g, 8, none⟩ = some x8 := hr.cell 8
  have c9 : W.cell? ⟨g, 9, none⟩ = some x9 := hr.cell 9
  have c10 : W.cell? ⟨g, 10, none⟩ = some x10 := hr.cell 10
  refine bodyPost_ret (v := .tuple #[.agg #[x0, x1, x2, x3, x4, x5, x6, x7, x8, x9, x10], u9, u10]) ?_ hd hP
  rw [Array.getD_eq_getD_getElem?] at h8 h9 h10
  simp [results, Tryz.results39, go_sem, h8, h9, h10, c0, c1, c2, c3, c4, c5, c6, c7, c8, c9, c10]
theorem paraAt_ret {W : World} {g : Nat} {x0 x1 x2 x3 x4 x5 x6 x7 x8 x9 x10 : Value} {u5 : Value} {P : Ending → World → Prop} {act : Act} (hr : Blk W g 46 #[x0, x1, x2, x3, x4, x5, x6, x7, x8, x9, x10]) (h4 : act.tmps.getD 4 undef = .pointer (some ⟨g, 0, none⟩)) (h5 : act.tmps.getD 5 undef = u5) (hd : act.defers = []) (hP : P (.returned (.tuple #[.agg #[x0, x1, x2, x3, x4, x5, x6, x7, x8, x9, x10], u5])) W) : bodyPost Tryz.prog Tryz.f79 P Exit.ret act W := by
  have c0 : W.cell? ⟨g, 0, none⟩ = some x0 := hr.cell 0
  have c1 : W.cell? ⟨g, 1, none⟩ = some x1 := hr.cell 1
  have c2 : W.cell? ⟨g, 2, none⟩ = some x2 := hr.cell 2
  have c3 : W.cell? ⟨g, 3, none⟩ = some x3 := hr.cell 3
  have c4 : W.cell? ⟨g, 4, none⟩ = some x4 := hr.cell 4
  have c5 : W.cell? ⟨g, 5, none⟩ = some x5 := hr.cell 5
  have c6 : W.cell? ⟨g, 6, none⟩ = some x6 := hr.cell 6
  have c7 : W.cell? ⟨g, 7, none⟩ = some x7 := hr.cell 7
  have c8 : W.cell? ⟨g, 8, none⟩ = some x8 := hr.cell 8
  have c9 : W.cell? ⟨g, 9, none⟩ = some x9 := hr.cell 9
  have c10 : W.cell? ⟨g, 10, none⟩ = some x10 := hr.cell 10
  refine bodyPost_ret (v := .tuple #[.agg #[x0, x1, x2, x3, x4, x5, x6, x7, x8, x9, x10], u5]) ?_ hd hP
  rw [Array.getD_eq_getD_getElem?] at h4 h5
  simp [results, Tryz.results79, go_sem, h4, h5, c0, c1, c2, c3, c4, c5, c6, c7, c8, c9, c10]
theorem rowOf_ret {W : World} {g : Nat} {x0 x1 x2 x3 x4 x5 x6 x7 x8 x9 x10 : Value} {P : Ending → World → Prop} {act : Act} (hr : Blk W g 46 #[x0, x1, x2, x3, x4, x5, x6, x7, x8, x9, x10]) (h4 : act.tmps.getD 4 undef = .pointer (some ⟨g, 0, none⟩)) (hd : act.defers = []) (hP : P (.returned (.agg #[x0, x1, x2, x3, x4, x5, x6, x7, x8, x9, x10])) W) : bodyPost Tryz.prog Tryz.f121 P Exit.ret act W := by
  have c0 : W.cell? ⟨g, 0, none⟩ = some x0 := hr.cell 0
  have c1 : W.cell? ⟨g, 1, none⟩ = some x1 := hr.cell 1
  have c2 : W.cell? ⟨g, 2, none⟩ = some x2 := hr.cell 2
  have c3 : W.cell? ⟨g, 3, none⟩ = some x3 := hr.cell 3
  have c4 : W.cell? ⟨g, 4, none⟩ = some x4 := hr.cell 4
  have c5 : W.cell? ⟨g, 5, none⟩ = some x5 := hr.cell 5
  have c6 : W.cell? ⟨g, 6, none⟩ = some x6 := hr.cell 6
  have c7 : W.cell? ⟨g, 7, none⟩ = some x7 := hr.cell 7
  have c8 : W.cell? ⟨g, 8, none⟩ = some x8 := hr.cell 8
  have c9 : W.cell? ⟨g, 9, none⟩ = some x9 := hr.cell 9
  have c10 : W.cell? ⟨g, 10, none⟩ = some x10 := hr.cell 10
  refine bodyPost_ret (v := .agg #[x0, x1, x2, x3, x4, x5, x6, x7, x8, x9, x10]) ?_ hd hP
  rw [Array.getD_eq_getD_getElem?] at h4
  simp [results, Tryz.results121, go_sem, h4, c0, c1, c2, c3, c4, c5, c6, c7, c8, c9, c10]
theorem closing_ret {W : World} {g : Nat} {x y z u : Value} {P : Ending → World → Prop} {act : Act} (hr : Blk W g 43 #[x, y, z]) (h6 : act.tmps.getD 6 undef = u) (h7 : act.tmps.getD 7 undef = .pointer (some ⟨g, 0, none⟩)) (hd : act.defers = []) (hP : P (.returned (.tuple #[u, .agg #[x, y, z]])) W) : bodyPost Tryz.prog Tryz.f72 P Exit.ret act W := by
  have c0 : W.cell? ⟨g, 0, none⟩ = some x := hr.cell 0
  have c1 : W.cell? ⟨g, 1, none⟩ = some y := hr.cell 1
  have c2 : W.cell? ⟨g, 2, none⟩ = some z := hr.cell 2
  refine bodyPost_ret (v := .tuple #[u, .agg #[x, y, z]]) ?_ hd hP
  rw [Array.getD_eq_getD_getElem?] at h6 h7
  simp [results, Tryz.results72, go_sem, h6, h7, c0, c1, c2]
end Go.Proofs.YtpoafhgbhnblmaaGreatDoor
namespace Go.Proofs.YtpoafhgbhnblmaaGreatDoor
open Go.RowKit Go.Pub
theorem joinN_take (zs : List ByteArray) (k : Nat) (h : k < zs.length) : joinN (zs.take (k + 1)) = joinN (zs.take k) ++ (bytesL zs[k] ++ [10]) := by
  unfold joinN
  rw [List.take_succ_eq_append_getElem h, List.flatMap_append]
  simp
theorem joinN_len (zs : List ByteArray) (M : Nat) (hM : ∀ z ∈ zs, z.size ≤ M) : ∀ k, (joinN (zs.take k)).length ≤ k * (M + 1) := by
  intro k
  induction k with
  | zero => simp [joinN]
  | succ k ih =>
    by_cases h : k < zs.length
    · rw [joinN_take zs k h, List.length_append, List.length_append, bytesL_length]
      have := hM zs[k] (List.getElem_mem h)
      have e : (k + 1) * (M + 1) = k * (M + 1) + (M + 1) := Nat.succ_mul _ _
      simp only [List.length_singleton]
      omega
    · rw [List.take_of_length_le (by omega)]
      rw [List.take_of_length_le (by omega)] at ih
      exact Nat.le_trans ih (Nat.mul_le_mul_right _ (by omega))
def JnRel (zs : List ByteArray) (w : World) (i : Value) (wr : World) : Prop :=
  ∃ (k : Nat) (acc : List UInt8), i = .int .i64 k ∧ k ≤ zs.length ∧ Lib.IsBuilderF 158 5 w.heap.size w.heap.size (Lib.byteCells acc) wr ∧ Below w.heap.size w wr ∧ Hid (acc = joinN (zs.take k)) ∧ w.heap.size < wr.heap.size
set_option maxRecDepth 100000 in
set_option maxHeartbeats 4000000 in
theorem l_join (zs : List ByteArray) (A : Option Addr) (c B : Nat) (w : World) (hr : Reads w B 1 A zs.length (strs zs)) (hB : B ≤ w.heap.size) (hl : zs.length ≤ 10000) (hM : ∀ z ∈ zs, z.size ≤ 100000) :
    Calls Tryz.prog 116 #[.slice A zs.length c] w fun e w' => e = .returned (.string (mk (joinN zs))) ∧ Below w.heap.size w w' := by
  have HX : Hid (joinN zs = joinN (zs.take zs.length)) := Lib.hid (by rw [List.take_length])
  have HL := Lib.hid (joinN_len zs 100000 hM)
  have HM := Lib.hid hM
  have HRd := Lib.hid hr
  have hI0 := Lib.hid (Lib.IsBuilderF.of (Lib.fresh_isBuilder 158 5 w))
  have hB0 : Hid (∀ x y z, Below w.heap.size w (w.alloc (.cells x y z))) := Lib.hid fun _ _ _ => (Below.refl _ w).alloc (Nat.le_refl _) _
  generalize joinN zs = R at *
  clear hr hM
  go_enter Tryz.func116, Tryz.ntmps116
  go_wp2_with fail
  go_loopw [8] (fun v wr => JnRel zs w v wr) (fun v _ => zs.length - (intOf v).toNat)
  case atStart => exact ⟨0, [], rfl, by omega, hI0.out, hB0.out _ _ _, Lib.hid rfl, by simp⟩
  case round =>
    clear hI0 hB0
    obtain ⟨k, acc, rfl, hk, hI, hbw, Hacc, hsz⟩ := hrel
    have hal : acc.length ≤ k * 100001 := by rw [Hacc.out]; exact HL.out k
    by_cases hlt : k < zs.length
    · obtain ⟨b, off, rfl, hbB, hcell⟩ := reads_get HRd.out (by omega)
      have hc : wr.cell? ⟨b, off + k, none⟩ = some (.string zs[k]) := (hbw.cell (p := ⟨b, off + k, none⟩) (by show b < _; omega)).trans (hcell k hlt)
      have hst := Lib.hid (joinN_take zs k hlt)
      have hzk := HM.out zs[k] (List.getElem_mem hlt)
      have hkm : k * 100001 ≤ 10000 * 100001 := Nat.mul_le_mul_right _ (by omega)
      have HS : Hid (Lib.strCells zs[k] = Lib.byteCells (bytesL zs[k])) := Lib.hid (by rw [Lib.strCells_eq]; rfl)
      have hzl := bytesL_length zs[k]
      generalize zs[k] = z at *
      clear hcell
      go_wp2_with fail
      refine (writeString_k w.heap.size w.heap.size _ z _ hI (by rw [Lib.byteCells_length]; omega) (by omega)).mono ?_
      rintro e W1 ⟨rfl, h1, b2, _⟩
      have hz2 := b2.size
      rw [HS.out, ← Lib.byteCells_append] at h1
      go_wp2_with fail
      refine (writeByte_k w.heap.size w.heap.size _ 10 _ (Or.inr h1) (by rw [Lib.byteCells_length, List.length_append, hzl]; omega) (by omega)).mono ?_
      rintro e W2 ⟨rfl, h2, b3, _⟩
      have hz3 := b3.size
      replace h2 : Lib.BuilderAtF 158 5 w.heap.size w.heap.size (Value.pointer (some { block := w.heap.size, off := 0 })) (Lib.byteCells (acc ++ bytesL z ++ [10])) W2 := by
        rw [Lib.byteCells_append]; exact h2
      go_wp2_with fail
      go_roundw
      case rel =>
        exact ⟨k + 1, acc ++ (bytesL z ++ [10]), by go_num, by omega, by rw [← List.append_assoc]; exact Or.inr h2, (hbw.trans b2).trans b3, Lib.hid (by rw [hst.out, Hacc.out]), by omega⟩
      case measure => simp [intOf]; omega
    · have HF : Hid (acc = R) := Lib.hid (by rw [Hacc.out, HX.out, show k = zs.length by omega])
      go_wp2_with fail
      refine (Tryz.Builder_String_any_k w.heap.size w.heap.size acc _ hI (by omega)).mono ?_
      rintro e W1 ⟨rfl, h1, b1, _⟩
      go_wp2_with fail
      go_ret
      exact ⟨by rw [← HF.out]; rfl, hbw.trans b1⟩

theorem r2_blank (s : ByteArray) (w : World) (hs : s.size ≤ 1000000) : Calls Tryz.prog 17 #[.string s] w fun e w' => e = .returned (.bool (blankB s)) ∧ w = w' := by
  have HI := Lib.hid fun W => r_indent s W hs
  have HB : Hid (blankB s = decide (indA s 0 = s.size)) := Lib.hid rfl
  generalize blankB s = b at *
  generalize indA s 0 = i at *
  have hb : ∃ q : Bool, (i == s.size) = q ∧ ((i : Int) == (s.size : Int)) = q ∧ Hid (b = q) := by
    by_cases h : i = s.size
    · exact ⟨true, by rw [beq_iff_eq]; exact h, by rw [beq_iff_eq]; omega, Lib.hid (by rw [HB.out]; exact decide_eq_true h)⟩
    · exact ⟨false, by rw [beq_eq_false_iff_ne]; exact h, by rw [beq_eq_false_iff_ne]; omega, Lib.hid (by rw [HB.out]; exact decide_eq_false h)⟩
  obtain ⟨q, n1, n2, hq⟩ := hb
  go_enter Tryz.func17, Tryz.ntmps17
  go_wp2_with fail
  ((with_reducible refine (HI.out _).mono ?_))
  rintro e w' ⟨rfl, rfl⟩
  go_wp2_with fail
  go_ret
  exact ⟨ret_bool (by rw [hq.out]), rfl⟩
end Go.Proofs.YtpoafhgbhnblmaaGreatDoor
