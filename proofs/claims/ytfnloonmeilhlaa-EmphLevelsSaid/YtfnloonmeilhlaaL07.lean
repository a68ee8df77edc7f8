/-
  Texts of the proof, put together (what this law reaches): EmVB, EmMF, EmLA, EmLB, EmLC, EmLD, Row.
-/
import Derived.Test.YtfnloonmeilhlaaL06
import Derived.Test.YtfnloonmeilhlaaL04
import Derived.Test.YtfnloonmeilhlaaL05
import Derived.Test.YtfnloonmeilhlaaL02
import Derived.KernelRfl
import Derived.Below
import Derived.ChangeSame
import Derived.ProofKit
set_option linter.unusedVariables false
set_option linter.unusedSimpArgs false
namespace Go.Pub
theorem toI_core {ps : List PcT} {a b : ElL} (h1 : a.t = b.t) (h2 : a.run = b.run) (h3 : a.pc = b.pc) (h4 : a.left = b.left) : toI ps a = toI ps b := by
  unfold toI; rw [h1, h2, h3, h4]
theorem toI_run {ps : List PcT} {xs : List ElL} {i : Nat} (h : runX xs i = true) : toI ps (elX xs i) = txtT 1 ⟨(repB (pcX ps (pX xs i)).ch (lfX xs i)).toArray⟩ := by
  unfold toI
  rw [if_pos (show (elX xs i).run = true from h)]
  rfl
theorem toI_inl {ps : List PcT} {xs : List ElL} {i : Nat} (h : runX xs i = false) : toI ps (elX xs i) = (elX xs i).t := by
  unfold toI
  rw [if_neg (by rw [show (elX xs i).run = false from h]; decide)]
section
variable {ps : List PcT} {st : EmS} {o c j k : Nat} {ids : List Nat}
theorem toI_mtch (ho : o < st.xs.length) (hc : c < st.xs.length) (hne : o ≠ c) (h1 : j ≠ o) (h2 : j ≠ c) (h3 : j ≠ st.xs.length) : toI ps (elX (mtchA ps st o c).xs j) = toI ps (elX st.xs j) := by
  obtain ⟨e1, e2, e3, e4⟩ := core_mtch' (ps := ps) ho hc hne h3
  rw [if_neg (by omega)] at e4
  exact toI_core e1 e2 e3 e4
theorem toI_mtch0 (ho : o < st.xs.length) (hc : c < st.xs.length) (hne : o ≠ c) : toI ps (elX (mtchA ps st o c).xs st.xs.length) = kidT (pairK ps st.xs o c) (betA ps st.xs o c) := by
  obtain ⟨e1, e2⟩ := core_mtch0 (ps := ps) ho hc hne
  rw [toI_inl e2, e1]
theorem toI_mtchR (ho : o < st.xs.length) (hc : c < st.xs.length) (hne : o ≠ c) (hj : j = o ∨ j = c) (hr : runX st.xs j = true) : toI ps (elX (mtchA ps st o c).xs j) = txtT 1 ⟨(repB (pcX ps (pX st.xs j)).ch (lfX st.xs j - pairN st.xs o c)).toArray⟩ := by
  obtain ⟨e1, e2, e3, e4⟩ := core_mtch' (ps := ps) (j := j) ho hc hne (by omega)
  rw [if_pos hj] at e4
  rw [toI_run (e2.trans hr), e3, e4]
theorem pairN_one : 1 ≤ pairN st.xs o c ∧ pairN st.xs o c ≤ 2 := by unfold pairN; split <;> omega
theorem toI_ins {e : ElL} (h : j ≠ st.xs.length) : toI ps (elX (insX st.xs e 0) j) = toI ps (elX st.xs j) := by
  obtain ⟨e1, e2, e3, e4⟩ := core_ins' (xs := st.xs) (e := e) (k := 0) h
  exact toI_core e1 e2 e3 e4
theorem toI_ins0 {e : ElL} : toI ps (elX (insX st.xs e 0) st.xs.length) = toI ps e := by
  obtain ⟨e1, e2, e3, e4⟩ := core_ins0 (xs := st.xs) (e := e) (k := 0)
  exact toI_core e1 e2 e3 e4
/-- The inlines of elements. -/
def inlsA (ps : List PcT) (st : EmS) (ids : List Nat) : List InT := ids.map fun i => toI ps (elX st.xs i)
theorem inlsA_app (a b : List Nat) : inlsA ps st (a ++ b) = inlsA ps st a ++ inlsA ps st b := List.map_append
theorem inlsA_eq {st' : EmS} (h : ∀ i ∈ ids, toI ps (elX st'.xs i) = toI ps (elX st.xs i)) : inlsA ps st' ids = inlsA ps st ids := List.map_congr_left h
/-- What stands in the ring ahead of and behind the parts of a match is not of it. -/
theorem ring_parts {A B : List Nat} {R : Nat} {xs : List ElL} (h : RingI xs (A ++ R :: (B ++ [c]))) : (∀ i ∈ A, i ≠ R ∧ i ≠ c ∧ i < xs.length) ∧ (∀ i ∈ B, i ≠ R ∧ i ≠ c ∧ i < xs.length) ∧ R ≠ c ∧ R < xs.length ∧ c < xs.length := by
  have hn := (List.nodup_cons.1 h.nd).2
  rw [List.nodup_append] at hn
  obtain ⟨-, hn2, hn3⟩ := hn
  rw [List.nodup_cons, List.nodup_append] at hn2
  obtain ⟨hn4, -, -, hn5⟩ := hn2
  refine ⟨fun i hi => ⟨hn3 i hi R (by simp), hn3 i hi c (by simp), h.bd i (by simp [hi])⟩, fun i hi => ⟨fun e => hn4 (by simp [← e, hi]), hn5 i hi c (by simp), h.bd i (by simp [hi])⟩, fun e => hn4 (by simp [e]), h.bd R (by simp), h.bd c (by simp)⟩
/-- The inlines behind a match. -/
theorem inls_mtch {A B : List Nat} {R : Nat} {x : Nat} (h : RingI st.xs (A ++ R :: (B ++ [c]))) (hr : runX st.xs R = true) (hc : runX st.xs c = true) :
    inlsA ps (mtchA ps st R c) (A ++ (if lfX st.xs R ≤ pairN st.xs R c then [] else [R]) ++ st.xs.length :: (if lfX st.xs c ≤ pairN st.xs R c then [] else [c])) =
      inlsA ps st A ++ (if lfX st.xs R ≤ pairN st.xs R c then [] else [txtT 1 ⟨(repB (pcX ps (pX st.xs R)).ch (lfX st.xs R - pairN st.xs R c)).toArray⟩]) ++ kidT (pairK ps st.xs R c) (inlsA ps st B) ::
        (if lfX st.xs c ≤ pairN st.xs R c then [] else [txtT 1 ⟨(repB (pcX ps (pX st.xs c)).ch (lfX st.xs c - pairN st.xs R c)).toArray⟩]) := by
  obtain ⟨h1, h2, h3, h4, h5⟩ := ring_parts h
  rw [inlsA_app, inlsA_app, inlsA_eq (st' := mtchA ps st R c) (st := st) fun i hi => toI_mtch h4 h5 h3 (h1 i hi).1 (h1 i hi).2.1 (by have := (h1 i hi).2.2; omega)]
  congr 1
  · congr 1
    split
    · rfl
    · show [toI ps (elX _ R)] = _
      rw [toI_mtchR h4 h5 h3 (.inl rfl) hr]
  · show toI ps (elX _ _) :: List.map _ _ = _
    rw [toI_mtch0 h4 h5 h3, (betA_eq h).1]
    congr 1
    split
    · rfl
    · show [toI ps (elX _ c)] = _
      rw [toI_mtchR h4 h5 h3 (.inr rfl) hc]
end
theorem repB_len {c : ByteArray} (h : c.size = 1) : ∀ n, (repB c n).length = n
  | 0 => rfl
  | n + 1 => by
    show (c.toList ++ repB c n).length = _
    have hl : c.toList.length = c.size := by rw [Lib.toList_data]; exact Array.length_toList
    rw [List.length_append, repB_len h n, hl, h]; omega
theorem sizeI_txt (k : Int) (l : List UInt8) : sizeI (txtT k ⟨l.toArray⟩) = 1 + l.length := by
  unfold txtT
  rw [sizeI]
  show 1 + l.toArray.size + 0 + 0 + 0 + 0 + sizeL [] = _
  rw [sizeL]; simp
theorem sizeI_kid (k : Int) (l : List InT) : sizeI (kidT k l) = 1 + sizeL l := by
  unfold kidT
  rw [sizeI]; rfl
/-- The size of a piece's inlines and characters. -/
def pcZ (p : PcT) : Nat := sizeI p.inl + 1 + p.n.toNat
def sumZ (ps : List PcT) : Nat → Nat
  | 0 => 0
  | k + 1 => sumZ ps k + pcZ (pcX ps k)
theorem sizeL_one (x : InT) : sizeL [x] = sizeI x := by rw [sizeL, sizeL]; omega
theorem size_match (ps : List PcT) : ∀ k, k ≤ ps.length → ∃ ids, MatI ps k (matchF ps k) ids ∧ sizeL (inlsA ps (matchF ps k) ids) ≤ sumZ ps k := by
  refine match_ind ps (fun k st ids => sizeL (inlsA ps st ids) ≤ sumZ ps k) (Nat.zero_le _) ?_ ?_ ?_ ?_ ?_
  · intro k st ids h hk hp hc hP
    exact Nat.le_trans hP (Nat.le_add_right _ _)
  · intro k st ids h hk hp hk0 hi hP
    have e1 : inlsA ps (inlS ps st k) ids = inlsA ps st ids := inlsA_eq fun i hi => toI_ins (by have := h.em.ring.bd i hi; omega)
    have e2 : inlsA ps (inlS ps st k) [st.xs.length] = [(pcX ps k).inl] := by
      show [toI ps (elX (insX st.xs { t := (pcX ps k).inl } 0) st.xs.length)] = _
      rw [toI_ins0]; rfl
    rw [inlsA_app, sizeL_app, e1, e2, sizeL_one]
    show _ ≤ sumZ ps k + pcZ _
    unfold pcZ; omega
  · intro k st ids h hk hp hP
    have e1 : inlsA ps (runS ps st k) ids = inlsA ps st ids := inlsA_eq fun i hi => toI_ins (by have := h.em.ring.bd i hi; omega)
    have e2 : inlsA ps (runS ps st k) [st.xs.length] = [txtT 1 ⟨(repB (pcX ps k).ch (pcX ps k).n.toNat).toArray⟩] := by
      show [toI ps (elX (insX st.xs (runE k (pcX ps k).n.toNat) 0) st.xs.length)] = _
      rw [toI_ins0]; rfl
    rw [inlsA_app, sizeL_app, e1, e2, sizeL_one, sizeI_txt, repB_len (runP_size hp)]
    show _ ≤ sumZ ps k + pcZ _
    unfold pcZ; omega
  · intro k c st A B R hk hclo h hl hR hR0 hB hg hr hlr hP
    obtain ⟨r1, r2, r3⟩ := h.rb R hr
    obtain ⟨s1, s2, s3⟩ := h.rb c h.run
    rw [inls_mtch (x := 0) hg hr h.run]
    have hpn := pairN_one (st := st) (o := R) (c := c)
    have hsplit : inlsA ps st (A ++ R :: (B ++ [c])) = inlsA ps st A ++ txtT 1 ⟨(repB (pcX ps (pX st.xs R)).ch (lfX st.xs R)).toArray⟩ :: (inlsA ps st B ++ [txtT 1 ⟨(repB (pcX ps (pX st.xs c)).ch (lfX st.xs c)).toArray⟩]) := by
      rw [inlsA_app]
      congr 1
      show toI ps (elX st.xs R) :: List.map _ (B ++ [c]) = _
      rw [toI_run hr, List.map_append]
      congr 2
      show [toI ps (elX st.xs c)] = _
      rw [toI_run h.run]
    rw [hsplit, sizeL_app, sizeL, sizeL_app, sizeL_one, sizeI_txt, sizeI_txt, repB_len (runP_size r2), repB_len (runP_size s2)] at hP
    rw [sizeL_app, sizeL_app, sizeL, sizeI_kid]
    have t1 : sizeL (if lfX st.xs R ≤ pairN st.xs R c then [] else [txtT 1 ⟨(repB (pcX ps (pX st.xs R)).ch (lfX st.xs R - pairN st.xs R c)).toArray⟩]) ≤ lfX st.xs R := by
      split
      · rw [sizeL]; omega
      · rw [sizeL_one, sizeI_txt, repB_len (runP_size r2)]; omega
    have t2 : sizeL (if lfX st.xs c ≤ pairN st.xs R c then [] else [txtT 1 ⟨(repB (pcX ps (pX st.xs c)).ch (lfX st.xs c - pairN st.xs R c)).toArray⟩]) ≤ lfX st.xs c := by
      split
      · rw [sizeL]; omega
      · rw [sizeL_one, sizeI_txt, repB_len (runP_size s2)]; omega
    omega
  · intro k c st ids hP
    exact hP
end Go.Pub
namespace Go.Pub
theorem sumN_len (ps : List PcT) : ∀ k, sumN ps k ≤ sumZ ps k
  | 0 => Nat.le_refl _
  | k + 1 => by
    have := sumN_len ps k
    show sumN ps k + (if runP (pcX ps k) = true then _ else 0) ≤ sumZ ps k + pcZ _
    unfold pcZ
    split <;> omega
theorem sumZ_len (ps : List PcT) : ∀ k, k ≤ sumZ ps k
  | 0 => Nat.le_refl _
  | k + 1 => by
    have := sumZ_len ps k
    show k + 1 ≤ sumZ ps k + pcZ _
    unfold pcZ
    omega
end Go.Pub
namespace Go.Proofs.Ytfnloonmeilhlaa
open Go.RowKit Go.Pub
theorem merge_all : ∀ N, N ≤ 1000000 → MrgH N := fun N => by
  induction N using Nat.strongRecOn with
  | ind N ih =>
    intro hN
    refine t_merge N hN fun x hx => ih (sizeL x.kids) ?_ ?_
    · obtain ⟨k, t, d, ti, a, ar, c, ks⟩ := x
      rw [sizeI] at hx
      show sizeL ks < N
      omega
    · obtain ⟨k, t, d, ti, a, ar, c, ks⟩ := x
      rw [sizeI] at hx
      show sizeL ks ≤ _
      omega
/-- Inlines in new memory. -/
def NstP (l : List InT) (w : World) (e : Ending) (w' : World) : Prop :=
  ∃ A c vs, e = .returned (.slice A l.length c) ∧ RepIs w' (NewG w w') vs l ∧ ReadsS w' (NewG w w') 10 A l.length (vs.flatMap Array.toList) ∧ Below w.heap.size w w'
set_option maxHeartbeats 4000000 in
set_option maxRecDepth 100000 in
theorem e_Nest {L : Value} {ps : List PcT} (w : World) (hL : PcsR w (fun g => g < w.heap.size) L ps) (hZ : sumZ ps ps.length ≤ 30000) :
    Calls Try.prog 12 #[L] w (NstP (nestA ps) w) := by
  obtain ⟨A0, c0, vs0, hL0, -⟩ := id hL
  subst hL0
  have hlen : ps.length ≤ 30000 := Nat.le_trans (sumZ_len ps _) hZ
  have HM := Lib.hid (e_match w hL hlen (Nat.le_trans (sumN_len ps _) hZ))
  obtain ⟨ids, hMI, hsz⟩ : ∃ ids, MatI ps ps.length (matchA ps) ids ∧ sizeL (inlsA ps (matchA ps) ids) ≤ sumZ ps ps.length := size_match ps ps.length (Nat.le_refl _)
  have HB : Hid (∀ w' vE vO vP S vs, EmR w' w.heap.size (w.heap.size + 1) (.slice A0 ps.length c0) vE vO vP S vs (matchA ps) → Below w.heap.size w w' →
      Calls Try.prog 26 #[.pointer (some ⟨w.heap.size + 1, 0, none⟩), .int .i64 0, .int .i64 0] w' (BetPost S w'.heap.size (inlsA ps (matchA ps) ids) w')) := Lib.hid fun w' vE vO vP S vs h hb => by
    have hR := hMI.em.ring
    obtain ⟨g, cap, rfl, -⟩ := h.row hR.pos
    have hids := hR.len
    have := hMI.len
    have := hMI.prs
    have := sumN_len ps ps.length
    refine e_between w' h (hL.keep (fun g hg => hb.block g hg) fun g hg => h.low g hg) 0 0 ids hR.pos hR.link (fun i hi => ⟨fun e => (List.nodup_cons.1 hR.nd).1 (e ▸ hi), hR.bd i hi⟩) (fun i hi hr => ?_) (by
      omega)
    obtain ⟨r1, r2, r3⟩ := hMI.rb i hr
    obtain ⟨-, -, s3, -⟩ := runP_spec r2
    rw [runP_size r2]
    exact ⟨r1, by omega, by omega⟩
  have HN : Hid (nestA ps = mergeL (inlsA ps (matchA ps) ids)) := Lib.hid (by
    have hR := hMI.em.ring
    have hl := hR.len
    show mergeL (betF ps _ 0 _ _) = _
    rw [betF_eq ids 0 _ hR.link (fun i hi e => (List.nodup_cons.1 hR.nd).1 (e ▸ hi)) (by omega)]
    rfl)
  have HZ : Hid (sizeL (inlsA ps (matchA ps) ids) ≤ 1000000) := Lib.hid (Nat.le_trans hsz (Nat.le_trans hZ (by decide)))
  clear hL hMI hsz
  generalize inlsA ps (matchA ps) ids = bl at *
  go_enter Try.func12, Try.ntmps12
  go_wp2_with fail
  ((with_reducible refine HM.out.mono ?_))
  rintro e w1 ⟨rfl, b1, vE, vO, vP, S, vs, hE⟩
  have HC := Lib.hid (HB.out w1 vE vO vP S vs hE b1)
  have HS : Hid (∀ g, S g → g < w1.heap.size) := Lib.hid fun g hg => (hE.fro g hg).1
  have hz1 := b1.size
  have HB1 := Lib.hid b1
  clear hE b1 HM HB
  go_wp2_with fail
  ((with_reducible refine HC.out.mono ?_))
  rintro e w2 ⟨v, vs2, rfl, r2, o2, b2⟩
  obtain ⟨A3, c3, hv3, -, -⟩ := own_form o2
  subst hv3
  have hz2 := b2.size
  have HG := Lib.hid (merge_all 1000000 (Nat.le_refl _) bl HZ.out (fun g => S g ∨ (w1.heap.size ≤ g ∧ g < w2.heap.size)) w2 A3 c3 vs2 (r2.keep (fun _ _ => rfl) fun _ h => .inl h) ((ReadsS.of_own o2).keep (fun _ _ => rfl) fun _ h => .inr h) (fun g hg => by
    rcases hg with hg | hg
    · exact Nat.lt_of_lt_of_le (HS.out g hg) hz2
    · exact hg.2))
  have HB2 := Lib.hid (HB1.out.trans (b2.mono hz1))
  clear r2 o2 b2 HC
  go_wp2_with fail
  ((with_reducible refine HG.out.mono ?_))
  rintro e w3 ⟨A4, c4, vs4, rfl, r4, o4, b4⟩
  have hz3 : w.heap.size ≤ w2.heap.size := HB2.out.size
  have HF : Hid (NstP (nestA ps) w (.returned (.slice A4 (mergeL bl).length c4)) w3) := Lib.hid (by
    rw [HN.out]
    exact ⟨A4, c4, vs4, rfl, r4.keep (fun _ _ => rfl) fun g hg => ⟨Nat.le_trans hz3 hg.1, hg.2⟩, (ReadsS.of_own o4).keep (fun _ _ => rfl) fun g hg => ⟨Nat.le_trans hz3 hg.1, hg.2⟩, HB2.out.trans (b4.mono hz3)⟩)
  clear r4 o4 b4
  go_wp2_with fail
  go_ret
  exact HF.out

/-- Matches in new memory. -/
def PrsP (l : List (Nat × Nat × Nat)) (w : World) (e : Ending) (w' : World) : Prop :=
  ∃ A c, e = .returned (.slice A l.length c) ∧ ReadsS w' (NewG w w') 3 A l.length (trips l) ∧ Below w.heap.size w w'
set_option maxHeartbeats 4000000 in
set_option maxRecDepth 100000 in
theorem e_Pairs {L : Value} {ps : List PcT} (w : World) (hL : PcsR w (fun g => g < w.heap.size) L ps) (hZ : sumZ ps ps.length ≤ 30000) :
    Calls Try.prog 14 #[L] w (PrsP (matchA ps).prs w) := by
  have hlen : ps.length ≤ 30000 := Nat.le_trans (sumZ_len ps _) hZ
  have HM := Lib.hid (e_match w hL hlen (Nat.le_trans (sumN_len ps _) hZ))
  clear hL
  go_enter Try.func14, Try.ntmps14
  go_wp2_with fail
  ((with_reducible refine HM.out.mono ?_))
  rintro e w1 ⟨rfl, b1, vE, vO, vP, S, vs, hE⟩
  obtain ⟨A3, c3, hv3, -, -⟩ := own_form hE.prs
  subst hv3
  have cP : w1.cell? ⟨w.heap.size + 1, 20, none⟩ = some (.slice A3 (matchA ps).prs.length c3) := hE.cel.cP
  have HF : Hid (PrsP (matchA ps).prs w (.returned (.slice A3 (matchA ps).prs.length c3)) w1) := Lib.hid ⟨A3, c3, rfl, ReadsS.of_own hE.prs, b1⟩
  clear hE b1 HM
  go_wp2_with fail
  go_ret
  exact HF.out

end Go.Proofs.Ytfnloonmeilhlaa
namespace Go.Pub
def lvT : Nat → List InT
  | 0 => [txtT 1 ⟨#[119]⟩]
  | m + 1 => [kidT 7 (lvT m)]
def lvAll (k : Nat) : List InT := if k % 2 = 1 then [kidT 6 (lvT (k / 2))] else lvT (k / 2)
def lvPs (c : UInt8) (k : Nat) : List PcT := [runT c k true false, wordT ⟨#[119]⟩, runT c k false true]
set_option maxRecDepth 100000 in
theorem lv_star : ∀ k, k < 9 → nestA (lvPs 42 (k + 1)) = lvAll (k + 1)
  | 0, _ => by kernel_rfl
  | 1, _ => by kernel_rfl
  | 2, _ => by kernel_rfl
  | 3, _ => by kernel_rfl
  | 4, _ => by kernel_rfl
  | 5, _ => by kernel_rfl
  | 6, _ => by kernel_rfl
  | 7, _ => by kernel_rfl
  | 8, _ => by kernel_rfl
  | k + 9, h => absurd h (by omega)

set_option maxRecDepth 100000 in
theorem lv_under : ∀ k, k < 9 → nestA (lvPs 95 (k + 1)) = lvAll (k + 1)
  | 0, _ => by kernel_rfl
  | 1, _ => by kernel_rfl
  | 2, _ => by kernel_rfl
  | 3, _ => by kernel_rfl
  | 4, _ => by kernel_rfl
  | 5, _ => by kernel_rfl
  | 6, _ => by kernel_rfl
  | 7, _ => by kernel_rfl
  | 8, _ => by kernel_rfl
  | k + 9, h => absurd h (by omega)

end Go.Pub
namespace Go.Pub
open Go.RowKit
/-- A run, and a piece with a text. -/
def plR (c : ByteArray) (n : Int) (o k : Bool) : PcT := ⟨1, zeroT, c, n, o, k, false, 0, 0⟩
def plW (s : ByteArray) : PcT := ⟨0, txtT 1 s, ⟨#[]⟩, 0, false, false, false, 0, 0⟩
def plC (p : PcT) : Array Value := #[.int .i64 p.kind, .int .i64 p.inl.kind, .string p.inl.text, .string ⟨#[]⟩, .string ⟨#[]⟩, .string ⟨#[]⟩, .slice none 0 0, .slice none 0 0, .slice none 0 0, .slice none 0 0, .slice none 0 0, .string p.ch, .int .i64 p.n, .bool p.opn, .bool p.clo, .bool p.img, .int .i64 p.bg, .int .i64 p.nd]
theorem RepI.txt (w : World) (S : Nat → Prop) (k : Int) (s : ByteArray) : RepI w S #[.int .i64 k, .string s, .string ⟨#[]⟩, .string ⟨#[]⟩, .string ⟨#[]⟩, .slice none 0 0, .slice none 0 0, .slice none 0 0, .slice none 0 0, .slice none 0 0] (txtT k s) :=
  .mk k s ⟨#[]⟩ ⟨#[]⟩ noAt [] [] [] none none none none none 0 0 0 0 0 [] ReadsS.none_ ReadsS.none_ ReadsS.none_ ReadsS.none_ .nil ReadsS.none_
theorem plC_rep (w : World) (S : Nat → Prop) (p : PcT) (h : p.inl = txtT p.inl.kind p.inl.text) : RepPc w S (plC p) p :=
  ⟨#[.int .i64 p.inl.kind, .string p.inl.text, .string ⟨#[]⟩, .string ⟨#[]⟩, .string ⟨#[]⟩, .slice none 0 0, .slice none 0 0, .slice none 0 0, .slice none 0 0, .slice none 0 0], by rw [h]; exact RepI.txt w S _ _, by kernel_rfl⟩
/-- What is read of an inline. -/
theorem RepIs.look {w : World} {S : Nat → Prop} {vs : List (Array Value)} {l : List InT} {A : Option Addr} (h : RepIs w S vs l) (hr : ReadsS w S 10 A l.length (vs.flatMap Array.toList)) (i : Nat) (hi : i < l.length) :
    ∃ b off, A = some ⟨b, off, none⟩ ∧ S b ∧ w.cell? ⟨b, off + i * 10, none⟩ = some (.int .i64 l[i].kind) ∧ w.cell? ⟨b, off + i * 10 + 1, none⟩ = some (.string l[i].text) ∧
      ∃ A5 c5 vs5, w.cell? ⟨b, off + i * 10 + 9, none⟩ = some (.slice A5 l[i].kids.length c5) ∧ RepIs w S vs5 l[i].kids ∧ ReadsS w S 10 A5 l[i].kids.length (vs5.flatMap Array.toList) := by
  obtain ⟨b, off, e, hb, hc⟩ := hr.row (by omega) (by decide)
  obtain ⟨v, hv, hvc⟩ := h.at_ i hi
  generalize l[i] = x at *
  cases hv with
  | mk kind text dest title att args cites kids A1 A2 A3 A4 A5 c1 c2 c3 c4 c5 vs5 h1 h2 h3 h4 h5 h6 =>
  have hcell : ∀ j, j < 10 → ∀ u, (#[Value.int .i64 kind, .string text, .string dest, .string title, .string att.id, .slice A1 att.cl.length c1, .slice A2 att.pr.length c2, .slice A3 args.length c3, .slice A4 cites.length c4, .slice A5 kids.length c5] : Array Value)[j]? = some u → w.cell? ⟨b, off + i * 10 + j, none⟩ = some u := fun j hj u hu => by
    rw [Nat.add_assoc]
    exact hc (i * 10 + j) u ((hvc j hj).trans hu)
  exact ⟨b, off, e, hb, hcell 0 (by omega) _ rfl, hcell 1 (by omega) _ rfl, A5, c5, vs5, hcell 9 (by omega) _ rfl, h5, h6⟩
end Go.Pub
namespace Go.Proofs.Ytfnloonmeilhlaa
open Go.RowKit Go.Pub
theorem pc18 : (Try.prog.info? 39).map (·.size) = some 18 := by kernel_rfl
theorem pc_info : (Try.prog.info? 39).map (fun i => (i.zero, i.size, i.bytes)) = some (some (.agg (plC zP)), 18, 248) := by kernel_rfl
set_option maxHeartbeats 1000000 in
theorem l_run (c : ByteArray) (n : Int) (o k : Bool) (w : World) : Calls Try.prog 19 #[.string c, .int .i64 n, .bool o, .bool k] w fun e w' => e = .returned (.agg (plC (plR c n o k))) ∧ Below w.heap.size w w' := by
  have HL := Lib.hid (run_loadVar_row (P := Try.prog) (w.alloc (.cells (plC (plR c n o k)) 39)) w.heap.size 39 39 (plC (plR c n o k)) (0, 0) _ (heap_alloc_new w _) Try.underlying39 rfl pc18)
  go_enter Try.func19, Try.ntmps19
  go_wp2_with (refine wpList_store_row rfl 39 (.tmp 8) (.tmp 13) rfl w.heap.size (plC (plR c n o k)) rfl rfl 39 _ (Blk.new w _ _) pc18 (by rfl) (by simp [plC, Value.oneCell']) ?_; rw [World.setRow_alloc_new])
  refine row_ret Try.results19 HL.out ?_ ?_ ⟨rfl, (Below.refl _ w).alloc (Nat.le_refl _) _⟩
  · rfl
  · rfl

set_option maxHeartbeats 1000000 in
theorem l_word (s : ByteArray) (w : World) : Calls Try.prog 20 #[.string s] w fun e w' => e = .returned (.agg (plC (plW s))) ∧ Below w.heap.size w w' := by
  have HL := Lib.hid (run_loadVar_row (P := Try.prog) (w.alloc (.cells (plC (plW s)) 39)) w.heap.size 39 39 (plC (plW s)) (0, 0) _ (heap_alloc_new w _) Try.underlying39 rfl pc18)
  go_enter Try.func20, Try.ntmps20
  go_wp2_with (refine wpList_store_row rfl 39 (.tmp 2) (.tmp 5) rfl w.heap.size (plC (plW s)) rfl rfl 39 _ (Blk.new w _ _) pc18 (by rfl) (by simp [plC, Value.oneCell']) ?_; rw [World.setRow_alloc_new])
  refine row_ret Try.results20 HL.out ?_ ?_ ⟨rfl, (Below.refl _ w).alloc (Nat.le_refl _) _⟩
  · rfl
  · rfl

def plF (ps : List PcT) : Array Value := (ps.flatMap fun p => (plC p).toList).toArray
theorem pcs_fill3 (a b c : PcT) : Instr.fill (fun i => some (i * 18, 18)) ((Array.range (3 * 18)).map ((Value.agg (plC zP)).cells[· % (Value.agg (plC zP)).cells.size]!)) [(0, .agg (plC a)), (1, .agg (plC b)), (2, .agg (plC c))] = some (plF [a, b, c]) := by kernel_rfl
theorem pcs_fill5 (a b c d e : PcT) : Instr.fill (fun i => some (i * 18, 18)) ((Array.range (5 * 18)).map ((Value.agg (plC zP)).cells[· % (Value.agg (plC zP)).cells.size]!)) [(0, .agg (plC a)), (1, .agg (plC b)), (2, .agg (plC c)), (3, .agg (plC d)), (4, .agg (plC e))] = some (plF [a, b, c, d, e]) := by kernel_rfl
section
variable {ops : Array Oper} {rest : List Oper} {o : Oper} {ac : Act} {w : World} {Q : Exit → Act → World → Prop}
/-- A slice of three pieces is laid. -/
theorem wpList_pcs3 (hg : o.guard = none) (x y z : Operand) (ho : o.op = .buildSlice 22 3 #[(0, x), (1, y), (2, z)]) (a b c : PcT) (hx : ac.eval x = .agg (plC a)) (hy : ac.eval y = .agg (plC b)) (hz : ac.eval z = .agg (plC c))
    (h : wpList Try.prog ops Q rest (ac.put o.dst (.slice (some ⟨w.heap.size, 0, none⟩) 3 3)) (w.alloc (.cells (plF [a, b, c]) 39))) : wpList Try.prog ops Q (o :: rest) ac w := by
  obtain ⟨i0, hi0, hz0, hz1, hz2⟩ := info_parts pc_info
  refine wpList_buildSlice hg 22 39 3 _ ho _ i0 _ Try.underlying22 hi0 hz0 (by rw [hz1]; decide) (by rw [hz1]; decide) ?_ h
  rw [hz1]
  have e : (#[((0 : Nat), x), (1, y), (2, z)].map fun (q : Nat × Operand) => (q.1, ac.eval q.2)).toList = [(0, ac.eval x), (1, ac.eval y), (2, ac.eval z)] := by simp
  rw [hx, hy, hz] at e
  show Instr.fill _ _ (#[((0 : Nat), x), (1, y), (2, z)].map fun (q : Nat × Operand) => (q.1, ac.eval q.2)).toList = _
  rw [e]
  exact pcs_fill3 a b c
theorem wpList_pcs5 (hg : o.guard = none) (x y z u v : Operand) (ho : o.op = .buildSlice 22 5 #[(0, x), (1, y), (2, z), (3, u), (4, v)]) (a b c d e : PcT) (hx : ac.eval x = .agg (plC a)) (hy : ac.eval y = .agg (plC b)) (hz : ac.eval z = .agg (plC c)) (hu : ac.eval u = .agg (plC d)) (hv : ac.eval v = .agg (plC e))
    (h : wpList Try.prog ops Q rest (ac.put o.dst (.slice (some ⟨w.heap.size, 0, none⟩) 5 5)) (w.alloc (.cells (plF [a, b, c, d, e]) 39))) : wpList Try.prog ops Q (o :: rest) ac w := by
  obtain ⟨i0, hi0, hz0, hz1, hz2⟩ := info_parts pc_info
  refine wpList_buildSlice hg 22 39 5 _ ho _ i0 _ Try.underlying22 hi0 hz0 (by rw [hz1]; decide) (by rw [hz1]; decide) ?_ h
  rw [hz1]
  have e : (#[((0 : Nat), x), (1, y), (2, z), (3, u), (4, v)].map fun (q : Nat × Operand) => (q.1, ac.eval q.2)).toList = [(0, ac.eval x), (1, ac.eval y), (2, ac.eval z), (3, ac.eval u), (4, ac.eval v)] := by simp
  rw [hx, hy, hz, hu, hv] at e
  show Instr.fill _ _ (#[((0 : Nat), x), (1, y), (2, z), (3, u), (4, v)].map fun (q : Nat × Operand) => (q.1, ac.eval q.2)).toList = _
  rw [e]
  exact pcs_fill5 _ _ _ _ _
end
/-- Plain pieces that were laid. -/
theorem pcs_new (w : World) (ps : List PcT) (h : ∀ p ∈ ps, p.inl = txtT p.inl.kind p.inl.text) (hn : ps.length ≤ 1000) :
    PcsR (w.alloc (.cells (plF ps) 39)) (fun g => g < (w.alloc (.cells (plF ps) 39)).heap.size) (.slice (some ⟨w.heap.size, 0, none⟩) ps.length ps.length) ps := by
  have hfl : (ps.map plC).flatMap Array.toList = ps.flatMap fun p => (plC p).toList := by rw [List.flatMap_map]
  refine ⟨_, _, ps.map plC, rfl, List.length_map _, fun i hi => ?_, ⟨?_, by unfold maxLen; omega⟩, fun h0 => ⟨_, rfl, by simp, fun j u hj => ?_⟩⟩
  · rw [List.getD_eq_getElem?_getD, List.getElem?_map, List.getElem?_eq_getElem hi]
    have e : pcX ps i = ps[i] := by unfold pcX; rw [List.getD_eq_getElem?_getD, List.getElem?_eq_getElem hi]; rfl
    rw [e]
    exact plC_rep _ _ _ (h _ (List.getElem_mem hi))
  · rw [flatz_len 18 _ (fun v hv => by obtain ⟨p, -, rfl⟩ := List.mem_map.1 hv; rfl), List.length_map]
  · have hadd : (⟨w.heap.size, 0, none⟩ : Addr).add j = ⟨w.heap.size, j, none⟩ := by unfold Addr.add; split <;> simp_all
    rw [hadd, Lib.cell_of_heap (heap_alloc_new w _)]
    unfold plF
    rw [hfl] at hj
    simpa using hj
end Go.Proofs.Ytfnloonmeilhlaa
namespace Go.Pub
def exP : List PcT := [plR ⟨#[42]⟩ 1 true false, plW ⟨#[97, 32]⟩, plR ⟨#[42]⟩ 2 true false, plW ⟨#[98]⟩, plR ⟨#[42]⟩ 3 false true]
theorem exP_nest : nestA exP = [kidT 6 [txtT 1 ⟨#[97, 32]⟩, kidT 7 [txtT 1 ⟨#[98]⟩]]] := by kernel_rfl
theorem exP_prs : (matchA exP).prs = [(2, 4, 2), (0, 4, 1)] := by decide +kernel
theorem exP_z : sumZ exP exP.length ≤ 30000 := by decide +kernel
theorem exP_inl : ∀ p ∈ exP, p.inl = txtT p.inl.kind p.inl.text := by
  intro p hp
  simp only [exP, List.mem_cons, List.not_mem_nil, or_false] at hp
  rcases hp with rfl | rfl | rfl | rfl | rfl <;> rfl
end Go.Pub
namespace Go.Proofs.Ytfnloonmeilhlaa
open Go.RowKit Go.Pub
set_option maxHeartbeats 4000000 in
set_option maxRecDepth 100000 in
theorem l_awake (w : World) : Calls Try.prog 10 #[] w fun e w' => e = .returned (.bool true) ∧ Below w.heap.size w w' := by
  have HP := Lib.hid fun (W : World) => e_Nest (W.alloc (.cells (plF exP) 39)) (pcs_new W exP exP_inl (by decide)) exP_z
  have HQ := Lib.hid fun (W W2 : World) (hb : Below (W.alloc (.cells (plF exP) 39)).heap.size (W.alloc (.cells (plF exP) 39)) W2) => e_Pairs W2 ((pcs_new W exP exP_inl (by decide)).keep (fun g hg => hb.block g hg) fun g hg => Nat.lt_of_lt_of_le hg hb.size) exP_z
  simp only [exP_nest, show exP.length = 5 from rfl] at HP
  simp only [exP_prs, show exP.length = 5 from rfl] at HQ
  go_enter Try.func10, Try.ntmps10
  go_wp2_with fail
  ((with_reducible refine (l_run _ _ _ _ _).mono ?_))
  rintro e w1 ⟨rfl, b1⟩
  have B1 := Lib.hid b1
  have z1 := b1.size
  clear b1
  go_wp2_with fail
  ((with_reducible refine (l_word _ _).mono ?_))
  rintro e w2 ⟨rfl, b2⟩
  have B2 := Lib.hid (B1.out.trans (b2.mono z1))
  have z2 := B2.out.size
  clear b2 B1 z1
  go_wp2_with fail
  ((with_reducible refine (l_run _ _ _ _ _).mono ?_))
  rintro e w3 ⟨rfl, b3⟩
  have B3 := Lib.hid (B2.out.trans (b3.mono z2))
  have z3 := B3.out.size
  clear b3 B2 z2
  go_wp2_with fail
  ((with_reducible refine (l_word _ _).mono ?_))
  rintro e w4 ⟨rfl, b4⟩
  have B4 := Lib.hid (B3.out.trans (b4.mono z3))
  have z4 := B4.out.size
  clear b4 B3 z3
  go_wp2_with fail
  ((with_reducible refine (l_run _ _ _ _ _).mono ?_))
  rintro e w5 ⟨rfl, b5⟩
  have B5 := Lib.hid (B4.out.trans (b5.mono z4))
  have z5 := B5.out.size
  clear b5 B4 z4
  have HB6 : Hid (Below w.heap.size w (w5.alloc (.cells (plF exP) 39))) := Lib.hid (B5.out.alloc z5 _)
  have hfl : plF [plR ⟨#[42]⟩ 1 true false, plW ⟨#[97, 32]⟩, plR ⟨#[42]⟩ 2 true false, plW ⟨#[98]⟩, plR ⟨#[42]⟩ 3 false true] = plF exP := rfl
  have hz6 : (w5.alloc (.cells (plF exP) 39)).heap.size = w5.heap.size + 1 := by simp
  have HPW := Lib.hid (HP.out w5)
  have HQW := Lib.hid (HQ.out w5)
  clear HP HQ
  go_wp2_with (refine wpList_pcs5 rfl _ _ _ _ _ rfl (plR ⟨#[42]⟩ 1 true false) (plW ⟨#[97, 32]⟩) (plR ⟨#[42]⟩ 2 true false) (plW ⟨#[98]⟩) (plR ⟨#[42]⟩ 3 false true) rfl rfl rfl rfl rfl ?_; rw [hfl]; generalize w5.alloc (.cells (plF exP) 39) = w6 at *)
  ((with_reducible refine HPW.out.mono ?_))
  rintro e w7 ⟨A, c, vs, rfl, hr, hm, b7⟩
  obtain ⟨b, off, rfl, hb, q1, q2, A5, c5, vs5, q3, hr5, hm5⟩ := hr.look hm 0 (by decide)
  obtain ⟨bb, oo, rfl, hb2, p1, p2, -⟩ := hr5.look hm5 0 (by decide)
  obtain ⟨bb', oo', e', -, p3, -⟩ := hr5.look hm5 1 (by decide)
  injection e' with e'
  injection e' with e1 e2
  subst e1 e2
  clear hr hm hr5 hm5
  have HPP := Lib.hid (HQW.out w7 b7)
  have B7 := Lib.hid (HB6.out.trans (b7.mono HB6.out.size))
  have z7 := B7.out.size
  have HK : Hid (∀ w8 : World, Below w7.heap.size w7 w8 → w8.cell? ⟨b, off, none⟩ = some (.int .i64 6) ∧ w8.cell? ⟨b, off + 9, none⟩ = some (.slice (some ⟨bb, oo, none⟩) 2 c5) ∧ w8.cell? ⟨bb, oo + 1, none⟩ = some (.string ⟨#[97, 32]⟩) ∧ w8.cell? ⟨bb, oo + 10, none⟩ = some (.int .i64 7)) := Lib.hid fun w8 h8 =>
    ⟨(h8.cell (p := ⟨b, off, none⟩) hb.2).trans q1, (h8.cell (p := ⟨b, off + 9, none⟩) hb.2).trans q3, (h8.cell (p := ⟨bb, oo + 1, none⟩) hb2.2).trans p2, (h8.cell (p := ⟨bb, oo + 10, none⟩) hb2.2).trans p3⟩
  clear q1 q2 q3 p1 p2 p3 b7 HPW HQW
  go_wp2_with fail
  ((with_reducible refine HPP.out.mono ?_))
  rintro e w8 ⟨A8, c8, rfl, hm8, b8⟩
  obtain ⟨k1, k2, k3, k4⟩ := HK.out w8 b8
  obtain ⟨b9, o9, rfl, hb9, hc9⟩ := hm8.row (by decide) (by decide)
  have HB8 := Lib.hid (B7.out.trans (b8.mono z7))
  have r0 : w8.cell? ⟨b9, o9, none⟩ = some (.int .i64 2) := hc9 0 _ rfl
  have r1 : w8.cell? ⟨b9, o9 + 1, none⟩ = some (.int .i64 4) := hc9 1 _ rfl
  have r2 : w8.cell? ⟨b9, o9 + 2, none⟩ = some (.int .i64 2) := hc9 2 _ rfl
  have r3 : w8.cell? ⟨b9, o9 + 3, none⟩ = some (.int .i64 0) := hc9 3 _ rfl
  have r4 : w8.cell? ⟨b9, o9 + 3 + 1, none⟩ = some (.int .i64 4) := hc9 4 _ rfl
  have r5 : w8.cell? ⟨b9, o9 + 3 + 2, none⟩ = some (.int .i64 1) := hc9 5 _ rfl
  have he1 : ∀ W, Sem.run Try.prog (Op.equalIn 10000 30 (Value.agg #[.int .i64 2, .int .i64 4, .int .i64 2]) (Value.agg #[.int .i64 2, .int .i64 4, .int .i64 2])) W = .ok true W := fun _ => by kernel_rfl
  have he2 : ∀ W, Sem.run Try.prog (Op.equalIn 10000 30 (Value.agg #[.int .i64 0, .int .i64 4, .int .i64 1]) (Value.agg #[.int .i64 0, .int .i64 4, .int .i64 1])) W = .ok true W := fun _ => by kernel_rfl
  clear hm8 hc9 b8 HK HPP
  go_wp2_with fail
  go_ret
  exact ⟨rfl, HB8.out⟩

end Go.Proofs.Ytfnloonmeilhlaa
namespace Go.Pub
def lvC (u : Bool) : UInt8 := if u = true then 95 else 42
theorem lv_all (u : Bool) (k : Nat) (hk : k < 9) : nestA (lvPs (lvC u) (k + 1)) = lvAll (k + 1) := by
  cases u
  · exact lv_star k hk
  · exact lv_under k hk
theorem lv_z (u : Bool) : ∀ k, k < 9 → sumZ (lvPs (lvC u) (k + 1)) (lvPs (lvC u) (k + 1)).length ≤ 30000 := by
  cases u <;> decide +kernel
theorem lv_inl (c : UInt8) (k : Nat) : ∀ p ∈ lvPs c k, p.inl = txtT p.inl.kind p.inl.text := by
  intro p hp
  simp only [lvPs, List.mem_cons, List.not_mem_nil, or_false] at hp
  rcases hp with rfl | rfl | rfl <;> rfl
theorem lv_mod (k : Nat) : Int.tmod (1 + (k : Int)) 2 = ((k + 1) % 2 : Nat) ∧ Int.tdiv (1 + (k : Int)) 2 = ((k + 1) / 2 : Nat) := by
  rw [Int.tmod_eq_emod_of_nonneg (by omega), Int.tdiv_eq_ediv_of_nonneg (by omega)]
  omega
theorem lvT_len : ∀ m, (lvT m).length = 1
  | 0 => rfl
  | m + 1 => rfl
end Go.Pub
namespace Go.Proofs.Ytfnloonmeilhlaa
open Go.RowKit Go.Pub
/-- What the loop over the levels reads. -/
def LvW (w0 w : World) (m : Nat) (v : Value) (wr : World) : Prop :=
  wr = w ∧ ∃ A c vs S, v = .slice A 1 c ∧ (∀ g, S g → g < w.heap.size) ∧ RepIs w S vs (lvT m) ∧ ReadsS w S 10 A 1 (vs.flatMap Array.toList)
set_option maxHeartbeats 8000000 in
set_option maxRecDepth 100000 in
theorem law10_levels (n : Nat) (hn : n < 256) (u : Bool) (w : World) : Calls Try.prog 8 #[.int .u8 n, .bool u] w fun e w' => e = .returned (.bool true) ∧ Below w.heap.size w w' := by
  obtain ⟨kk, hkk⟩ : ∃ kk, kk = n % 9 := ⟨_, rfl⟩
  have hk9 : kk < 9 := by omega
  have HP := Lib.hid fun (W : World) => e_Nest (W.alloc (.cells (plF (lvPs (lvC u) (kk + 1))) 39)) (pcs_new W (lvPs (lvC u) (kk + 1)) (lv_inl _ _) (show (3 : Nat) ≤ 1000 by decide)) (lv_z u kk hk9)
  simp only [lv_all u kk hk9, show (lvPs (lvC u) (kk + 1)).length = 3 from rfl] at HP
  have hmod : Int.tmod (n : Int) 9 = (kk : Int) := by rw [hkk, Int.tmod_eq_emod_of_nonneg (by omega)]; omega
  have hfl : plF [plR ⟨#[lvC u]⟩ (1 + kk) true false, plW ⟨#[119]⟩, plR ⟨#[lvC u]⟩ (1 + kk) false true] = plF (lvPs (lvC u) (kk + 1)) := by
    have e : (1 + (kk : Int)) = ((kk + 1 : Nat) : Int) := by omega
    rw [e]; rfl
  obtain ⟨hmd1, hmd2⟩ := lv_mod kk
  obtain ⟨cb, hcb⟩ : ∃ cb, cb = lvC u := ⟨_, rfl⟩
  rw [← hcb] at HP hfl
  clear hkk
  go_enter Try.func8, Try.ntmps8
  cases u
  · obtain rfl : cb = 42 := hcb
    go_wp2_with fail
    ((with_reducible refine (l_run _ _ _ _ _).mono ?_))
    rintro e w1 ⟨rfl, b1⟩
    have B1 := Lib.hid b1
    have z1 := b1.size
    clear b1
    go_wp2_with fail
    ((with_reducible refine (l_word _ _).mono ?_))
    rintro e w2 ⟨rfl, b2⟩
    have B2 := Lib.hid (B1.out.trans (b2.mono z1))
    have z2 := B2.out.size
    clear b2 B1 z1
    go_wp2_with fail
    ((with_reducible refine (l_run _ _ _ _ _).mono ?_))
    rintro e w3 ⟨rfl, b3⟩
    have B3 := Lib.hid (B2.out.trans (b3.mono z2))
    have z3 := B3.out.size
    clear b3 B2 z2
    have HB4 : Hid (Below w.heap.size w (w3.alloc (.cells (plF (lvPs 42 (kk + 1))) 39))) := Lib.hid (B3.out.alloc z3 _)
    have HPW := Lib.hid (HP.out w3)
    clear HP
    go_wp2_with (refine wpList_pcs3 rfl _ _ _ rfl (plR ⟨#[42]⟩ (1 + kk) true false) (plW ⟨#[119]⟩) (plR ⟨#[42]⟩ (1 + kk) false true) rfl rfl rfl ?_; rw [hfl]; generalize w3.alloc (.cells (plF (lvPs 42 (kk + 1))) 39) = w4 at *)
    ((with_reducible refine HPW.out.mono ?_))
    rintro e w5 ⟨A, c, vs, rfl, hr, hm, b5⟩
    have HB5 := Lib.hid (HB4.out.trans (b5.mono HB4.out.size))
    obtain ⟨m, hm0⟩ : ∃ m, m = (kk + 1) / 2 := ⟨_, rfl⟩
    rw [← hm0] at hmd2
    have hm5 : m ≤ 5 := by omega
    clear b5 HPW B3 HB4
    by_cases hodd : (kk + 1) % 2 = 1
    · rw [hodd] at hmd1
      unfold lvAll at hr hm
      rw [if_pos hodd, ← hm0] at hr hm
      simp only [if_pos hodd, ← hm0]
      obtain ⟨b, off, rfl, hb, q1, q2, A5, c5, vs5, q3, hr5, hm5⟩ := hr.look hm 0 (by simp)
      have c0 : w5.cell? ⟨b, off, none⟩ = some (.int .i64 6) := q1
      have c9 : w5.cell? ⟨b, off + 9, none⟩ = some (.slice A5 1 c5) := by
        have := lvT_len m
        have q4 : w5.cell? ⟨b, off + 9, none⟩ = some (.slice A5 (lvT m).length c5) := q3
        rw [this] at q4; exact q4
      have HL : Hid (LvW w w5 (m - 0) (.slice A5 1 c5) w5) := Lib.hid ⟨rfl, A5, c5, vs5, _, rfl, fun g hg => hg.2, hr5, by have := lvT_len m; have h5 : ReadsS w5 _ 10 A5 (lvT m).length (vs5.flatMap Array.toList) := hm5; rw [this] at h5; exact h5⟩
      clear q1 q2 q3 hr5 hm5 hr hm
      have hl1 : (lvAll (kk + 1)).length = 1 := by unfold lvAll; rw [if_pos hodd]; rfl
      rw [hl1]
      clear hodd hm0 hl1
      go_wp2_with fail
      go_loopw [7, 8] (fun v7 v8 wr => ∃ i : Nat, i ≤ m ∧ v8 = .int .i64 i ∧ Hid (LvW w w5 (m - i) v7 wr)) (fun _ v8 _ => m - (intOf v8).toNat)
      case atStart => exact ⟨0, Nat.zero_le _, rfl, HL⟩
      case round =>
        clear HL
        obtain ⟨i, hi, rfl, HI⟩ := hrel
        obtain ⟨rfl, A, c, vs, S, rfl, hS, hr, hm⟩ := HI.out
        by_cases hlt : i < m
        · obtain ⟨t, ht⟩ : ∃ t, m - i = t + 1 := ⟨m - i - 1, by omega⟩
          rw [ht] at hr
          obtain ⟨b, off, rfl, hb, q1, q2, A5, c5, vs5, q3, hr5, hm5⟩ := RepIs.look hr (show ReadsS _ S 10 A (lvT (t + 1)).length _ from hm) 0 (Nat.zero_lt_succ 0)
          have c0 : wr.cell? ⟨b, off, none⟩ = some (.int .i64 7) := q1
          have c9 : wr.cell? ⟨b, off + 9, none⟩ = some (.slice A5 1 c5) := by
            have := lvT_len t
            have q4 : wr.cell? ⟨b, off + 9, none⟩ = some (.slice A5 (lvT t).length c5) := q3
            rw [this] at q4; exact q4
          have HF : Hid (LvW w wr (m - (i + 1)) (.slice A5 1 c5) wr) := Lib.hid ⟨rfl, A5, c5, vs5, S, rfl, hS, by rw [show m - (i + 1) = t by omega]; exact hr5, by have := lvT_len t; have h5 : ReadsS wr S 10 A5 (lvT t).length (vs5.flatMap Array.toList) := hm5; rw [this] at h5; exact h5⟩
          have hii : (i : Int) < (m : Int) := by omega
          clear q1 q2 q3 hr5 hm5 hr hm hS HI ht
          go_wp2_with fail
          go_roundw
          case rel => exact ⟨i + 1, by omega, by go_num, HF⟩
          case measure => simp [intOf]; omega
        · obtain rfl : i = m := by omega
          rw [Nat.sub_self] at hr
          obtain ⟨b, off, rfl, hb, q1, q2, -⟩ := RepIs.look hr (show ReadsS _ S 10 A (lvT 0).length _ from hm) 0 (by decide)
          have c0 : wr.cell? ⟨b, off, none⟩ = some (.int .i64 1) := q1
          have c1 : wr.cell? ⟨b, off + 1, none⟩ = some (.string ⟨#[119]⟩) := q2
          clear q1 q2 hr hm hS HI
          go_wp2_with fail
          ((with_reducible refine (l_awake wr).mono ?_))
          rintro e w9 ⟨rfl, b9⟩
          have HB9 := Lib.hid (HB5.out.trans (b9.mono HB5.out.size))
          clear b9
          go_wp2_with fail
          go_ret
          exact ⟨rfl, HB9.out⟩
    · have hev : (kk + 1) % 2 = 0 := by omega
      rw [hev] at hmd1
      unfold lvAll at hr hm
      rw [if_neg hodd, ← hm0] at hr hm
      have HL : Hid (LvW w w5 (m - 0) (.slice A 1 c) w5) := Lib.hid ⟨rfl, A, c, vs, _, rfl, fun g hg => hg.2, hr, by have := lvT_len m; rw [this] at hm; exact hm⟩
      have hl1 : (lvAll (kk + 1)).length = 1 := by unfold lvAll; rw [if_neg hodd]; exact lvT_len _
      rw [hl1]
      clear hr hm hodd hev hm0 hl1
      go_wp2_with fail
      go_loopw [7, 8] (fun v7 v8 wr => ∃ i : Nat, i ≤ m ∧ v8 = .int .i64 i ∧ Hid (LvW w w5 (m - i) v7 wr)) (fun _ v8 _ => m - (intOf v8).toNat)
      case atStart => exact ⟨0, Nat.zero_le _, rfl, HL⟩
      case round =>
        clear HL
        obtain ⟨i, hi, rfl, HI⟩ := hrel
        obtain ⟨rfl, A, c, vs, S, rfl, hS, hr, hm⟩ := HI.out
        by_cases hlt : i < m
        · obtain ⟨t, ht⟩ : ∃ t, m - i = t + 1 := ⟨m - i - 1, by omega⟩
          rw [ht] at hr
          obtain ⟨b, off, rfl, hb, q1, q2, A5, c5, vs5, q3, hr5, hm5⟩ := RepIs.look hr (show ReadsS _ S 10 A (lvT (t + 1)).length _ from hm) 0 (Nat.zero_lt_succ 0)
          have c0 : wr.cell? ⟨b, off, none⟩ = some (.int .i64 7) := q1
          have c9 : wr.cell? ⟨b, off + 9, none⟩ = some (.slice A5 1 c5) := by
            have := lvT_len t
            have q4 : wr.cell? ⟨b, off + 9, none⟩ = some (.slice A5 (lvT t).length c5) := q3
            rw [this] at q4; exact q4
          have HF : Hid (LvW w wr (m - (i + 1)) (.slice A5 1 c5) wr) := Lib.hid ⟨rfl, A5, c5, vs5, S, rfl, hS, by rw [show m - (i + 1) = t by omega]; exact hr5, by have := lvT_len t; have h5 : ReadsS wr S 10 A5 (lvT t).length (vs5.flatMap Array.toList) := hm5; rw [this] at h5; exact h5⟩
          have hii : (i : Int) < (m : Int) := by omega
          clear q1 q2 q3 hr5 hm5 hr hm hS HI ht
          go_wp2_with fail
          go_roundw
          case rel => exact ⟨i + 1, by omega, by go_num, HF⟩
          case measure => simp [intOf]; omega
        · obtain rfl : i = m := by omega
          rw [Nat.sub_self] at hr
          obtain ⟨b, off, rfl, hb, q1, q2, -⟩ := RepIs.look hr (show ReadsS _ S 10 A (lvT 0).length _ from hm) 0 (by decide)
          have c0 : wr.cell? ⟨b, off, none⟩ = some (.int .i64 1) := q1
          have c1 : wr.cell? ⟨b, off + 1, none⟩ = some (.string ⟨#[119]⟩) := q2
          clear q1 q2 hr hm hS HI
          go_wp2_with fail
          ((with_reducible refine (l_awake wr).mono ?_))
          rintro e w9 ⟨rfl, b9⟩
          have HB9 := Lib.hid (HB5.out.trans (b9.mono HB5.out.size))
          clear b9
          go_wp2_with fail
          go_ret
          exact ⟨rfl, HB9.out⟩
  · obtain rfl : cb = 95 := hcb
    go_wp2_with fail
    ((with_reducible refine (l_run _ _ _ _ _).mono ?_))
    rintro e w1 ⟨rfl, b1⟩
    have B1 := Lib.hid b1
    have z1 := b1.size
    clear b1
    go_wp2_with fail
    ((with_reducible refine (l_word _ _).mono ?_))
    rintro e w2 ⟨rfl, b2⟩
    have B2 := Lib.hid (B1.out.trans (b2.mono z1))
    have z2 := B2.out.size
    clear b2 B1 z1
    go_wp2_with fail
    ((with_reducible refine (l_run _ _ _ _ _).mono ?_))
    rintro e w3 ⟨rfl, b3⟩
    have B3 := Lib.hid (B2.out.trans (b3.mono z2))
    have z3 := B3.out.size
    clear b3 B2 z2
    have HB4 : Hid (Below w.heap.size w (w3.alloc (.cells (plF (lvPs 95 (kk + 1))) 39))) := Lib.hid (B3.out.alloc z3 _)
    have HPW := Lib.hid (HP.out w3)
    clear HP
    go_wp2_with (refine wpList_pcs3 rfl _ _ _ rfl (plR ⟨#[95]⟩ (1 + kk) true false) (plW ⟨#[119]⟩) (plR ⟨#[95]⟩ (1 + kk) false true) rfl rfl rfl ?_; rw [hfl]; generalize w3.alloc (.cells (plF (lvPs 95 (kk + 1))) 39) = w4 at *)
    ((with_reducible refine HPW.out.mono ?_))
    rintro e w5 ⟨A, c, vs, rfl, hr, hm, b5⟩
    have HB5 := Lib.hid (HB4.out.trans (b5.mono HB4.out.size))
    obtain ⟨m, hm0⟩ : ∃ m, m = (kk + 1) / 2 := ⟨_, rfl⟩
    rw [← hm0] at hmd2
    have hm5 : m ≤ 5 := by omega
    clear b5 HPW B3 HB4
    by_cases hodd : (kk + 1) % 2 = 1
    · rw [hodd] at hmd1
      unfold lvAll at hr hm
      rw [if_pos hodd, ← hm0] at hr hm
      simp only [if_pos hodd, ← hm0]
      obtain ⟨b, off, rfl, hb, q1, q2, A5, c5, vs5, q3, hr5, hm5⟩ := hr.look hm 0 (by simp)
      have c0 : w5.cell? ⟨b, off, none⟩ = some (.int .i64 6) := q1
      have c9 : w5.cell? ⟨b, off + 9, none⟩ = some (.slice A5 1 c5) := by
        have := lvT_len m
        have q4 : w5.cell? ⟨b, off + 9, none⟩ = some (.slice A5 (lvT m).length c5) := q3
        rw [this] at q4; exact q4
      have HL : Hid (LvW w w5 (m - 0) (.slice A5 1 c5) w5) := Lib.hid ⟨rfl, A5, c5, vs5, _, rfl, fun g hg => hg.2, hr5, by have := lvT_len m; have h5 : ReadsS w5 _ 10 A5 (lvT m).length (vs5.flatMap Array.toList) := hm5; rw [this] at h5; exact h5⟩
      clear q1 q2 q3 hr5 hm5 hr hm
      have hl1 : (lvAll (kk + 1)).length = 1 := by unfold lvAll; rw [if_pos hodd]; rfl
      rw [hl1]
      clear hodd hm0 hl1
      go_wp2_with fail
      go_loopw [7, 8] (fun v7 v8 wr => ∃ i : Nat, i ≤ m ∧ v8 = .int .i64 i ∧ Hid (LvW w w5 (m - i) v7 wr)) (fun _ v8 _ => m - (intOf v8).toNat)
      case atStart => exact ⟨0, Nat.zero_le _, rfl, HL⟩
      case round =>
        clear HL
        obtain ⟨i, hi, rfl, HI⟩ := hrel
        obtain ⟨rfl, A, c, vs, S, rfl, hS, hr, hm⟩ := HI.out
        by_cases hlt : i < m
        · obtain ⟨t, ht⟩ : ∃ t, m - i = t + 1 := ⟨m - i - 1, by omega⟩
          rw [ht] at hr
          obtain ⟨b, off, rfl, hb, q1, q2, A5, c5, vs5, q3, hr5, hm5⟩ := RepIs.look hr (show ReadsS _ S 10 A (lvT (t + 1)).length _ from hm) 0 (Nat.zero_lt_succ 0)
          have c0 : wr.cell? ⟨b, off, none⟩ = some (.int .i64 7) := q1
          have c9 : wr.cell? ⟨b, off + 9, none⟩ = some (.slice A5 1 c5) := by
            have := lvT_len t
            have q4 : wr.cell? ⟨b, off + 9, none⟩ = some (.slice A5 (lvT t).length c5) := q3
            rw [this] at q4; exact q4
          have HF : Hid (LvW w wr (m - (i + 1)) (.slice A5 1 c5) wr) := Lib.hid ⟨rfl, A5, c5, vs5, S, rfl, hS, by rw [show m - (i + 1) = t by omega]; exact hr5, by have := lvT_len t; have h5 : ReadsS wr S 10 A5 (lvT t).length (vs5.flatMap Array.toList) := hm5; rw [this] at h5; exact h5⟩
          have hii : (i : Int) < (m : Int) := by omega
          clear q1 q2 q3 hr5 hm5 hr hm hS HI ht
          go_wp2_with fail
          go_roundw
          case rel => exact ⟨i + 1, by omega, by go_num, HF⟩
          case measure => simp [intOf]; omega
        · obtain rfl : i = m := by omega
          rw [Nat.sub_self] at hr
          obtain ⟨b, off, rfl, hb, q1, q2, -⟩ := RepIs.look hr (show ReadsS _ S 10 A (lvT 0).length _ from hm) 0 (by decide)
          have c0 : wr.cell? ⟨b, off, none⟩ = some (.int .i64 1) := q1
          have c1 : wr.cell? ⟨b, off + 1, none⟩ = some (.string ⟨#[119]⟩) := q2
          clear q1 q2 hr hm hS HI
          go_wp2_with fail
          ((with_reducible refine (l_awake wr).mono ?_))
          rintro e w9 ⟨rfl, b9⟩
          have HB9 := Lib.hid (HB5.out.trans (b9.mono HB5.out.size))
          clear b9
          go_wp2_with fail
          go_ret
          exact ⟨rfl, HB9.out⟩
    · have hev : (kk + 1) % 2 = 0 := by omega
      rw [hev] at hmd1
      unfold lvAll at hr hm
      rw [if_neg hodd, ← hm0] at hr hm
      have HL : Hid (LvW w w5 (m - 0) (.slice A 1 c) w5) := Lib.hid ⟨rfl, A, c, vs, _, rfl, fun g hg => hg.2, hr, by have := lvT_len m; rw [this] at hm; exact hm⟩
      have hl1 : (lvAll (kk + 1)).length = 1 := by unfold lvAll; rw [if_neg hodd]; exact lvT_len _
      rw [hl1]
      clear hr hm hodd hev hm0 hl1
      go_wp2_with fail
      go_loopw [7, 8] (fun v7 v8 wr => ∃ i : Nat, i ≤ m ∧ v8 = .int .i64 i ∧ Hid (LvW w w5 (m - i) v7 wr)) (fun _ v8 _ => m - (intOf v8).toNat)
      case atStart => exact ⟨0, Nat.zero_le _, rfl, HL⟩
      case round =>
        clear HL
        obtain ⟨i, hi, rfl, HI⟩ := hrel
        obtain ⟨rfl, A, c, vs, S, rfl, hS, hr, hm⟩ := HI.out
        by_cases hlt : i < m
        · obtain ⟨t, ht⟩ : ∃ t, m - i = t + 1 := ⟨m - i - 1, by omega⟩
          rw [ht] at hr
          obtain ⟨b, off, rfl, hb, q1, q2, A5, c5, vs5, q3, hr5, hm5⟩ := RepIs.look hr (show ReadsS _ S 10 A (lvT (t + 1)).length _ from hm) 0 (Nat.zero_lt_succ 0)
          have c0 : wr.cell? ⟨b, off, none⟩ = some (.int .i64 7) := q1
          have c9 : wr.cell? ⟨b, off + 9, none⟩ = some (.slice A5 1 c5) := by
            have := lvT_len t
            have q4 : wr.cell? ⟨b, off + 9, none⟩ = some (.slice A5 (lvT t).length c5) := q3
            rw [this] at q4; exact q4
          have HF : Hid (LvW w wr (m - (i + 1)) (.slice A5 1 c5) wr) := Lib.hid ⟨rfl, A5, c5, vs5, S, rfl, hS, by rw [show m - (i + 1) = t by omega]; exact hr5, by have := lvT_len t; have h5 : ReadsS wr S 10 A5 (lvT t).length (vs5.flatMap Array.toList) := hm5; rw [this] at h5; exact h5⟩
          have hii : (i : Int) < (m : Int) := by omega
          clear q1 q2 q3 hr5 hm5 hr hm hS HI ht
          go_wp2_with fail
          go_roundw
          case rel => exact ⟨i + 1, by omega, by go_num, HF⟩
          case measure => simp [intOf]; omega
        · obtain rfl : i = m := by omega
          rw [Nat.sub_self] at hr
          obtain ⟨b, off, rfl, hb, q1, q2, -⟩ := RepIs.look hr (show ReadsS _ S 10 A (lvT 0).length _ from hm) 0 (by decide)
          have c0 : wr.cell? ⟨b, off, none⟩ = some (.int .i64 1) := q1
          have c1 : wr.cell? ⟨b, off + 1, none⟩ = some (.string ⟨#[119]⟩) := q2
          clear q1 q2 hr hm hS HI
          go_wp2_with fail
          ((with_reducible refine (l_awake wr).mono ?_))
          rintro e w9 ⟨rfl, b9⟩
          have HB9 := Lib.hid (HB5.out.trans (b9.mono HB5.out.size))
          clear b9
          go_wp2_with fail
          go_ret
          exact ⟨rfl, HB9.out⟩

end Go.Proofs.Ytfnloonmeilhlaa
namespace Go.Pub
open Go.RowKit Go.WideShapes Go.ChangeShapes
section
variable {H : Type} {enc : TypeId × Value → H} {P : Program}
theorem post_of_below {f : Func} {s : ChangeSpec} {apart fresh handsOn again : Bool} {W W' : World} {args : Array Value} {v : Value} {ds gs : List (DataW H)} {before pa pv : List MemPlace}
    (hW : DataW.Whole enc P f.params.toList s.vars apart W args.toList ds gs before)
    (hres : ∀ (b : Nat) (sp : Nat → Bool) (hd : Bool), DataW.TrodAll enc P W' b sp hd f.resultTypes.toList (v.resultList f.resultTypes.size) (s.fn H (ds ++ gs)).results [])
    (hargs : ∀ sp : Nat → Bool, (∀ p ∈ before, sp p.block = true) → DataW.TrodAll enc P W' 0 sp true f.params.toList args.toList (s.fn H (ds ++ gs)).args pa)
    (hvars : ∀ sp : Nat → Bool, (∀ p ∈ before, sp p.block = true) → DataW.TrodVars enc P W' sp s.vars (s.fn H (ds ++ gs)).vars pv)
    (hps : before = pa ++ pv) (hb : Below W.heap.size W W')
    (hok : ∀ (j : Nat) (t : TypeId) (r : Value), f.resultTypes[j]? = some t → (v.resultList f.resultTypes.size)[j]? = some r → Value.okWide P W' .any 0 t r) :
    s.post enc P f apart fresh handsOn again W args v W' := by
  have hlt : ∀ p ∈ before, p.block < W.heap.size := fun p hp => hW.lt p hp
  have hold : ∀ p ∈ before, (fun b => decide (b < W.heap.size)) p.block = true := fun p hp => by simpa using hlt p hp
  refine ⟨ds, gs, before, [], pa, pv, hW, hres _ _ _, hargs _ hold, hvars _ hold, World.keptBut_mono (fun p hp => ⟨hp, ?_⟩) (hb.frame (· ∈ before)), fun _ => ?_⟩
  · rw [hps, List.mem_append] at hp
    exact Or.inr hp
  · obtain ⟨_, _, _, _, _, hz, hn⟩ := hW
    refine ⟨hok, _, _, ([] ++ pa) ++ pv, ⟨[] ++ pa, pv, trodAll_append (hargs _ (fun _ _ => rfl)) (hres _ _ _), hvars _ (fun _ _ => rfl), rfl, ?_, ?_⟩, ?_⟩
    · intro b off hp
      have hin : MemPlace.cell b off ∈ before := by rw [hps]; simpa using hp
      rw [hb.frozen (hlt _ hin)]
      exact hz b off hin
    · intro ha
      have := hn ha
      rw [hps] at this
      simpa using this
    · intro p hp _
      rw [hps]
      simpa using hp
end
end Go.Pub
