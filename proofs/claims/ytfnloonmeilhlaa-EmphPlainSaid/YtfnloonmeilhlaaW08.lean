/-
  Texts of the proof, put together (what this law reaches): EmCA, EmPB, EmSB, EmSC, EmSD, EmLC, EmCB, EmPC.
-/
import Derived.Test.YtfnloonmeilhlaaW07
import Derived.Test.YtfnloonmeilhlaaW06
import Derived.Test.YtfnloonmeilhlaaW04
import Derived.BigQuiet
set_option linter.unusedVariables false
set_option linter.unusedSimpArgs false
namespace Go.Pub
open Go.RowKit
theorem wgtL_sz (g : List InT → Nat) (hg : ∀ l, g l < 1000 → sizeL l ≤ 399 * g l) : ∀ (l : List InT) (n : Nat), wgtL g n l < 1000 → n ≤ wgtL g n l ∧ sizeL l ≤ 399 * (wgtL g n l - n) + 399 * l.length
  | [], n, _ => by unfold wgtL; exact ⟨Nat.le_refl _, by rw [sizeL]; omega⟩
  | x :: l, n, h => by
    unfold wgtL at h ⊢
    by_cases h1 : 1000 ≤ n
    · rw [if_pos h1] at h; omega
    · rw [if_neg h1] at h ⊢
      by_cases h2 : badI x = true
      · rw [if_pos h2] at h; omega
      · rw [if_neg h2] at h ⊢
        obtain ⟨a1, a2⟩ := wgtL_sz g hg l _ h
        have a3 := hg x.kids (by omega)
        have a4 : sizeI x ≤ 399 + sizeL x.kids := by
          obtain ⟨k, t, d, ti, a, ar, c, ks⟩ := x
          unfold badI longA at h2
          simp only [Bool.or_eq_true, decide_eq_true_eq, not_or, Nat.not_lt] at h2
          obtain ⟨b1, ⟨b2, b3, -⟩, b4, b5⟩ := h2
          rw [sizeI]
          show _ ≤ 399 + sizeL ks
          omega
        refine ⟨by omega, ?_⟩
        rw [sizeL, List.length_cons]
        omega
theorem wgtF_sz : ∀ (f : Nat) (l : List InT), wgtF f l < 1000 → sizeL l ≤ 399 * wgtF f l
  | 0, l, h => by unfold wgtF at h; omega
  | f + 1, l, h => by
    unfold wgtF at h ⊢
    by_cases h1 : 200 < l.length
    · rw [if_pos h1] at h; omega
    · rw [if_neg h1] at h ⊢
      obtain ⟨a1, a2⟩ := wgtL_sz (wgtF f) (wgtF_sz f) l l.length h
      omega
theorem pcX_get {ps : List PcT} {i : Nat} (hi : i < ps.length) : pcX ps i = ps[i] := by
  unfold pcX; rw [List.getD_eq_getElem?_getD, List.getElem?_eq_getElem hi]; rfl
/-- What few pieces are. -/
theorem few_bd {ps : List PcT} (h : fewP ps = true) : ps.length ≤ 40 ∧ (∀ i, i < ps.length → (pcX ps i).ch.size ≤ 9 ∧ (pcX ps i).n ≤ 40) ∧ sizeL (ps.map (·.inl)) ≤ 47481 := by
  unfold fewP at h
  simp only [Bool.and_eq_true, decide_eq_true_eq, List.all_eq_true] at h
  obtain ⟨h1, h2, h3⟩ := h
  refine ⟨h1, fun i hi => ?_, ?_⟩
  · rw [pcX_get hi]; exact h2 _ (List.getElem_mem hi)
  · have := wgtF_sz 21 (ps.map (·.inl)) (by omega)
    omega
theorem sumN_few {ps : List PcT} (h : ∀ i, i < ps.length → (pcX ps i).n ≤ 40) : ∀ k, k ≤ ps.length → sumN ps k ≤ 40 * k
  | 0, _ => Nat.le_refl _
  | k + 1, hk => by
    have h1 := sumN_few h k (by omega)
    have h2 := h k (by omega)
    show sumN ps k + (if runP (pcX ps k) = true then _ else 0) ≤ _
    split <;> omega
theorem sizeL_take (l : List InT) {k : Nat} (h : k < l.length) : sizeL (l.take (k + 1)) = sizeL (l.take k) + sizeI l[k] := by
  rw [List.take_succ_eq_append_getElem h, sizeL_app, sizeL_one]
theorem sumZ_few {ps : List PcT} (h : ∀ i, i < ps.length → (pcX ps i).n ≤ 40) : ∀ k, k ≤ ps.length → sumZ ps k ≤ sizeL ((ps.map (·.inl)).take k) + 41 * k
  | 0, _ => Nat.zero_le _
  | k + 1, hk => by
    have h1 := sumZ_few h k (by omega)
    have h2 := h k (by omega)
    have hl : k < (ps.map (·.inl)).length := by rw [List.length_map]; omega
    rw [sizeL_take _ hl, List.getElem_map, ← pcX_get (by omega)]
    show sumZ ps k + pcZ _ ≤ _
    unfold pcZ
    omega
theorem few_sums {ps : List PcT} (h : fewP ps = true) : ps.length ≤ 40 ∧ sumN ps ps.length ≤ 1600 ∧ sumZ ps ps.length ≤ 50000 := by
  obtain ⟨h1, h2, h3⟩ := few_bd h
  have h4 := sumN_few (fun i hi => (h2 i hi).2) ps.length (Nat.le_refl _)
  have h5 := sumZ_few (fun i hi => (h2 i hi).2) ps.length (Nat.le_refl _)
  have h6 : (ps.map (·.inl)).take ps.length = ps.map (·.inl) := by rw [← List.length_map (f := fun p : PcT => p.inl), List.take_length]
  rw [h6] at h5
  omega
/-- A match does not cross another one. -/
def NoX (s t : Nat × Nat × Nat) : Prop := s.1 < t.1 → (t.1 < s.2.1 ∧ t.2.1 ≤ s.2.1) ∨ s.2.1 ≤ t.1
structure CrI (k : Nat) (st : EmS) (ids : List Nat) : Prop where
  fit : ∀ t ∈ st.prs, t.1 < t.2.1 ∧ t.2.1 < k ∧ 1 ≤ t.2.2 ∧ t.2.2 ≤ 2
  nox : ∀ s ∈ st.prs, ∀ t ∈ st.prs, NoX s t
  out : ∀ x ∈ ids, runX st.xs x = true → pX st.xs x < k ∧ ∀ t ∈ st.prs, pX st.xs x ≤ t.1 ∨ t.2.1 ≤ pX st.xs x
  asc : ids.Pairwise fun a b => runX st.xs a = true → runX st.xs b = true → pX st.xs a < pX st.xs b
theorem CrI.congr {k : Nat} {st st' : EmS} {ids : List Nat} (h : CrI k st ids) (hp : st'.prs = st.prs) (he : ∀ x ∈ ids, runX st'.xs x = runX st.xs x ∧ pX st'.xs x = pX st.xs x) : CrI k st' ids :=
  ⟨by rw [hp]; exact h.fit, by rw [hp]; exact h.nox, fun x hx hr => by
    rw [(he x hx).1] at hr
    rw [(he x hx).2, hp]
    exact h.out x hx hr, h.asc.imp_of_mem fun ha hb hab r1 r2 => by
    rw [(he _ ha).1] at r1
    rw [(he _ hb).1] at r2
    rw [(he _ ha).2, (he _ hb).2]
    exact hab r1 r2⟩
theorem CrI.up {k : Nat} {st : EmS} {ids : List Nat} (h : CrI k st ids) : CrI (k + 1) st ids :=
  ⟨fun t ht => by have := h.fit t ht; omega, h.nox, fun x hx hr => ⟨by have := (h.out x hx hr).1; omega, (h.out x hx hr).2⟩, h.asc⟩
theorem CrI.snoc {k y : Nat} {st : EmS} {ids : List Nat} (h : CrI k st ids) (hy : runX st.xs y = true → pX st.xs y = k) : CrI (k + 1) st (ids ++ [y]) := by
  refine ⟨fun t ht => by have := h.fit t ht; omega, h.nox, fun x hx hr => ?_, ?_⟩
  · rw [List.mem_append, List.mem_singleton] at hx
    rcases hx with hx | rfl
    · exact ⟨by have := (h.out x hx hr).1; omega, (h.out x hx hr).2⟩
    · rw [hy hr]
      exact ⟨by omega, fun t ht => .inr (by have := h.fit t ht; omega)⟩
  · rw [List.pairwise_append]
    refine ⟨h.asc, List.pairwise_singleton _ _, fun a ha b hb r1 r2 => ?_⟩
    rw [List.mem_singleton] at hb
    subst hb
    rw [hy r2]
    exact (h.out a ha r1).1
theorem cross_all (ps : List PcT) : ∀ k, k ≤ ps.length → ∃ ids, MatI ps k (matchF ps k) ids ∧ CrI k (matchF ps k) ids := by
  refine match_ind ps CrI ⟨fun t ht => absurd ht (by simp [start0]), fun t ht => absurd ht (by simp [start0]), fun x hx => absurd hx (by simp), .nil⟩ ?_ ?_ ?_ ?_ ?_
  · intro k st ids hM hk hp hc hP
    exact hP.up
  · intro k st ids hM hk hp hk0 hi hP
    refine CrI.snoc (hP.congr (st' := inlS ps st k) rfl fun x hx => ?_) fun hr => ?_
    · obtain ⟨e1, e2, e3, e4⟩ := core_ins' (xs := st.xs) (e := { t := (pcX ps k).inl }) (k := 0) (j := x) (by have := hM.em.ring.bd x hx; omega)
      exact ⟨e2, e3⟩
    · obtain ⟨e1, e2, e3, e4⟩ := core_ins0 (xs := st.xs) (e := { t := (pcX ps k).inl }) (k := 0)
      have : runX (inlS ps st k).xs st.xs.length = false := e2
      rw [this] at hr; cases hr
  · intro k st ids hM hk hp hP
    refine CrI.snoc (hP.congr (st' := runS ps st k) rfl fun x hx => ?_) fun hr => ?_
    · obtain ⟨e1, e2, e3, e4⟩ := core_ins' (xs := st.xs) (e := runE k (pcX ps k).n.toNat) (k := 0) (j := x) (by have := hM.em.ring.bd x hx; omega)
      exact ⟨e2, e3⟩
    · obtain ⟨e1, e2, e3, e4⟩ := core_ins0 (xs := st.xs) (e := runE k (pcX ps k).n.toNat) (k := 0)
      exact e3
  · intro k c st A B R hk hclo h hl hR hR0 hB hg hr hlr hP
    obtain ⟨r1, r2, r3, r4, r5⟩ := ring_parts hg
    have hpn := pairN_one (st := st) (o := R) (c := c)
    have hpc : pX st.xs c = k := h.pc
    have hprs : (mtchA ps st R c).prs = st.prs ++ [(pX st.xs R, pX st.xs c, pairN st.xs R c)] := rfl
    have hoR := hP.out R (by simp) hr
    have hRc : pX st.xs R < pX st.xs c := by
      have h1 := (List.pairwise_append.1 hP.asc).2.1
      rw [List.pairwise_cons] at h1
      exact h1.1 c (by simp) hr h.run
    have hA : ∀ a ∈ A, runX st.xs a = true → pX st.xs a < pX st.xs R := fun a ha hra => (List.pairwise_append.1 hP.asc).2.2 a ha R (by simp) hra hr
    have hcore : ∀ x, x ≠ st.xs.length → runX (mtchA ps st R c).xs x = runX st.xs x ∧ pX (mtchA ps st R c).xs x = pX st.xs x := fun x hx => by
      obtain ⟨-, e2, e3, -⟩ := core_mtch' (ps := ps) r4 r5 r3 hx
      exact ⟨e2, e3⟩
    have hnew : runX (mtchA ps st R c).xs st.xs.length = false := (core_mtch0 (ps := ps) r4 r5 r3).2
    -- who stays in the ring
    have hmem : ∀ x ∈ A ++ (if lfX st.xs R ≤ pairN st.xs R c then [] else [R]) ++ st.xs.length :: (if lfX st.xs c ≤ pairN st.xs R c then [] else [c]), x = st.xs.length ∨ (x ≠ st.xs.length ∧ (x ∈ A ∨ x = R ∨ x = c)) := by
      intro x hx
      by_cases hxl : x = st.xs.length
      · exact .inl hxl
      · refine .inr ⟨hxl, ?_⟩
        rw [List.mem_append, List.mem_append, List.mem_cons] at hx
        rcases hx with (hx | hx) | hx | hx
        · exact .inl hx
        · split at hx
          · cases hx
          · exact .inr (.inl (by simpa using hx))
        · exact absurd hx hxl
        · split at hx
          · cases hx
          · exact .inr (.inr (by simpa using hx))
    refine ⟨fun t ht => ?_, fun s hs t ht => ?_, fun x hx hrx => ?_, ?_⟩
    · rw [hprs, List.mem_append, List.mem_singleton] at ht
      rcases ht with ht | rfl
      · exact hP.fit t ht
      · exact ⟨hRc, by show pX st.xs c < _; omega, hpn.1, hpn.2⟩
    · rw [hprs, List.mem_append, List.mem_singleton] at hs ht
      rcases hs with hs | rfl
      · rcases ht with ht | rfl
        · exact hP.nox s hs t ht
        · intro hlt
          have hlt : s.1 < pX st.xs R := hlt
          rcases hoR.2 s hs with h1 | h1
          · omega
          · exact .inr h1
      · rcases ht with ht | rfl
        · intro hlt
          have hf := hP.fit t ht
          refine .inl ⟨?_, ?_⟩
          · show t.1 < pX st.xs c; omega
          · show t.2.1 ≤ pX st.xs c; omega
        · intro hlt
          exact absurd hlt (Nat.lt_irrefl _)
    · rcases hmem x hx with rfl | ⟨hxl, hx3⟩
      · rw [hnew] at hrx; cases hrx
      · rw [(hcore x hxl).1] at hrx
        rw [(hcore x hxl).2, hprs]
        have hold : pX st.xs x < k + 1 ∧ ∀ t ∈ st.prs, pX st.xs x ≤ t.1 ∨ t.2.1 ≤ pX st.xs x := hP.out x (by rcases hx3 with h1 | rfl | rfl <;> simp_all) hrx
        refine ⟨hold.1, fun t ht => ?_⟩
        rw [List.mem_append, List.mem_singleton] at ht
        rcases ht with ht | rfl
        · exact hold.2 t ht
        · rcases hx3 with h1 | rfl | rfl
          · exact .inl (Nat.le_of_lt (hA x h1 hrx))
          · exact .inl (Nat.le_refl _)
          · exact .inr (Nat.le_refl _)
    · have hasc : (A ++ (if lfX st.xs R ≤ pairN st.xs R c then [] else [R]) ++ (if lfX st.xs c ≤ pairN st.xs R c then [] else [c])).Pairwise fun a b => runX st.xs a = true → runX st.xs b = true → pX st.xs a < pX st.xs b := by
        refine hP.asc.sublist ?_
        rw [List.append_assoc]
        refine List.Sublist.append (List.Sublist.refl _) ?_
        have s1 : (if lfX st.xs R ≤ pairN st.xs R c then ([] : List Nat) else [R]).Sublist [R] := by split <;> simp
        have s2 : (if lfX st.xs c ≤ pairN st.xs R c then ([] : List Nat) else [c]).Sublist (B ++ [c]) := by
          split
          · simp
          · exact List.sublist_append_right _ _
        exact s1.append s2
      rw [List.pairwise_append] at hasc ⊢
      have hlen : ∀ x ∈ A ++ (if lfX st.xs R ≤ pairN st.xs R c then [] else [R]), x ≠ st.xs.length := fun x hx e => by
        rw [List.mem_append] at hx
        rcases hx with hx | hx
        · have := (r1 x hx).2.2; omega
        · split at hx
          · cases hx
          · have : x = R := by simpa using hx
            omega
      have hlc : ∀ x ∈ (if lfX st.xs c ≤ pairN st.xs R c then ([] : List Nat) else [c]), x ≠ st.xs.length := fun x hx e => by
        split at hx
        · cases hx
        · have : x = c := by simpa using hx
          omega
      refine ⟨hasc.1.imp_of_mem fun ha hb hab q1 q2 => ?_, ?_, fun a ha b hb q1 q2 => ?_⟩
      · rw [(hcore _ (hlen _ ha)).1] at q1
        rw [(hcore _ (hlen _ hb)).1] at q2
        rw [(hcore _ (hlen _ ha)).2, (hcore _ (hlen _ hb)).2]
        exact hab q1 q2
      · rw [List.pairwise_cons]
        refine ⟨fun b hb q1 => (by rw [hnew] at q1; cases q1), ?_⟩
        split
        · exact .nil
        · exact List.pairwise_singleton _ _
      · rw [List.mem_cons] at hb
        rcases hb with rfl | hb
        · rw [hnew] at q2; cases q2
        · rw [(hcore _ (hlen _ ha)).1] at q1
          rw [(hcore _ (hlc _ hb)).1] at q2
          rw [(hcore _ (hlen _ ha)).2, (hcore _ (hlc _ hb)).2]
          exact hasc.2.2 a ha b hb q1 q2
  · intro k c st ids hP
    exact hP.congr rfl fun x _ => ⟨rfl, rfl⟩
end Go.Pub
namespace Go.Pub
open Go.RowKit
theorem plnI_txt (x : InT) (h : x.kind = 1) : plnI x = x.text.toList := by
  obtain ⟨k, t, d, ti, a, ar, c, ks⟩ := x
  have h : k = 1 := h
  rw [plnI, if_pos (.inl h)]; rfl
theorem plnI_setTxt (x : InT) (s : List UInt8) (h : x.kind = 1) : plnI (setTxt x s) = s := by
  rw [plnI_txt _ (by rw [setTxt_kind]; exact h), setTxt_text]
theorem plnI_kid (k : Int) (l : List InT) (h : 6 ≤ k ∧ k ≤ 11) : plnI (kidT k l) = plnL l := by
  unfold kidT
  rw [plnI, if_neg (by omega), if_neg (by omega), if_pos h]
theorem plnL_cons (x : InT) (l : List InT) : plnL (x :: l) = plnI x ++ plnL l := by rw [plnL]
theorem plnL_nil : plnL [] = [] := by rw [plnL]
theorem plnL_join : ∀ l : List InT, plnL (joinT l) = plnL l
  | [] => rfl
  | x :: l => by
    have ih := plnL_join l
    by_cases hk : x.kind = 1
    · by_cases ht : x.text.toList = []
      · rw [joinT_empty hk ht, ih, plnL_cons, plnI_txt x hk, ht]; rfl
      · cases hj : joinT l with
        | nil =>
          rw [hj] at ih
          rw [joinT_cons, if_neg (by simp [hk]), if_neg ht, hj]
          show plnL [x] = _
          rw [plnL_cons, plnL_cons, ← ih]
        | cons y r =>
          rw [hj] at ih
          rw [joinT_cons, if_neg (by simp [hk]), if_neg ht, hj]
          dsimp only
          by_cases hy : y.kind = 1
          · rw [if_pos hy, plnL_cons, plnI_setTxt x _ hk, plnL_cons x l, ← ih, plnL_cons, plnI_txt x hk, plnI_txt y hy, List.append_assoc]
          · rw [if_neg hy, plnL_cons, plnL_cons x l, ih]
    · rw [joinT_no hk, plnL_cons, plnL_cons, ih]
mutual
theorem plnI_merge : ∀ x : InT, plnI (mergeI x) = plnI x
  | .mk k t d ti a ar c kids => by
    rw [mergeI, plnI, plnI, plnL_join, plnL_map kids]
theorem plnL_map : ∀ l : List InT, plnL (mapI l) = plnL l
  | [] => by rw [mapI]
  | x :: l => by rw [mapI, plnL, plnL, plnI_merge x, plnL_map l]
end
theorem plnL_merge (l : List InT) : plnL (mergeL l) = plnL l := by unfold mergeL; rw [plnL_join, plnL_map]
/-- What the parts from a up to b give. -/
def catG (g : Nat → List UInt8) (a b : Nat) : List UInt8 := (List.range' a (b - a)).flatMap g
section
variable {g g' F F' : Nat → List UInt8} {a b m : Nat}
theorem catG_self : catG g a a = [] := by unfold catG; rw [Nat.sub_self]; rfl
theorem catG_one : catG g a (a + 1) = g a := by
  unfold catG
  rw [show a + 1 - a = 1 by omega]
  show List.flatMap g [a] = _
  rw [List.flatMap_singleton]
theorem catG_app (h1 : a ≤ m) (h2 : m ≤ b) : catG g a b = catG g a m ++ catG g m b := by
  unfold catG
  rw [← List.flatMap_append]
  congr 1
  have := List.range'_append_1 (s := a) (m := m - a) (n := b - m)
  rw [show a + (m - a) = m by omega, show m - a + (b - m) = b - a by omega] at this
  exact this.symm
theorem catG_congr (h : ∀ i, a ≤ i → i < b → g i = g' i) : catG g a b = catG g' a b := by
  unfold catG
  rw [List.flatMap_def, List.flatMap_def]
  congr 1
  refine List.map_congr_left fun i hi => ?_
  rw [List.mem_range'_1] at hi
  exact h i hi.1 (by omega)
/-- Elements cover the parts from a up to b, in order; runs cover one part each. -/
def Cov (g F : Nat → List UInt8) (pos : Nat → Option Nat) : List Nat → Nat → Nat → Prop
  | [], a, b => a ≤ b ∧ catG g a b = []
  | x :: r, a, b => ∃ lo hi, a ≤ lo ∧ lo ≤ hi ∧ catG g a lo = [] ∧ catG g lo hi = F x ∧ (∀ q, pos x = some q → lo = q ∧ hi = q + 1) ∧ Cov g F pos r hi b
theorem Cov.le {pos : Nat → Option Nat} : ∀ {l : List Nat} {a b : Nat}, Cov g F pos l a b → a ≤ b
  | [], _, _, h => h.1
  | x :: r, _, _, ⟨lo, hi, h1, h2, _, _, _, h6⟩ => by have := h6.le; omega
theorem Cov.sum {pos : Nat → Option Nat} : ∀ {l : List Nat} {a b : Nat}, Cov g F pos l a b → l.flatMap F = catG g a b
  | [], _, _, h => by rw [h.2]; rfl
  | x :: r, a, b, ⟨lo, hi, h1, h2, h3, h4, _, h6⟩ => by
    have h7 := h6.le
    rw [List.flatMap_cons, h6.sum, ← h4, ← catG_app h2 h7, catG_app (m := lo) h1 (by omega), h3]; rfl
theorem Cov.gap {pos : Nat → Option Nat} (h1 : a ≤ m) (h2 : catG g a m = []) : ∀ {l : List Nat} {b : Nat}, Cov g F pos l m b → Cov g F pos l a b
  | [], b, h => ⟨by have := h.1; omega, by rw [catG_app h1 h.1, h2, h.2]; rfl⟩
  | x :: r, b, ⟨lo, hi, g1, g2, g3, g4, g5, g6⟩ => ⟨lo, hi, by omega, g2, by rw [catG_app h1 g1, h2, g3]; rfl, g4, g5, g6⟩
theorem Cov.app {pos : Nat → Option Nat} : ∀ {l r : List Nat} {a b : Nat}, Cov g F pos (l ++ r) a b → ∃ m, Cov g F pos l a m ∧ Cov g F pos r m b
  | [], r, a, b, h => ⟨a, ⟨Nat.le_refl _, catG_self⟩, h⟩
  | x :: l, r, a, b, ⟨lo, hi, g1, g2, g3, g4, g5, g6⟩ => by
    obtain ⟨m, h1, h2⟩ := Cov.app g6
    exact ⟨m, ⟨lo, hi, g1, g2, g3, g4, g5, h1⟩, h2⟩
theorem Cov.join {pos : Nat → Option Nat} : ∀ {l r : List Nat} {a m b : Nat}, Cov g F pos l a m → Cov g F pos r m b → Cov g F pos (l ++ r) a b
  | [], r, a, m, b, h1, h2 => Cov.gap h1.1 h1.2 h2
  | x :: l, r, a, m, b, ⟨lo, hi, g1, g2, g3, g4, g5, g6⟩, h2 => ⟨lo, hi, g1, g2, g3, g4, g5, Cov.join g6 h2⟩
theorem Cov.congr {pos pos' : Nat → Option Nat} : ∀ {l : List Nat} {a b : Nat}, Cov g F pos l a b → (∀ i, a ≤ i → i < b → g' i = g i) → (∀ x ∈ l, F' x = F x ∧ pos' x = pos x) → Cov g' F' pos' l a b
  | [], a, b, h, hg, hx => ⟨h.1, by rw [catG_congr hg]; exact h.2⟩
  | x :: r, a, b, ⟨lo, hi, g1, g2, g3, g4, g5, g6⟩, hg, hx => by
    have g7 := g6.le
    refine ⟨lo, hi, g1, g2, ?_, ?_, ?_, Cov.congr g6 (fun i h1 h2 => hg i (by omega) h2) fun y hy => hx y (List.mem_cons_of_mem _ hy)⟩
    · rw [catG_congr (g' := g) fun i h1 h2 => hg i h1 (by omega)]; exact g3
    · rw [catG_congr (g' := g) fun i h1 h2 => hg i (by omega) (by omega), (hx x (by simp)).1]; exact g4
    · rw [(hx x (by simp)).2]; exact g5
end
/-- How many characters of a run are matched. -/
def mtN : List (Nat × Nat × Nat) → Nat → Nat
  | [], _ => 0
  | t :: l, i => (if t.1 = i ∨ t.2.1 = i then t.2.2 else 0) + mtN l i
theorem mtN_snoc (t : Nat × Nat × Nat) (i : Nat) : ∀ l, mtN (l ++ [t]) i = mtN l i + if t.1 = i ∨ t.2.1 = i then t.2.2 else 0
  | [] => by show _ + 0 = 0 + _; omega
  | s :: l => by
    show _ + mtN (l ++ [t]) i = _ + mtN l i + _
    rw [mtN_snoc t i l]; omega
theorem mtN_zero {l : List (Nat × Nat × Nat)} {i : Nat} (h : ∀ t ∈ l, t.1 ≠ i ∧ t.2.1 ≠ i) : mtN l i = 0 := by
  induction l with
  | nil => rfl
  | cons t l ih =>
    have h1 := h t (by simp)
    show (if t.1 = i ∨ t.2.1 = i then t.2.2 else 0) + mtN l i = 0
    rw [if_neg (by intro e; rcases e with e | e; exact h1.1 e; exact h1.2 e), ih fun s hs => h s (List.mem_cons_of_mem _ hs)]
/-- What a piece gives. -/
def gPc (ps : List PcT) (prs : List (Nat × Nat × Nat)) (i : Nat) : List UInt8 :=
  if runP (pcX ps i) = true then repB (pcX ps i).ch ((pcX ps i).n.toNat - mtN prs i) else if (pcX ps i).kind = 0 then plnI (pcX ps i).inl else []
def plF' (ps : List PcT) (st : EmS) (x : Nat) : List UInt8 := plnI (toI ps (elX st.xs x))
def posE (st : EmS) (x : Nat) : Option Nat := if runX st.xs x = true then some (pX st.xs x) else none
structure PlI (ps : List PcT) (k : Nat) (st : EmS) (ids : List Nat) : Prop where
  cov : Cov (gPc ps st.prs) (plF' ps st) (posE st) ids 0 k
  le : ∀ i, i < k → runP (pcX ps i) = true → mtN st.prs i ≤ (pcX ps i).n.toNat
  idx : ∀ t ∈ st.prs, t.1 < t.2.1 ∧ t.2.1 < k
theorem plF_run {ps : List PcT} {st : EmS} {x : Nat} (h : runX st.xs x = true) : plF' ps st x = repB (pcX ps (pX st.xs x)).ch (lfX st.xs x) := by
  unfold plF'
  rw [toI_run h, plnI_txt _ rfl]
  exact toList_ofList _
theorem pairK_bd {ps : List PcT} {xs : List ElL} {o c : Nat} : 6 ≤ pairK ps xs o c ∧ pairK ps xs o c ≤ 11 := by unfold pairK; split <;> (try split) <;> omega
theorem plain_ring (ps : List PcT) : ∀ k, k ≤ ps.length → ∃ ids, MatI ps k (matchF ps k) ids ∧ PlI ps k (matchF ps k) ids := by
  refine match_ind ps (PlI ps) ⟨⟨Nat.le_refl _, catG_self⟩, fun i hi => absurd hi (by omega), fun t ht => absurd ht (by simp [start0])⟩ ?_ ?_ ?_ ?_ ?_
  · intro k st ids hM hk hp hc hP
    have hz : mtN st.prs k = 0 := mtN_zero fun t ht => by have := hP.idx t ht; omega
    have hg : gPc ps st.prs k = [] := by
      unfold gPc
      rw [if_neg (by rw [hp]; decide)]
      split
      · rename_i h0
        have : (pcX ps k).inl.kind = 1 ∧ (pcX ps k).inl.text.toList = [] := by
          refine ⟨?_, ?_⟩
          · exact Classical.byContradiction fun h => hc ⟨h0, .inl h⟩
          · exact Classical.byContradiction fun h => hc ⟨h0, .inr h⟩
        rw [plnI_txt _ this.1, this.2]
      · rfl
    refine ⟨?_, fun i hi hr => ?_, fun t ht => by have := hP.idx t ht; omega⟩
    · have := Cov.join hP.cov (r := []) (b := k + 1) ⟨by omega, by rw [catG_one, hg]⟩
      rwa [List.append_nil] at this
    · rcases Nat.lt_or_ge i k with h | h
      · exact hP.le i h hr
      · obtain rfl : i = k := by omega
        rw [hp] at hr; cases hr
  · intro k st ids hM hk hp hk0 hi hP
    obtain ⟨e1, e2, e3, e4⟩ := core_ins0 (xs := st.xs) (e := { t := (pcX ps k).inl }) (k := 0)
    refine ⟨?_, fun i hi hr => ?_, fun t ht => by have := hP.idx t ht; omega⟩
    · refine Cov.join (hP.cov.congr (g' := gPc ps (inlS ps st k).prs) (F' := plF' ps (inlS ps st k)) (pos' := posE (inlS ps st k)) (fun _ _ _ => rfl) fun x hx => ?_) ⟨k, k + 1, Nat.le_refl _, Nat.le_succ _, catG_self, ?_, fun q hq => ?_, Nat.le_refl _, catG_self⟩
      · have hne : x ≠ st.xs.length := by have := hM.em.ring.bd x hx; omega
        obtain ⟨f1, f2, f3, f4⟩ := core_ins' (xs := st.xs) (e := { t := (pcX ps k).inl }) (k := 0) hne
        refine ⟨by unfold plF'; rw [show (inlS ps st k).xs = insX st.xs { t := (pcX ps k).inl } 0 from rfl, toI_ins hne], ?_⟩
        unfold posE
        rw [show (inlS ps st k).xs = insX st.xs { t := (pcX ps k).inl } 0 from rfl, f2, f3]
      · rw [catG_one]
        unfold gPc plF'
        rw [if_neg (by rw [hp]; decide), if_pos hk0, show (inlS ps st k).xs = insX st.xs { t := (pcX ps k).inl } 0 from rfl, toI_ins0]
        rfl
      · unfold posE at hq
        rw [show (inlS ps st k).xs = insX st.xs { t := (pcX ps k).inl } 0 from rfl, e2] at hq
        cases hq
    · rcases Nat.lt_or_ge i k with h | h
      · exact hP.le i h hr
      · obtain rfl : i = k := by omega
        rw [hp] at hr; cases hr
  · intro k st ids hM hk hp hP
    have hz : mtN st.prs k = 0 := mtN_zero fun t ht => by have := hP.idx t ht; omega
    obtain ⟨e1, e2, e3, e4⟩ := core_ins0 (xs := st.xs) (e := runE k (pcX ps k).n.toNat) (k := 0)
    refine ⟨?_, fun i hi hr => ?_, fun t ht => by have := hP.idx t ht; omega⟩
    · refine Cov.join (hP.cov.congr (g' := gPc ps (runS ps st k).prs) (F' := plF' ps (runS ps st k)) (pos' := posE (runS ps st k)) (fun _ _ _ => rfl) fun x hx => ?_) ⟨k, k + 1, Nat.le_refl _, Nat.le_succ _, catG_self, ?_, fun q hq => ?_, Nat.le_refl _, catG_self⟩
      · have hne : x ≠ st.xs.length := by have := hM.em.ring.bd x hx; omega
        obtain ⟨f1, f2, f3, f4⟩ := core_ins' (xs := st.xs) (e := runE k (pcX ps k).n.toNat) (k := 0) hne
        refine ⟨by unfold plF'; rw [show (runS ps st k).xs = insX st.xs (runE k (pcX ps k).n.toNat) 0 from rfl, toI_ins hne], ?_⟩
        unfold posE
        rw [show (runS ps st k).xs = insX st.xs (runE k (pcX ps k).n.toNat) 0 from rfl, f2, f3]
      · rw [catG_one, plF_run (show runX (runS ps st k).xs st.xs.length = true from e2)]
        unfold gPc
        rw [if_pos hp, show pX (runS ps st k).xs st.xs.length = k from e3, show lfX (runS ps st k).xs st.xs.length = (pcX ps k).n.toNat from e4, show (runS ps st k).prs = st.prs from rfl, hz, Nat.sub_zero]
      · unfold posE at hq
        rw [show runX (runS ps st k).xs st.xs.length = true from e2, if_pos rfl, show pX (runS ps st k).xs st.xs.length = k from e3] at hq
        injection hq with hq
        omega
    · rcases Nat.lt_or_ge i k with h | h
      · exact hP.le i h hr
      · obtain rfl : i = k := by omega
        rw [show (runS ps st i).prs = st.prs from rfl, hz]; omega
  · intro k c st A B R hk hclo h hl hR hR0 hB hg hr hlr hP
    obtain ⟨r1, r2, r3, r4, r5⟩ := ring_parts hg
    obtain ⟨hpn1, hpn2⟩ := pairN_one (st := st) (o := R) (c := c)
    have hpnR : pairN st.xs R c ≤ lfX st.xs R ∧ pairN st.xs R c ≤ lfX st.xs c := by
      unfold pairN
      have h1 : 1 ≤ lfX st.xs c := by omega
      split
      · rename_i h2; exact h2
      · exact ⟨hlr, h1⟩
    have hpc : pX st.xs c = k := h.pc
    obtain ⟨b1, b2, -⟩ := h.rb R hr
    obtain ⟨d1, d2, -⟩ := h.rb c h.run
    have hprs : (mtchA ps st R c).prs = st.prs ++ [(pX st.xs R, pX st.xs c, pairN st.xs R c)] := rfl
    obtain ⟨m1, hA, lo, hi, q1, q2, q3, q4, q5, q6⟩ := Cov.app hP.cov
    obtain ⟨rfl, rfl⟩ := q5 (pX st.xs R) (by unfold posE; rw [if_pos hr])
    obtain ⟨m2, hBc, lo2, hi2, s1, s2, s3, s4, s5, s6⟩ := Cov.app q6
    obtain ⟨rfl, rfl⟩ := s5 (pX st.xs c) (by unfold posE; rw [if_pos h.run])
    have hBle := hBc.le
    have hoc : pX st.xs R < pX st.xs c := by omega
    rw [catG_one] at q4 s4
    -- how many characters are left
    have hlfR : lfX st.xs R = (pcX ps (pX st.xs R)).n.toNat - mtN st.prs (pX st.xs R) := by
      have := congrArg List.length q4
      rw [plF_run hr, repB_len (runP_size b2)] at this
      unfold gPc at this
      rw [if_pos b2, repB_len (runP_size b2)] at this
      exact this.symm
    have hlfc : lfX st.xs c = (pcX ps (pX st.xs c)).n.toNat - mtN st.prs (pX st.xs c) := by
      have := congrArg List.length s4
      rw [plF_run h.run, repB_len (runP_size d2)] at this
      unfold gPc at this
      rw [if_pos d2, repB_len (runP_size d2)] at this
      exact this.symm
    have hmt : ∀ i, mtN (mtchA ps st R c).prs i = mtN st.prs i + if pX st.xs R = i ∨ pX st.xs c = i then pairN st.xs R c else 0 := fun i => by rw [hprs, mtN_snoc]
    have hsame : ∀ i, i ≠ pX st.xs R → i ≠ pX st.xs c → gPc ps (mtchA ps st R c).prs i = gPc ps st.prs i := fun i h1 h2 => by
      have e : mtN (mtchA ps st R c).prs i = mtN st.prs i := by rw [hmt, if_neg (by omega), Nat.add_zero]
      unfold gPc
      rw [e]
    have hgR : gPc ps (mtchA ps st R c).prs (pX st.xs R) = repB (pcX ps (pX st.xs R)).ch (lfX st.xs R - pairN st.xs R c) := by
      unfold gPc
      rw [if_pos b2, hmt, if_pos (.inl rfl), hlfR, Nat.sub_add_eq]
    have hgc : gPc ps (mtchA ps st R c).prs (pX st.xs c) = repB (pcX ps (pX st.xs c)).ch (lfX st.xs c - pairN st.xs R c) := by
      unfold gPc
      rw [if_pos d2, hmt, if_pos (.inr rfl), hlfc, Nat.sub_add_eq]
    have hcore : ∀ x, x ≠ st.xs.length → runX (mtchA ps st R c).xs x = runX st.xs x ∧ pX (mtchA ps st R c).xs x = pX st.xs x ∧ lfX (mtchA ps st R c).xs x = if x = R ∨ x = c then lfX st.xs x - pairN st.xs R c else lfX st.xs x := fun x hx => by
      obtain ⟨-, e2, e3, e4⟩ := core_mtch' (ps := ps) r4 r5 r3 hx
      exact ⟨e2, e3, e4⟩
    have hpos : ∀ x, x ≠ st.xs.length → posE (mtchA ps st R c) x = posE st x := fun x hx => by
      unfold posE
      rw [(hcore x hx).1, (hcore x hx).2.1]
    have hFo : ∀ x, x ≠ R → x ≠ c → x ≠ st.xs.length → plF' ps (mtchA ps st R c) x = plF' ps st x := fun x h1 h2 h3 => by
      unfold plF'; rw [toI_mtch r4 r5 r3 h1 h2 h3]
    have hA' : Cov (gPc ps (mtchA ps st R c).prs) (plF' ps (mtchA ps st R c)) (posE (mtchA ps st R c)) A 0 m1 :=
      hA.congr (fun i h1 h2 => hsame i (by omega) (by omega)) fun x hx => ⟨hFo x (r1 x hx).1 (r1 x hx).2.1 (by have := (r1 x hx).2.2; omega), hpos x (by have := (r1 x hx).2.2; omega)⟩
    have hgap1 : catG (gPc ps (mtchA ps st R c).prs) m1 (pX st.xs R) = [] := by rw [catG_congr (g' := gPc ps st.prs) fun i h1 h2 => hsame i (by omega) (by omega)]; exact q3
    have hgap2 : catG (gPc ps (mtchA ps st R c).prs) m2 (pX st.xs c) = [] := by rw [catG_congr (g' := gPc ps st.prs) fun i h1 h2 => hsame i (by omega) (by omega)]; exact s3
    -- the opener
    have hRcov : Cov (gPc ps (mtchA ps st R c).prs) (plF' ps (mtchA ps st R c)) (posE (mtchA ps st R c)) (if lfX st.xs R ≤ pairN st.xs R c then [] else [R]) m1 (pX st.xs R + 1) := by
      by_cases hz : lfX st.xs R ≤ pairN st.xs R c
      · rw [if_pos hz]
        refine ⟨by omega, ?_⟩
        rw [catG_app (m := pX st.xs R) q1 (by omega), hgap1, catG_one, hgR, show lfX st.xs R - pairN st.xs R c = 0 by omega]; rfl
      · rw [if_neg hz]
        refine ⟨pX st.xs R, pX st.xs R + 1, q1, by omega, hgap1, ?_, fun q hq => ?_, Nat.le_refl _, catG_self⟩
        · rw [catG_one, hgR, plF_run (by rw [(hcore R (by omega)).1]; exact hr), (hcore R (by omega)).2.1, (hcore R (by omega)).2.2, if_pos (.inl rfl)]
        · rw [hpos R (by omega)] at hq
          unfold posE at hq
          rw [if_pos hr] at hq
          injection hq with hq
          omega
    have hkid : plF' ps (mtchA ps st R c) st.xs.length = catG (gPc ps (mtchA ps st R c).prs) (pX st.xs R + 1) m2 := by
      unfold plF'
      rw [toI_mtch0 r4 r5 r3, plnI_kid _ _ pairK_bd, (betA_eq hg).1]
      rw [catG_congr (g' := gPc ps st.prs) fun i h1 h2 => hsame i (by omega) (by omega), ← hBc.sum]
      have : ∀ l : List Nat, plnL (l.map fun i => toI ps (elX st.xs i)) = l.flatMap (plF' ps st) := by
        intro l
        induction l with
        | nil => rfl
        | cons x l ih => rw [List.map_cons, plnL, ih]; rfl
      exact this B
    have hccov : Cov (gPc ps (mtchA ps st R c).prs) (plF' ps (mtchA ps st R c)) (posE (mtchA ps st R c)) (if lfX st.xs c ≤ pairN st.xs R c then [] else [c]) m2 (k + 1) := by
      rw [← hpc]
      by_cases hz : lfX st.xs c ≤ pairN st.xs R c
      · rw [if_pos hz]
        refine ⟨by omega, ?_⟩
        rw [catG_app (m := pX st.xs c) s1 (by omega), hgap2, catG_one, hgc, show lfX st.xs c - pairN st.xs R c = 0 by omega]; rfl
      · rw [if_neg hz]
        refine ⟨pX st.xs c, pX st.xs c + 1, s1, by omega, hgap2, ?_, fun q hq => ?_, Nat.le_refl _, catG_self⟩
        · rw [catG_one, hgc, plF_run (by rw [(hcore c (by omega)).1]; exact h.run), (hcore c (by omega)).2.1, (hcore c (by omega)).2.2, if_pos (.inr rfl)]
        · rw [hpos c (by omega)] at hq
          unfold posE at hq
          rw [if_pos h.run] at hq
          injection hq with hq
          omega
    have hnew : runX (mtchA ps st R c).xs st.xs.length = false := (core_mtch0 (ps := ps) r4 r5 r3).2
    refine ⟨?_, fun i hi hri => ?_, fun t ht => ?_⟩
    · refine Cov.join (Cov.join hA' hRcov) ⟨pX st.xs R + 1, m2, Nat.le_refl _, hBle, catG_self, hkid.symm, fun q hq => ?_, hccov⟩
      unfold posE at hq
      rw [hnew] at hq
      cases hq
    · rw [hmt]
      by_cases h1 : pX st.xs R = i
      · subst h1
        rw [if_pos (.inl rfl)]
        have := hP.le _ hi hri
        omega
      · by_cases h2 : pX st.xs c = i
        · subst h2
          rw [if_pos (.inr rfl)]
          have := hP.le _ hi hri
          omega
        · rw [if_neg (by omega)]
          exact hP.le i hi hri
    · rw [hprs, List.mem_append, List.mem_singleton] at ht
      rcases ht with ht | rfl
      · exact hP.idx t ht
      · exact ⟨hoc, by show pX st.xs c < _; omega⟩
  · intro k c st ids hP
    exact ⟨hP.cov, hP.le, hP.idx⟩
/-- The plain text of what is nested. -/
theorem plain_nest (ps : List PcT) : plnL (nestA ps) = catG (gPc ps (matchA ps).prs) 0 ps.length ∧ ∀ i, i < ps.length → runP (pcX ps i) = true → mtN (matchA ps).prs i ≤ (pcX ps i).n.toNat := by
  obtain ⟨ids, hM, hP⟩ : ∃ ids, MatI ps ps.length (matchA ps) ids ∧ PlI ps ps.length (matchA ps) ids := plain_ring ps ps.length (Nat.le_refl _)
  refine ⟨?_, hP.le⟩
  have hR := hM.em.ring
  have hl := hR.len
  rw [← hP.cov.sum]
  show plnL (mergeL (betF ps _ 0 _ _)) = _
  rw [plnL_merge, betF_eq ids 0 _ hR.link (fun i hi e => (List.nodup_cons.1 hR.nd).1 (e ▸ hi)) (by omega)]
  clear hP hM hR hl
  induction ids with
  | nil => rfl
  | cons x l ih => rw [List.map_cons, plnL, ih]; rfl
end Go.Pub
namespace Go.Pub
open Go.RowKit
theorem sumS_drop {l : List ByteArray} {i : Nat} (h : i < l.length) : sumS (l.drop i) = l[i].size + sumS (l.drop (i + 1)) := by
  rw [List.drop_eq_getElem_cons h]; rfl
theorem sumP_drop {l : List (ByteArray × ByteArray)} {i : Nat} (h : i < l.length) : sumP (l.drop i) = l[i].1.size + l[i].2.size + sumP (l.drop (i + 1)) := by
  rw [List.drop_eq_getElem_cons h]; rfl
theorem strs_at' (l : List ByteArray) (k : Nat) (h : k < l.length) : (strs l)[k]? = some (.string l[k]) := by
  unfold strs; rw [List.getElem?_map, List.getElem?_eq_getElem h]; rfl
theorem prs_at' : ∀ (l : List (ByteArray × ByteArray)) (k : Nat) (h : k < l.length), (prs l)[k * 2]? = some (.string l[k].1) ∧ (prs l)[k * 2 + 1]? = some (.string l[k].2)
  | x :: l, 0, _ => ⟨rfl, rfl⟩
  | x :: l, k + 1, h => by
    have := prs_at' l k (by simpa using h)
    rw [show (k + 1) * 2 = k * 2 + 1 + 1 by omega]
    exact this
def BoolP (b : Bool) (w : World) (e : Ending) (w' : World) : Prop := e = .returned (.bool b) ∧ Below w.heap.size w w'
end Go.Pub
namespace Go.Proofs.Ytfnloonmeilhlaa
open Go.RowKit Go.Pub
set_option maxHeartbeats 4000000 in
set_option maxRecDepth 100000 in
theorem t_long {S : Nat → Prop} {A1 A2 : Option Addr} {c1 c2 : Nat} {a : AttrL} (w : World) (h1 : ReadsS w S 1 A1 a.cl.length (strs a.cl)) (h2 : ReadsS w S 2 A2 a.pr.length (prs a.pr)) (hS : ∀ g, S g → g < w.heap.size) (ho : OkA a) :
    Calls Try.prog 45 #[.agg #[.string a.id, .slice A1 a.cl.length c1, .slice A2 a.pr.length c2]] w (BoolP (longA a) w) := by
  obtain ⟨id, cl, pr⟩ := a
  obtain ⟨o1, o2, o3⟩ := ho
  have o1 : id.size ≤ reachBytes := o1
  have o2 : ∀ s ∈ cl, s.size ≤ reachBytes := o2
  have o3 : ∀ x ∈ pr, x.1.size ≤ reachBytes ∧ x.2.size ≤ reachBytes := o3
  have HR1 : Hid (∀ i (hi : i < cl.length), ∃ b off, A1 = some ⟨b, off, none⟩ ∧ b < w.heap.size ∧ w.cell? ⟨b, off + i, none⟩ = some (.string cl[i])) := Lib.hid fun i hi => by
    obtain ⟨b, off, e, hb, hc⟩ := h1.row (by show 0 < cl.length; omega) (by decide)
    exact ⟨b, off, e, hS b hb, hc i _ (strs_at' cl i hi)⟩
  have HR2 : Hid (∀ i (hi : i < pr.length), ∃ b off, A2 = some ⟨b, off, none⟩ ∧ b < w.heap.size ∧ w.cell? ⟨b, off + i * 2, none⟩ = some (.string pr[i].1) ∧ w.cell? ⟨b, off + i * 2 + 1, none⟩ = some (.string pr[i].2)) := Lib.hid fun i hi => by
    obtain ⟨b, off, e, hb, hc⟩ := h2.row (by show 0 < pr.length; omega) (by decide)
    exact ⟨b, off, e, hS b hb, hc (i * 2) _ (prs_at' pr i hi).1, by rw [Nat.add_assoc]; exact hc (i * 2 + 1) _ (prs_at' pr i hi).2⟩
  have HL : Hid (longA ⟨id, cl, pr⟩ = (decide (40 < cl.length) || (decide (40 < pr.length) || decide (600 < id.size + sumS cl + sumP pr)))) := Lib.hid rfl
  have hs1 := sumS_le cl _ o2
  have hs2 := sumP_le pr _ o3
  clear h1 h2 hS o2 o3
  unfold reachBytes at *
  have hbx : Below w.heap.size w (w.alloc (.cells #[.string id, .slice A1 cl.length c1, .slice A2 pr.length c2] 34)) := (Below.refl _ w).alloc (Nat.le_refl _) _
  have hbl := Blk.new w 34 #[.string id, .slice A1 cl.length c1, .slice A2 pr.length c2]
  have HB1 := Lib.hid hbx
  have HK1 := Lib.hid hbl
  generalize longA ⟨id, cl, pr⟩ = R at *
  by_cases g1 : 40 < cl.length
  · have hR : R = true := by rw [HL.out]; simp [g1]
    subst hR
    have g1' : (40 : Int) < (cl.length : Int) := by omega
    clear hs1 hs2
    go_enter Try.func45, Try.ntmps45
    go_wp2_with fail
    go_ret
    exact ⟨rfl, HB1.out⟩
  by_cases g2 : 40 < pr.length
  · have hR : R = true := by rw [HL.out]; simp [g2]
    subst hR
    have g2' : (40 : Int) < (pr.length : Int) := by omega
    have g1' : decide ((40 : Int) < (cl.length : Int)) = false := decide_eq_false (by omega)
    clear hs1 hs2
    go_enter Try.func45, Try.ntmps45
    go_wp2_with fail
    go_ret
    exact ⟨rfl, HB1.out⟩
  have hR : Hid (R = decide (600 < id.size + sumS cl + sumP pr)) := Lib.hid (by rw [HL.out]; simp [g1, g2])
  have g1' : decide ((40 : Int) < (cl.length : Int)) = false := decide_eq_false (by omega)
  have g2' : decide ((40 : Int) < (pr.length : Int)) = false := decide_eq_false (by omega)
  have hc40 : cl.length * 140737488351232 ≤ 40 * 140737488351232 := Nat.mul_le_mul_right _ (by omega)
  have hp40 : pr.length * (2 * 140737488351232) ≤ 40 * (2 * 140737488351232) := Nat.mul_le_mul_right _ (by omega)
  obtain ⟨T1, hT1⟩ : ∃ T1, T1 = id.size + sumS cl := ⟨_, rfl⟩
  obtain ⟨T2, hT2⟩ : ∃ T2, T2 = T1 + sumP pr := ⟨_, rfl⟩
  have hT2b : T2 ≤ 20000000000000000 := by omega
  have hT12 : T1 ≤ T2 := by omega
  have hidT : id.size ≤ T1 := by omega
  have HT1 := Lib.hid hT1
  have HT2 := Lib.hid hT2
  have hR2 : Hid (R = decide (600 < T2)) := Lib.hid (by rw [hR.out, hT2, hT1])
  have x0 : (w.alloc (.cells #[.string id, .slice A1 cl.length c1, .slice A2 pr.length c2] 34)).cell? ⟨w.heap.size, 0, none⟩ = some (.string id) := hbl.cell 0
  have x1 : (w.alloc (.cells #[.string id, .slice A1 cl.length c1, .slice A2 pr.length c2] 34)).cell? ⟨w.heap.size, 1, none⟩ = some (.slice A1 cl.length c1) := hbl.cell 1
  have x2 : (w.alloc (.cells #[.string id, .slice A1 cl.length c1, .slice A2 pr.length c2] 34)).cell? ⟨w.heap.size, 2, none⟩ = some (.slice A2 pr.length c2) := hbl.cell 2
  have hl1 : cl.length ≤ 40 := by omega
  have hl2 : pr.length ≤ 40 := by omega
  clear hs1 hs2 hc40 hp40 hT1 hT2 HL hR hbl hbx o1 g1 g2
  go_enter Try.func45, Try.ntmps45
  go_wp2_with fail
  generalize w.alloc (.cells #[.string id, .slice A1 cl.length c1, .slice A2 pr.length c2] 34) = W1 at *
  clear g1' g2'
  go_loopw [3, 4] (fun v3 v4 wr => wr = W1 ∧ ∃ (i n : Nat), i ≤ cl.length ∧ v3 = .int .i64 n ∧ v4 = .int .i64 i ∧ n ≤ T1 ∧ Hid (n + sumS (cl.drop i) = T1)) (fun _ v4 _ => cl.length - (intOf v4).toNat)
  case atStart => exact ⟨rfl, 0, id.size, Nat.zero_le _, rfl, rfl, hidT, Lib.hid (by rw [HT1.out]; rfl)⟩
  case round =>
    obtain ⟨rfl, i, n, hi, rfl, rfl, hn, HN⟩ := hrel
    by_cases hlt : i < cl.length
    · obtain ⟨b, off, rfl, hb, hc⟩ := HR1.out i hlt
      have hc' : wr.cell? ⟨b, off + i, none⟩ = some (.string cl[i]) := (HB1.out.cell (p := ⟨b, off + i, none⟩) hb).trans hc
      have hnn : n + cl[i].size ≤ T1 := by have := HN.out; rw [sumS_drop hlt] at this; omega
      have HN2 : Hid (n + cl[i].size + sumS (cl.drop (i + 1)) = T1) := Lib.hid (by have := HN.out; rw [sumS_drop hlt] at this; omega)
      have hii : (i : Int) < (cl.length : Int) := by omega
      clear hc
      generalize cl[i] = s at *
      go_wp2_with fail
      go_roundw
      case rel => exact ⟨trivial, i + 1, n + s.size, by omega, by go_num, by go_num, hnn, HN2⟩
      case measure => simp [intOf]; omega
    · obtain rfl : i = cl.length := by omega
      have hnT : n = T1 := by have := HN.out; rw [List.drop_length] at this; exact this
      subst hnT
      clear HN hn hidT
      go_wp2_with fail
      go_loopw [3, 5] (fun v3 v5 wq => ∃ (i m : Nat), i ≤ pr.length ∧ v3 = .int .i64 m ∧ v5 = .int .i64 i ∧ m ≤ T2 ∧ Hid (m + sumP (pr.drop i) = T2) ∧ Hid (Below w.heap.size w wq) ∧ Hid (Blk wq w.heap.size 34 #[.string id, .slice A1 cl.length c1, .slice A2 pr.length c2])) (fun _ v5 _ => pr.length - (intOf v5).toNat)
      case atStart => exact ⟨0, n, Nat.zero_le _, rfl, rfl, hT12, Lib.hid (by rw [HT2.out]; rfl), HB1, HK1⟩
      case round =>
        clear x0 x1 x2
        rename World => wq
        obtain ⟨i, m, hi, rfl, rfl, hm, HM, HBq, HKq⟩ := hrel
        have y2 : wq.cell? ⟨w.heap.size, 2, none⟩ = some (.slice A2 pr.length c2) := HKq.out.cell 2
        by_cases hlt : i < pr.length
        · obtain ⟨b, off, rfl, hb, hc1, hc2⟩ := HR2.out i hlt
          have k1 : wq.cell? ⟨b, off + i * 2, none⟩ = some (.string pr[i].1) := (HBq.out.cell (p := ⟨b, off + i * 2, none⟩) hb).trans hc1
          have k2 : wq.cell? ⟨b, off + i * 2 + 1, none⟩ = some (.string pr[i].2) := (HBq.out.cell (p := ⟨b, off + i * 2 + 1, none⟩) hb).trans hc2
          have hmm : m + (pr[i].1.size + pr[i].2.size) ≤ T2 := by have := HM.out; rw [sumP_drop hlt] at this; omega
          have HM2 : Hid (m + (pr[i].1.size + pr[i].2.size) + sumP (pr.drop (i + 1)) = T2) := Lib.hid (by have := HM.out; rw [sumP_drop hlt] at this; omega)
          have hii : (i : Int) < (pr.length : Int) := by omega
          have hi00 : (0 : Int) ≤ (i : Int) := by omega
          clear hc1 hc2
          generalize pr[i].1 = s1 at *
          generalize pr[i].2 = s2 at *
          go_wp2_with fail
          go_region
          all_goals
            go_wp2_with fail
            go_roundw
            case rel => exact ⟨i + 1, m + (s1.size + s2.size), by omega, by go_num, by go_num, hmm, HM2, Lib.hid (Below.drew HBq.out), Lib.hid HKq.out⟩
            case measure => simp [intOf]; omega
        · obtain rfl : i = pr.length := by omega
          have hmT : m = T2 := by have := HM.out; rw [List.drop_length] at this; exact this
          subst hmT
          have HF : Hid (BoolP R w (.returned (.bool (decide ((600 : Int) < (m : Int))))) wq) := Lib.hid ⟨by rw [hR2.out]; congr 2; exact decide_eq_decide.2 (by omega), HBq.out⟩
          go_wp2_with fail
          go_ret
          exact HF.out

end Go.Proofs.Ytfnloonmeilhlaa
namespace Go.Pub
open Go.RowKit
theorem argsW_drop {l : List ByteArray} {i : Nat} (h : i < l.length) : argsW (l.drop i) = l[i].size / 40 + argsW (l.drop (i + 1)) := by
  rw [List.drop_eq_getElem_cons h]; rfl
theorem citsW_drop {l : List CitL} {i : Nat} (h : i < l.length) : citsW (l.drop i) = (l[i].key.size + l[i].pre.size + l[i].suf.size) / 40 + citsW (l.drop (i + 1)) := by
  rw [List.drop_eq_getElem_cons h]; rfl
theorem citVT_at : ∀ (l : List CitL) (k : Nat) (h : k < l.length), (citVT l)[k * 4]? = some (.string l[k].key) ∧ (citVT l)[k * 4 + 1]? = some (.string l[k].pre) ∧ (citVT l)[k * 4 + 2]? = some (.string l[k].suf) ∧ (citVT l)[k * 4 + 3]? = some (.bool l[k].bare)
  | x :: l, 0, _ => ⟨rfl, rfl, rfl, rfl⟩
  | x :: l, k + 1, h => by
    have := citVT_at l k (by simpa using h)
    rw [show (k + 1) * 4 = k * 4 + 1 + 1 + 1 + 1 by omega]
    exact this
theorem div40 (n : Nat) : Int.tdiv (n : Int) 40 = ((n / 40 : Nat) : Int) := by rw [Int.tdiv_eq_ediv_of_nonneg (by omega)]; omega
def IntP (n : Nat) (w : World) (e : Ending) (w' : World) : Prop := e = .returned (.int .i64 n) ∧ Below w.heap.size w w'
end Go.Pub
namespace Go.Proofs.Ytfnloonmeilhlaa
open Go.RowKit Go.Pub
theorem cit_size : (Try.prog.info? 55).map (·.size) = some 4 := by kernel_rfl
/-- The weight is right at a depth. -/
def WgtH (f : Nat) : Prop := ∀ (S : Nat → Prop) (w : World) (A : Option Addr) (c depth : Nat) (vs : List (Array Value)) (l : List InT), depth + f = 21 → RepIs w S vs l → ReadsS w S 10 A l.length (vs.flatMap Array.toList) → (∀ g, S g → g < w.heap.size) → okL l →
  Calls Try.prog 46 #[.slice A l.length c, .int .i64 depth] w (IntP (wgtF f l) w)
set_option maxHeartbeats 4000000 in
set_option maxRecDepth 100000 in
theorem t_weight0 : WgtH 0 := by
  intro S w A c depth vs l hd h1 h2 hS ho
  obtain rfl : depth = 21 := by omega
  have hm := h2.1.2
  unfold maxLen at hm
  clear h1 h2 hS ho
  go_enter Try.func46, Try.ntmps46
  go_wp2_with fail
  go_ret
  exact ⟨rfl, Below.refl _ w⟩

set_option maxHeartbeats 8000000 in
set_option maxRecDepth 100000 in
theorem t_weight1 (f : Nat) (hf : f < 21) (ih : WgtH f) : WgtH (f + 1) := by
  intro S w A c depth vs l hd h1 h2 hS ho
  have hm := h2.1.2
  have hdd : decide ((20 : Int) < (depth : Int)) = false := decide_eq_false (by omega)
  unfold maxLen at hm
  by_cases h200 : 200 < l.length
  · have hR : wgtF (f + 1) l = 1000 := by unfold wgtF; rw [if_pos h200]
    rw [hR]
    have h200' : (200 : Int) < (l.length : Int) := by omega
    clear h1 h2 hS ho hR
    go_enter Try.func46, Try.ntmps46
    go_wp2_with fail
    go_ret
    exact ⟨rfl, Below.refl _ w⟩
  have hR : Hid (wgtF (f + 1) l = wgtL (wgtF f) l.length l) := Lib.hid (by rw [wgtF, if_neg h200])
  have h200' : decide ((200 : Int) < (l.length : Int)) = false := decide_eq_false (by omega)
  have hl200 : l.length ≤ 200 := by omega
  obtain ⟨G, hG⟩ : ∃ G, G = 1000 + f * (1000 + 36 * 140737488355328) := ⟨_, rfl⟩
  have hGb : G ≤ 110000000000000000 := by
    have : f * (1000 + 36 * 140737488355328) ≤ 21 * (1000 + 36 * 140737488355328) := Nat.mul_le_mul_right _ (by omega)
    omega
  have hgG : ∀ x : List InT, okL x → wgtF f x ≤ G := fun x hx => by rw [hG]; exact wgtF_le f x hx
  have HIH := Lib.hid ih
  have HEL : Hid (∀ i (hi : i < l.length), ∃ b off v, A = some ⟨b, off, none⟩ ∧ b < w.heap.size ∧ RepI w S v l[i] ∧ w.rangeAt b (off + i * 10) v.toList) := Lib.hid fun i hi => by
    obtain ⟨b, off, e, hb, hc⟩ := h2.row (by omega) (by decide)
    obtain ⟨v, hv, hvc⟩ := h1.at_ i hi
    refine ⟨b, off, v, e, hS b hb, hv, fun j u hj => ?_⟩
    have hj10 : j < 10 := by have := (List.getElem?_eq_some_iff.1 hj).1; rw [Array.length_toList, hv.size] at this; exact this
    rw [Nat.add_assoc]
    refine hc (i * 10 + j) u ?_
    rw [hvc j hj10, ← hj, Array.getElem?_toList]
  have HOK : Hid (∀ i (hi : i < l.length), okI l[i]) := Lib.hid fun i hi => okL_mem l ho _ (List.getElem_mem hi)
  have HS := Lib.hid hS
  generalize wgtF (f + 1) l = R at *
  clear h1 h2 hS ho hG ih
  have hd21 : depth ≤ 20 := by omega
  go_enter Try.func46, Try.ntmps46
  go_wp2_with fail
  clear h200' hdd
  go_loopw [5, 6] (fun v5 v6 wr => ∃ i n : Nat, i ≤ l.length ∧ v5 = .int .i64 n ∧ v6 = .int .i64 i ∧ n ≤ 300000000000000000 ∧ Hid (wgtL (wgtF f) n (l.drop i) = R) ∧ Hid (Below w.heap.size w wr)) (fun _ v6 _ => l.length - (intOf v6).toNat)
  case atStart => exact ⟨0, l.length, Nat.zero_le _, rfl, rfl, by omega, Lib.hid (by rw [hR.out]; rfl), Lib.hid (Below.refl _ w)⟩
  case round =>
    obtain ⟨i, n, hi, rfl, rfl, hn, HN, HBw⟩ := hrel
    by_cases hlt : i < l.length
    · have hii : (i : Int) < (l.length : Int) := by omega
      have hi00 : (0 : Int) ≤ (i : Int) := by omega
      by_cases hn1 : 1000 ≤ n
      · have hRn : R = n := by rw [← HN.out, List.drop_eq_getElem_cons hlt, wgtL, if_pos hn1]
        have dn : decide ((n : Int) < 1000) = false := decide_eq_false (by omega)
        subst hRn
        go_wp2_with fail
        go_ret
        exact ⟨rfl, HBw.out⟩
      · have dn : (n : Int) < 1000 := by omega
        obtain ⟨b, off, v, rfl, hb, hv, hrg⟩ := HEL.out i hlt
        have hok := HOK.out i hlt
        have hst : wgtL (wgtF f) n (l.drop i) = if badI l[i] = true then 1000 else wgtL (wgtF f) (n + ownW l[i] + wgtF f l[i].kids) (l.drop (i + 1)) := by
          rw [List.drop_eq_getElem_cons hlt, wgtL, if_neg hn1]
        rw [hst] at HN
        clear hst
        generalize hxx : l[i] = x at *
        clear hxx
        have hbw := HBw.out
        have hzw := hbw.size
        have hv' := hv.keep (w' := wr) (fun g hg => hbw.block g (HS.out g hg)) fun _ h => h
        have hrg' : wr.rangeAt b (off + i * 10) v.toList := fun j u hj => (hbw.cell (p := ⟨b, off + i * 10 + j, none⟩) hb).trans (hrg j u hj)
        clear hv hrg
        cases hv' with
        | mk kind text dest title att args cites kids A1 A2 A3 A4 A5 c1 c2 c3 c4 c5 vs' r1 r2 r3 r4 r5 r6 =>
        have hob : badI (.mk kind text dest title att args cites kids) = (decide (300 < text.size + dest.size + title.size) || (longA att || (decide (9 < args.length) || decide (9 < cites.length)))) := rfl
        rw [hob] at HN
        have how := @ownW_le (.mk kind text dest title att args cites kids) hok
        rw [hob] at how
        have how2 : ownW (.mk kind text dest title att args cites kids) = argsW args + citsW cites := rfl
        rw [how2] at how HN
        have hkk : (InT.mk kind text dest title att args cites kids).kids = kids := rfl
        rw [hkk] at HN
        rw [okI] at hok
        obtain ⟨⟨l1, l2, l3⟩, oa, o3, o4, o5⟩ := hok
        unfold reachBytes at l1 l2 l3
        have hS' : ∀ g, S g → g < wr.heap.size := fun g hg => Nat.lt_of_lt_of_le (HS.out g hg) hzw
        have hB2 : Below wr.heap.size wr (wr.alloc (.cells #[.int .i64 kind, .string text, .string dest, .string title, .string att.id, .slice A1 att.cl.length c1, .slice A2 att.pr.length c2, .slice A3 args.length c3, .slice A4 cites.length c4, .slice A5 kids.length c5] 37)) := (Below.refl _ wr).alloc (Nat.le_refl _) _
        have HG : Hid (wr.rangeAt b (off + i * 10) [.int .i64 kind, .string text, .string dest, .string title, .string att.id, .slice A1 att.cl.length c1, .slice A2 att.pr.length c2, .slice A3 args.length c3, .slice A4 cites.length c4, .slice A5 kids.length c5]) := Lib.hid hrg'
        have hbk := Blk.new wr 37 #[.int .i64 kind, .string text, .string dest, .string title, .string att.id, .slice A1 att.cl.length c1, .slice A2 att.pr.length c2, .slice A3 args.length c3, .slice A4 cites.length c4, .slice A5 kids.length c5]
        have HBK := Lib.hid hbk
        have HB2 := Lib.hid hB2
        have HLG := Lib.hid fun (W : World) (hW : Below wr.heap.size wr W) => t_long (c1 := c1) (c2 := c2) W (r1.keep (fun g hg => hW.block g (hS' g hg)) fun _ h => h) (r2.keep (fun g hg => hW.block g (hS' g hg)) fun _ h => h) (fun g hg => Nat.lt_of_lt_of_le (hS' g hg) hW.size) oa
        have HIC : Hid (∀ (W : World), Below wr.heap.size wr W → Calls Try.prog 46 #[.slice A5 kids.length c5, .int .i64 ((depth : Int) + 1)] W (IntP (wgtF f kids) W)) := Lib.hid fun W hW => by
          have := HIH.out S W A5 c5 (depth + 1) vs' kids (by omega) (r5.keep (fun g hg => hW.block g (hS' g hg)) fun _ h => h) (r6.keep (fun g hg => hW.block g (hS' g hg)) fun _ h => h) (fun g hg => Nat.lt_of_lt_of_le (hS' g hg) hW.size) o5
          rwa [Int.natCast_add] at this
        have HAR : Hid (∀ (W : World), Below wr.heap.size wr W → ∀ k (hk : k < args.length), ∃ b off, A3 = some ⟨b, off, none⟩ ∧ W.cell? ⟨b, off + k, none⟩ = some (.string args[k])) := Lib.hid fun W hW k hk => by
          obtain ⟨b, off, e, hb, hc⟩ := r3.row (by omega) (by decide)
          exact ⟨b, off, e, (hW.cell (p := ⟨b, off + k, none⟩) (hS' b hb)).trans (hc k _ (strs_at' args k hk))⟩
        have HCI : Hid (∀ (W : World), Below wr.heap.size wr W → ∀ k (hk : k < cites.length), ∃ b off, A4 = some ⟨b, off, none⟩ ∧ W.rangeAt b (off + k * 4) [.string cites[k].key, .string cites[k].pre, .string cites[k].suf, .bool cites[k].bare]) := Lib.hid fun W hW k hk => by
          obtain ⟨b, off, e, hb, hc⟩ := r4.row (by omega) (by decide)
          refine ⟨b, off, e, fun j u hj => ?_⟩
          have hj4 := (List.getElem?_eq_some_iff.1 hj).1
          simp only [List.length_cons, List.length_nil] at hj4
          refine (hW.cell (p := ⟨b, off + k * 4 + j, none⟩) (hS' b hb)).trans ?_
          rw [Nat.add_assoc]
          refine hc (k * 4 + j) u ?_
          obtain ⟨e0, e1, e2, e3⟩ := citVT_at cites k hk
          match j, hj4, hj with
          | 0, _, hj => rw [← hj]; exact e0
          | 1, _, hj => rw [← hj]; exact e1
          | 2, _, hj => rw [← hj]; exact e2
          | 3, _, hj => rw [← hj]; exact e3
        have HO3 := Lib.hid o3
        have HO4 := Lib.hid o4
        have hgk := hgG kids o5
        have ms1 := r3.1.2
        have ms2 := r4.1.2
        have ms3 := r6.1.2
        unfold maxLen at ms1 ms2 ms3
        have x1 : (wr.alloc (.cells #[.int .i64 kind, .string text, .string dest, .string title, .string att.id, .slice A1 att.cl.length c1, .slice A2 att.pr.length c2, .slice A3 args.length c3, .slice A4 cites.length c4, .slice A5 kids.length c5] 37)).cell? ⟨wr.heap.size, 1, none⟩ = some (.string text) := hbk.cell 1
        have x2 : (wr.alloc (.cells #[.int .i64 kind, .string text, .string dest, .string title, .string att.id, .slice A1 att.cl.length c1, .slice A2 att.pr.length c2, .slice A3 args.length c3, .slice A4 cites.length c4, .slice A5 kids.length c5] 37)).cell? ⟨wr.heap.size, 2, none⟩ = some (.string dest) := hbk.cell 2
        have x3 : (wr.alloc (.cells #[.int .i64 kind, .string text, .string dest, .string title, .string att.id, .slice A1 att.cl.length c1, .slice A2 att.pr.length c2, .slice A3 args.length c3, .slice A4 cites.length c4, .slice A5 kids.length c5] 37)).cell? ⟨wr.heap.size, 3, none⟩ = some (.string title) := hbk.cell 3
        have x4 : (wr.alloc (.cells #[.int .i64 kind, .string text, .string dest, .string title, .string att.id, .slice A1 att.cl.length c1, .slice A2 att.pr.length c2, .slice A3 args.length c3, .slice A4 cites.length c4, .slice A5 kids.length c5] 37)).cell? ⟨wr.heap.size, 4, none⟩ = some (.string att.id) := hbk.cell 4
        have x5 : (wr.alloc (.cells #[.int .i64 kind, .string text, .string dest, .string title, .string att.id, .slice A1 att.cl.length c1, .slice A2 att.pr.length c2, .slice A3 args.length c3, .slice A4 cites.length c4, .slice A5 kids.length c5] 37)).cell? ⟨wr.heap.size, 5, none⟩ = some (.slice A1 att.cl.length c1) := hbk.cell 5
        have x6 : (wr.alloc (.cells #[.int .i64 kind, .string text, .string dest, .string title, .string att.id, .slice A1 att.cl.length c1, .slice A2 att.pr.length c2, .slice A3 args.length c3, .slice A4 cites.length c4, .slice A5 kids.length c5] 37)).cell? ⟨wr.heap.size, 6, none⟩ = some (.slice A2 att.pr.length c2) := hbk.cell 6
        have x7 : (wr.alloc (.cells #[.int .i64 kind, .string text, .string dest, .string title, .string att.id, .slice A1 att.cl.length c1, .slice A2 att.pr.length c2, .slice A3 args.length c3, .slice A4 cites.length c4, .slice A5 kids.length c5] 37)).cell? ⟨wr.heap.size, 7, none⟩ = some (.slice A3 args.length c3) := hbk.cell 7
        have x8 : (wr.alloc (.cells #[.int .i64 kind, .string text, .string dest, .string title, .string att.id, .slice A1 att.cl.length c1, .slice A2 att.pr.length c2, .slice A3 args.length c3, .slice A4 cites.length c4, .slice A5 kids.length c5] 37)).cell? ⟨wr.heap.size, 8, none⟩ = some (.slice A4 cites.length c4) := hbk.cell 8
        have x9 : (wr.alloc (.cells #[.int .i64 kind, .string text, .string dest, .string title, .string att.id, .slice A1 att.cl.length c1, .slice A2 att.pr.length c2, .slice A3 args.length c3, .slice A4 cites.length c4, .slice A5 kids.length c5] 37)).cell? ⟨wr.heap.size, 9, none⟩ = some (.slice A5 kids.length c5) := hbk.cell 9
        clear hrg' hbk hB2 r1 r2 r3 r4 r5 r6 oa o3 o4 o5 hbw hS' HIH hob how2 hkk
        by_cases hb1 : 300 < text.size + dest.size + title.size
        · have hb1' : (300 : Int) < (text.size : Int) + (dest.size : Int) + (title.size : Int) := by omega
          have hR1 : R = 1000 := by have := HN.out; simp [hb1] at this; exact this.symm
          have HF : Hid (IntP R w (.returned (.int .i64 1000)) (wr.alloc (.cells #[.int .i64 kind, .string text, .string dest, .string title, .string att.id, .slice A1 att.cl.length c1, .slice A2 att.pr.length c2, .slice A3 args.length c3, .slice A4 cites.length c4, .slice A5 kids.length c5] 37))) := Lib.hid ⟨by rw [hR1]; rfl, HBw.out.trans (HB2.out.mono hzw)⟩
          clear how HN hR1
          go_wp2_with (first | (refine wpList_load_mid rfl 37 (.tmp 31) rfl b (off + i * 10) rfl _ _ HG.out Try.underlying37 rfl inl_size ?_) | (refine wpList_store_row rfl 37 (.tmp 7) (.tmp 32) rfl wr.heap.size #[.int .i64 kind, .string text, .string dest, .string title, .string att.id, .slice A1 att.cl.length c1, .slice A2 att.pr.length c2, .slice A3 args.length c3, .slice A4 cites.length c4, .slice A5 kids.length c5] rfl rfl 37 _ (Blk.new wr _ _) inl_size (by rfl) (by simp [Value.oneCell']) ?_; rw [World.setRow_alloc_new]; generalize (wr.alloc (.cells #[.int .i64 kind, .string text, .string dest, .string title, .string att.id, .slice A1 att.cl.length c1, .slice A2 att.pr.length c2, .slice A3 args.length c3, .slice A4 cites.length c4, .slice A5 kids.length c5] 37)) = W1 at *))
          go_ret
          exact HF.out
        have hb1' : decide ((300 : Int) < (text.size : Int) + (dest.size : Int) + (title.size : Int)) = false := decide_eq_false (by omega)
        have HB3 : Hid (Below w.heap.size w (wr.alloc (.cells #[.int .i64 kind, .string text, .string dest, .string title, .string att.id, .slice A1 att.cl.length c1, .slice A2 att.pr.length c2, .slice A3 args.length c3, .slice A4 cites.length c4, .slice A5 kids.length c5] 37))) := Lib.hid (HBw.out.trans (HB2.out.mono hzw))
        have HZ1 : Hid ((wr.alloc (.cells #[.int .i64 kind, .string text, .string dest, .string title, .string att.id, .slice A1 att.cl.length c1, .slice A2 att.pr.length c2, .slice A3 args.length c3, .slice A4 cites.length c4, .slice A5 kids.length c5] 37)).heap.size = wr.heap.size + 1) := Lib.hid (by simp)
        have HHOW := Lib.hid how
        clear how
        go_wp2_with (first | (refine wpList_load_mid rfl 37 (.tmp 31) rfl b (off + i * 10) rfl _ _ HG.out Try.underlying37 rfl inl_size ?_) | (refine wpList_store_row rfl 37 (.tmp 7) (.tmp 32) rfl wr.heap.size #[.int .i64 kind, .string text, .string dest, .string title, .string att.id, .slice A1 att.cl.length c1, .slice A2 att.pr.length c2, .slice A3 args.length c3, .slice A4 cites.length c4, .slice A5 kids.length c5] rfl rfl 37 _ (Blk.new wr _ _) inl_size (by rfl) (by simp [Value.oneCell']) ?_; rw [World.setRow_alloc_new]; generalize (wr.alloc (.cells #[.int .i64 kind, .string text, .string dest, .string title, .string att.id, .slice A1 att.cl.length c1, .slice A2 att.pr.length c2, .slice A3 args.length c3, .slice A4 cites.length c4, .slice A5 kids.length c5] 37)) = W1 at *))
        ((with_reducible refine (HLG.out W1 HB2.out).mono ?_))
        rintro e W2 ⟨rfl, b2⟩
        have HB4 := Lib.hid (HB2.out.trans (b2.mono (by have := HZ1.out; omega)))
        have HB5 := Lib.hid (HB3.out.trans (b2.mono HB3.out.size))
        have HBK2 : Hid (Blk W2 wr.heap.size 37 #[.int .i64 kind, .string text, .string dest, .string title, .string att.id, .slice A1 att.cl.length c1, .slice A2 att.pr.length c2, .slice A3 args.length c3, .slice A4 cites.length c4, .slice A5 kids.length c5]) := Lib.hid (HBK.out.below b2 HBK.out.lt)
        have y7 : W2.cell? ⟨wr.heap.size, 7, none⟩ = some (.slice A3 args.length c3) := HBK2.out.cell 7
        have y8 : W2.cell? ⟨wr.heap.size, 8, none⟩ = some (.slice A4 cites.length c4) := HBK2.out.cell 8
        clear x1 x2 x3 x4 x5 x6 x7 x8 x9 b2 HLG HG HBK HB3 hb1'
        have hlgx : ∀ q, longA att = q → q = longA att := fun q h => h.symm
        cases hlg : longA att with
        | true =>
          have hR1 : R = 1000 := by have := HN.out; simp [hb1, hlg] at this; exact this.symm
          have HF : Hid (IntP R w (.returned (.int .i64 1000)) W2) := Lib.hid ⟨by rw [hR1]; rfl, HB5.out⟩
          clear HHOW HN hR1 hlgx hlg hb1
          go_wp2_with fail
          go_ret
          exact HF.out
        | false =>
          by_cases h9 : 9 < args.length
          · have h9' : (9 : Int) < (args.length : Int) := by omega
            have hR1 : R = 1000 := by have := HN.out; simp [hb1, hlg, h9] at this; exact this.symm
            have HF : Hid (IntP R w (.returned (.int .i64 1000)) W2) := Lib.hid ⟨by rw [hR1]; rfl, HB5.out⟩
            clear HHOW HN hR1 hlgx hlg hb1
            go_wp2_with fail
            go_ret
            exact HF.out
          have h9' : decide ((9 : Int) < (args.length : Int)) = false := decide_eq_false (by omega)
          by_cases h8 : 9 < cites.length
          · have h8' : (9 : Int) < (cites.length : Int) := by omega
            have hR1 : R = 1000 := by have := HN.out; simp [hb1, hlg, h9, h8] at this; exact this.symm
            have HF : Hid (IntP R w (.returned (.int .i64 1000)) W2) := Lib.hid ⟨by rw [hR1]; rfl, HB5.out⟩
            clear HHOW HN hR1 hlgx hlg hb1
            go_wp2_with fail
            go_ret
            exact HF.out
          have h8' : decide ((9 : Int) < (cites.length : Int)) = false := decide_eq_false (by omega)
          have HN2 : Hid (wgtL (wgtF f) (n + (argsW args + citsW cites) + wgtF f kids) (l.drop (i + 1)) = R) := Lib.hid (by have := HN.out; simpa [hb1, hlg, h9, h8] using this)
          have how := HHOW.out (by simp [hb1, hlg, h9, h8])
          obtain ⟨T1, hT1⟩ : ∃ T1, T1 = n + argsW args := ⟨_, rfl⟩
          obtain ⟨T2, hT2⟩ : ∃ T2, T2 = T1 + citsW cites := ⟨_, rfl⟩
          have hT2b : T2 ≤ 100000000000000000 := by omega
          have hT12 : T1 ≤ T2 := by omega
          have hnT : n ≤ T1 := by omega
          have HT1 := Lib.hid hT1
          have HT2 := Lib.hid hT2
          have HN3 : Hid (wgtL (wgtF f) (T2 + wgtF f kids) (l.drop (i + 1)) = R) := Lib.hid (by have := HN2.out; rwa [show n + (argsW args + citsW cites) = T2 by omega] at this)
          have hla : args.length ≤ 9 := by omega
          have hlc : cites.length ≤ 9 := by omega
          clear HN HN2 HHOW hT1 hT2 how hlgx hlg hb1 h9 h8
          generalize wgtF f kids = K at *
          go_wp2_with fail
          clear h9' h8'
          go_loopw [5, 8] (fun v5 v8 wq => wq = W2 ∧ ∃ k m : Nat, k ≤ args.length ∧ v5 = .int .i64 m ∧ v8 = .int .i64 k ∧ m ≤ T1 ∧ Hid (m + argsW (args.drop k) = T1)) (fun _ v8 _ => args.length - (intOf v8).toNat)
          case atStart => exact ⟨rfl, 0, n, Nat.zero_le _, rfl, rfl, hnT, Lib.hid (by rw [HT1.out]; rfl)⟩
          case round =>
            obtain ⟨rfl, k, m, hk, rfl, rfl, hm1, HM⟩ := hrel
            by_cases hkl : k < args.length
            · obtain ⟨ba, oa, rfl, hc⟩ := HAR.out _ HB4.out k hkl
              have hmm : m + args[k].size / 40 ≤ T1 := by have := HM.out; rw [argsW_drop hkl] at this; omega
              have HM2 : Hid (m + args[k].size / 40 + argsW (args.drop (k + 1)) = T1) := Lib.hid (by have := HM.out; rw [argsW_drop hkl] at this; omega)
              have hkk : (k : Int) < (args.length : Int) := by omega
              have hd := div40 args[k].size
              have hsz := HO3.out _ (List.getElem_mem hkl)
              unfold reachBytes at hsz
              have hdb : args[k].size / 40 ≤ 140737488351232 := by omega
              generalize args[k] = s at *
              generalize hq : s.size / 40 = q at *
              clear hq
              go_wp2_with fail
              go_roundw
              case rel => exact ⟨trivial, k + 1, m + q, by omega, by go_num, by go_num, hmm, HM2⟩
              case measure => simp [intOf]; omega
            · obtain rfl : k = args.length := by omega
              have hmT : m = T1 := by have := HM.out; rw [List.drop_length] at this; exact this
              subst hmT
              clear HM hm1 hnT HT1
              go_wp2_with fail
              rename World => W3
              go_loopw [5, 9] (fun v5 v9 wq => ∃ k p : Nat, k ≤ cites.length ∧ v5 = .int .i64 p ∧ v9 = .int .i64 k ∧ p ≤ T2 ∧ Hid (p + citsW (cites.drop k) = T2) ∧ Hid (Below W3.heap.size W3 wq)) (fun _ v9 _ => cites.length - (intOf v9).toNat)
              case atStart => exact ⟨0, m, Nat.zero_le _, rfl, rfl, hT12, Lib.hid (by rw [HT2.out]; rfl), Lib.hid (Below.refl _ _)⟩
              case round =>
                rename World => wq
                obtain ⟨k, p, hk, rfl, rfl, hp, HP, HBq⟩ := hrel
                have hbq := HBq.out
                have hzq := hbq.size
                have hz3 := HB4.out.size
                have HB6 : Hid (Below wr.heap.size wr wq) := Lib.hid (HB4.out.trans (hbq.mono hz3))
                have HB7 : Hid (Below w.heap.size w wq) := Lib.hid (HB5.out.trans (hbq.mono HB5.out.size))
                have HBK3 : Hid (Blk wq wr.heap.size 37 #[.int .i64 kind, .string text, .string dest, .string title, .string att.id, .slice A1 att.cl.length c1, .slice A2 att.pr.length c2, .slice A3 args.length c3, .slice A4 cites.length c4, .slice A5 kids.length c5]) := Lib.hid (HBK2.out.below hbq HBK2.out.lt)
                have z8 : wq.cell? ⟨wr.heap.size, 8, none⟩ = some (.slice A4 cites.length c4) := HBK3.out.cell 8
                have z9 : wq.cell? ⟨wr.heap.size, 9, none⟩ = some (.slice A5 kids.length c5) := HBK3.out.cell 9
                by_cases hkl : k < cites.length
                · obtain ⟨ba, oa, rfl, hc⟩ := HCI.out _ HB6.out k hkl
                  have hpp : p + (cites[k].key.size + cites[k].pre.size + cites[k].suf.size) / 40 ≤ T2 := by have := HP.out; rw [citsW_drop hkl] at this; omega
                  have HP2 : Hid (p + (cites[k].key.size + cites[k].pre.size + cites[k].suf.size) / 40 + citsW (cites.drop (k + 1)) = T2) := Lib.hid (by have := HP.out; rw [citsW_drop hkl] at this; omega)
                  have hkk : (k : Int) < (cites.length : Int) := by omega
                  have hk00 : (0 : Int) ≤ (k : Int) := by omega
                  obtain ⟨s1, s2, s3⟩ := HO4.out _ (List.getElem_mem hkl)
                  unfold reachBytes at s1 s2 s3
                  have hd := div40 (cites[k].key.size + cites[k].pre.size + cites[k].suf.size)
                  rw [Int.natCast_add, Int.natCast_add] at hd
                  have hdb : (cites[k].key.size + cites[k].pre.size + cites[k].suf.size) / 40 ≤ 140737488351232 := by omega
                  have HCC := Lib.hid hc
                  clear hc
                  generalize cites[k].key = key at *
                  generalize cites[k].pre = pre at *
                  generalize cites[k].suf = suf at *
                  generalize cites[k].bare = bare at *
                  generalize hq : (key.size + pre.size + suf.size) / 40 = q at *
                  clear hq
                  have HB8 : Hid (Below W3.heap.size W3 (wq.alloc (.cells #[.string key, .string pre, .string suf, .bool bare] 55))) := Lib.hid (hbq.alloc hzq _)
                  have hcb := Blk.new wq 55 #[.string key, .string pre, .string suf, .bool bare]
                  have k0 : (wq.alloc (.cells #[.string key, .string pre, .string suf, .bool bare] 55)).cell? ⟨wq.heap.size, 0, none⟩ = some (.string key) := hcb.cell 0
                  have k1 : (wq.alloc (.cells #[.string key, .string pre, .string suf, .bool bare] 55)).cell? ⟨wq.heap.size, 1, none⟩ = some (.string pre) := hcb.cell 1
                  have k2 : (wq.alloc (.cells #[.string key, .string pre, .string suf, .bool bare] 55)).cell? ⟨wq.heap.size, 2, none⟩ = some (.string suf) := hcb.cell 2
                  clear hcb
                  go_wp2_with (first | (refine wpList_load_mid rfl 55 (.tmp 88) rfl ba (oa + k * 4) rfl _ _ HCC.out Try.underlying55 rfl cit_size ?_) | (refine wpList_store_row rfl 55 (.tmp 10) (.tmp 89) rfl wq.heap.size #[.string key, .string pre, .string suf, .bool bare] rfl rfl 55 _ (Blk.new wq _ _) cit_size (by rfl) (by simp [Value.oneCell']) ?_; rw [World.setRow_alloc_new]; generalize wq.alloc (.cells #[.string key, .string pre, .string suf, .bool bare] 55) = W9 at *))
                  go_roundw
                  case rel => exact ⟨k + 1, p + q, by omega, by go_num, by go_num, hpp, HP2, HB8⟩
                  case measure => simp [intOf]; omega
                · have hkc : k = cites.length := by omega
                  have hpT : p = T2 := by have := HP.out; rw [hkc, List.drop_length] at this; exact this
                  have dk : decide ((k : Int) < (cites.length : Int)) = false := decide_eq_false (by omega)
                  subst hpT
                  have HC := Lib.hid (HIC.out wq HB6.out)
                  clear HP hp hT12
                  go_wp2_with fail
                  ((with_reducible refine HC.out.mono ?_))
                  rintro e W4 ⟨rfl, b4⟩
                  have HB9 : Hid (Below w.heap.size w W4) := Lib.hid (HB7.out.trans (b4.mono HB7.out.size))
                  clear b4 HC
                  go_wp2_with fail
                  go_roundw
                  case rel => exact ⟨i + 1, p + K, by omega, by go_num, by go_num, by omega, HN3, HB9⟩
                  case measure => simp [intOf]; omega
    · have hil : i = l.length := by omega
      have hRn : R = n := by rw [← HN.out, hil, List.drop_length]; rfl
      subst hRn
      have dl : decide ((i : Int) < (l.length : Int)) = false := decide_eq_false (by omega)
      go_wp2_with fail
      go_ret
      exact ⟨rfl, HBw.out⟩

end Go.Proofs.Ytfnloonmeilhlaa
namespace Go.Proofs.Ytfnloonmeilhlaa
open Go.RowKit Go.Pub
theorem t_weight : ∀ f, f ≤ 21 → WgtH f
  | 0, _ => t_weight0
  | f + 1, h => t_weight1 f (by omega) (t_weight f (by omega))
theorem blk_size : (Try.prog.info? 49).map (·.size) = some 11 := by kernel_rfl
theorem blk_info : (Try.prog.info? 49).map (fun i => (i.zero, i.size, i.bytes)) = some (some (.agg #[.int .i64 0, .int .i64 0, .string ⟨#[]⟩, .string ⟨#[]⟩, .string ⟨#[]⟩, .string ⟨#[]⟩, .string ⟨#[]⟩, .slice none 0 0, .slice none 0 0, .slice none 0 0, .slice none 0 0]), 11, 192) := by kernel_rfl
/-- A block that has a line alone. -/
def lnB (A : Option Addr) (n c : Nat) : Array Value := #[.int .i64 0, .int .i64 0, .string ⟨#[]⟩, .string ⟨#[]⟩, .string ⟨#[]⟩, .string ⟨#[]⟩, .string ⟨#[]⟩, .slice none 0 0, .slice none 0 0, .slice A n c, .slice none 0 0]
theorem t_heavy0 (w : World) : Calls Try.prog 29 #[.slice none 0 0, .int .i64 1] w fun e w' => e = .returned (.int .i64 0) ∧ w' = w := by
  go_enter Try.func29, Try.ntmps29
  go_wp2_with fail
  go_loopw [5, 6] (fun v5 v6 wr => v5 = .int .i64 0 ∧ v6 = .int .i64 0 ∧ wr = w) (fun _ _ _ => 0)
  case atStart => exact ⟨rfl, rfl, rfl⟩
  case round =>
    obtain ⟨rfl, rfl, rfl⟩ := hrel
    go_wp2_with fail
    go_ret
    exact ⟨rfl, rfl⟩
set_option maxHeartbeats 4000000 in
set_option maxRecDepth 100000 in
theorem t_heavy1 {S : Nat → Prop} {A : Option Addr} {c g : Nat} {vs : List (Array Value)} {l : List InT} (w : World) (h1 : RepIs w S vs l) (h2 : ReadsS w S 10 A l.length (vs.flatMap Array.toList)) (hS : ∀ g, S g → g < w.heap.size) (ho : okL l) (hb : Blk w g 49 (lnB A l.length c)) :
    Calls Try.prog 29 #[.slice (some ⟨g, 0, none⟩) 1 1, .int .i64 0] w (IntP (1 + wgtF 21 l) w) := by
  have HW : Hid (∀ W, Below w.heap.size w W → Calls Try.prog 46 #[.slice A l.length c, .int .i64 0] W fun e w' => e = .returned (.int .i64 (wgtF 21 l)) ∧ Below W.heap.size W w') := Lib.hid fun W hW =>
    t_weight 21 (Nat.le_refl _) S W A c 0 vs l rfl (h1.keep (fun g hg => hW.block g (hS g hg)) fun _ h => h) (h2.keep (fun g hg => hW.block g (hS g hg)) fun _ h => h) (fun g hg => Nat.lt_of_lt_of_le (hS g hg) hW.size) ho
  have hwb := wgtF_le 21 l ho
  have hm := h2.1.2
  unfold maxLen at hm
  generalize wgtF 21 l = K at *
  have HLG := Lib.hid fun (W : World) => t_long (S := fun _ => False) (A1 := none) (A2 := none) (c1 := 0) (c2 := 0) (a := noAt) W ReadsS.none_ ReadsS.none_ (fun _ h => h.elim) ⟨Nat.zero_le _, fun _ h => absurd h (by simp [noAt]), fun _ h => absurd h (by simp [noAt])⟩
  have hlg : longA noAt = false := by decide +kernel
  rw [hlg] at HLG
  have HLG : Hid (∀ W : World, Calls Try.prog 45 #[.agg #[.string ⟨#[]⟩, .slice none 0 0, .slice none 0 0]] W (BoolP false W)) := HLG
  have hgw := hb.lt
  have HBK := Lib.hid hb
  clear h1 h2 hS ho hb hlg
  go_enter Try.func29, Try.ntmps29
  go_wp2_with fail
  go_loopw [5, 6] (fun v5 v6 wr => ∃ i n : Nat, v5 = .int .i64 n ∧ v6 = .int .i64 i ∧ (i = 0 ∧ n = 1 ∨ i = 1 ∧ n = 1 + K) ∧ Hid (Below w.heap.size w wr)) (fun _ v6 _ => 1 - (intOf v6).toNat)
  case atStart => exact ⟨0, 1, rfl, rfl, .inl ⟨rfl, rfl⟩, Lib.hid (Below.refl _ w)⟩
  case round =>
    obtain ⟨i, n, rfl, rfl, hin, HBw⟩ := hrel
    rcases hin with ⟨rfl, rfl⟩ | ⟨rfl, rfl⟩
    · have hbw := HBw.out
      have hzw := hbw.size
      have HBK1 : Hid (Blk wr g 49 (lnB A l.length c)) := Lib.hid (HBK.out.below hbw hgw)
      have HB2 : Hid (Below wr.heap.size wr (wr.alloc (.cells (lnB A l.length c) 49))) := Lib.hid ((Below.refl _ wr).alloc (Nat.le_refl _) _)
      have hbk := Blk.new wr 49 (lnB A l.length c)
      have HBK2 := Lib.hid hbk
      have hz2 : (wr.alloc (.cells (lnB A l.length c) 49)).heap.size = wr.heap.size + 1 := by simp
      have x2 : (wr.alloc (.cells (lnB A l.length c) 49)).cell? ⟨wr.heap.size, 2, none⟩ = some (.string ⟨#[]⟩) := hbk.cell 2
      have x3 : (wr.alloc (.cells (lnB A l.length c) 49)).cell? ⟨wr.heap.size, 3, none⟩ = some (.string ⟨#[]⟩) := hbk.cell 3
      have x4 : (wr.alloc (.cells (lnB A l.length c) 49)).cell? ⟨wr.heap.size, 4, none⟩ = some (.string ⟨#[]⟩) := hbk.cell 4
      have x5 : (wr.alloc (.cells (lnB A l.length c) 49)).cell? ⟨wr.heap.size, 5, none⟩ = some (.string ⟨#[]⟩) := hbk.cell 5
      have x6 : (wr.alloc (.cells (lnB A l.length c) 49)).cell? ⟨wr.heap.size, 6, none⟩ = some (.string ⟨#[]⟩) := hbk.cell 6
      have x7 : (wr.alloc (.cells (lnB A l.length c) 49)).cell? ⟨wr.heap.size, 7, none⟩ = some (.slice none 0 0) := hbk.cell 7
      have x8 : (wr.alloc (.cells (lnB A l.length c) 49)).cell? ⟨wr.heap.size, 8, none⟩ = some (.slice none 0 0) := hbk.cell 8
      clear hbk hbw
      have HZ2 := Lib.hid hz2
      clear hz2
      go_wp2_with (first | (refine wpList_load_row rfl 49 (.tmp 28) rfl g rfl 49 (lnB A l.length c) _ _ HBK1.out Try.underlying49 rfl blk_size ?_) | (refine wpList_store_row rfl 49 (.tmp 7) (.tmp 29) rfl wr.heap.size (lnB A l.length c) rfl rfl 49 _ (Blk.new wr _ _) blk_size (by rfl) (by simp [lnB, Value.oneCell']) ?_; rw [World.setRow_alloc_new]; generalize wr.alloc (.cells (lnB A l.length c) 49) = W1 at *))
      ((with_reducible refine (HLG.out W1).mono ?_))
      rintro e W2 ⟨rfl, b2⟩
      have HBK3 : Hid (Blk W2 wr.heap.size 49 (lnB A l.length c)) := Lib.hid (HBK2.out.below b2 HBK2.out.lt)
      have HB3 : Hid (Below w.heap.size w W2) := Lib.hid (HBw.out.trans ((HB2.out.trans (b2.mono (by have := HZ2.out; omega))).mono hzw))
      have hz2b : wr.heap.size + 1 ≤ W2.heap.size := by have := b2.size; have := HZ2.out; omega
      have HS : Hid (∀ W, Below W2.heap.size W2 W → W.cell? ⟨wr.heap.size, 9, none⟩ = some (.slice A l.length c) ∧ W.cell? ⟨wr.heap.size, 10, none⟩ = some (.slice none 0 0) ∧ Below W2.heap.size W2 W) := Lib.hid fun W hW =>
        ⟨(hW.cell (p := ⟨wr.heap.size, 9, none⟩) (by show wr.heap.size < _; omega)).trans (HBK3.out.cell 9), (hW.cell (p := ⟨wr.heap.size, 10, none⟩) (by show wr.heap.size < _; omega)).trans (HBK3.out.cell 10), hW⟩
      have HC1 : Hid (∀ W, Below W2.heap.size W2 W → Calls Try.prog 46 #[.slice A l.length c, .int .i64 0] W fun e w' => e = .returned (.int .i64 K) ∧ Below W2.heap.size W2 w') := Lib.hid fun W hW => (HW.out W (HB3.out.trans (hW.mono HB3.out.size))).mono fun e w' h => ⟨h.1, hW.trans (h.2.mono hW.size)⟩
      have HC2 : Hid (∀ W, Below W2.heap.size W2 W → Calls Try.prog 29 #[.slice none 0 0, .int .i64 1] W fun e w' => e = .returned (.int .i64 0) ∧ Below W2.heap.size W2 w') := Lib.hid fun W hW => (t_heavy0 W).mono fun e w' h => ⟨h.1, by rw [h.2]; exact hW⟩
      have HEND : Hid (∀ W, Below W2.heap.size W2 W → Hid (Below w.heap.size w W)) := Lib.hid fun W hW => Lib.hid (HB3.out.trans (hW.mono HB3.out.size))
      have HB0 : Hid (Below W2.heap.size W2 W2) := Lib.hid (Below.refl _ _)
      obtain ⟨s0, s1, s2⟩ := HS.out W2 HB0.out
      have hw1 : IntKind.i64.wrap 1 = 1 := by decide
      have hw2 : IntKind.i64.wrap (K : Int) = (K : Int) := IntWalk.i64_in _ (by omega)
      have hw3 : IntKind.i64.wrap (1 + (K : Int)) = 1 + (K : Int) := IntWalk.i64_in _ (by omega)
      clear x2 x3 x4 x5 x6 x7 x8 b2 HLG HBK3 HB3 HW
      go_wp2_with fail
      go_region_held3 (fun w' => w'.cell? ⟨wr.heap.size, 9, none⟩ = some (.slice A l.length c) ∧ w'.cell? ⟨wr.heap.size, 10, none⟩ = some (.slice none 0 0) ∧ Below W2.heap.size W2 w')
        (first | exact HS.out _ b1 | exact HS.out _ HB0.out.drew | go_keep)
        (first
          | (go_at_call 46; (with_reducible refine (HC1.out _ (by assumption : _ ∧ _ ∧ Below W2.heap.size W2 _).2.2).mono ?_); rintro e W3 ⟨rfl, b1⟩)
          | (go_at_call 29; (with_reducible refine (HC2.out _ (by assumption : _ ∧ _ ∧ Below W2.heap.size W2 _).2.2).mono ?_); rintro e W3 ⟨rfl, b1⟩))
      go_wp2_with fail
      go_roundw
      case rel => exact ⟨1, 1 + K, by go_num, rfl, .inr ⟨rfl, rfl⟩, HEND.out _ b1⟩
      case measure => simp [intOf]
    · go_wp2_with fail
      go_ret
      exact ⟨by go_num, HBw.out⟩

set_option maxHeartbeats 4000000 in
set_option maxRecDepth 100000 in
theorem t_Small {S : Nat → Prop} {A : Option Addr} {c g : Nat} {vs : List (Array Value)} {l : List InT} (w : World) (h1 : RepIs w S vs l) (h2 : ReadsS w S 10 A l.length (vs.flatMap Array.toList)) (hS : ∀ g, S g → g < w.heap.size) (ho : okL l) (hb : Blk w g 49 (lnB A l.length c)) :
    Calls Try.prog 21 #[.agg #[.slice none 0 0, .slice (some ⟨g, 0, none⟩) 1 1]] w (BoolP (decide (1 + wgtF 21 l ≤ 120)) w) := by
  have HH : Hid (∀ W, Below w.heap.size w W → Calls Try.prog 29 #[.slice (some ⟨g, 0, none⟩) 1 1, .int .i64 0] W (IntP (1 + wgtF 21 l) W)) := Lib.hid fun W hW =>
    t_heavy1 W (h1.keep (fun g hg => hW.block g (hS g hg)) fun _ h => h) (h2.keep (fun g hg => hW.block g (hS g hg)) fun _ h => h) (fun g hg => Nat.lt_of_lt_of_le (hS g hg) hW.size) ho (hb.below hW hb.lt)
  have hbx : Below w.heap.size w (w.alloc (.cells #[.slice none 0 0, .slice (some ⟨g, 0, none⟩) 1 1] 51)) := (Below.refl _ w).alloc (Nat.le_refl _) _
  have HBX := Lib.hid hbx
  have HC := Lib.hid (HH.out _ hbx)
  have x0 : (w.alloc (.cells #[.slice none 0 0, .slice (some ⟨g, 0, none⟩) 1 1] 51)).cell? ⟨w.heap.size, 0, none⟩ = some (.slice none 0 0) := (Blk.new w 51 #[.slice none 0 0, .slice (some ⟨g, 0, none⟩) 1 1]).cell 0
  have x1 : (w.alloc (.cells #[.slice none 0 0, .slice (some ⟨g, 0, none⟩) 1 1] 51)).cell? ⟨w.heap.size, 1, none⟩ = some (.slice (some ⟨g, 0, none⟩) 1 1) := (Blk.new w 51 #[.slice none 0 0, .slice (some ⟨g, 0, none⟩) 1 1]).cell 1
  generalize wgtF 21 l = K at *
  clear hbx HH h1 h2 hS ho hb
  go_enter Try.func21, Try.ntmps21
  go_wp2_with fail
  generalize w.alloc (.cells #[.slice none 0 0, .slice (some ⟨g, 0, none⟩) 1 1] 51) = W1 at *
  go_loopw [3] (fun v3 wr => v3 = .int .i64 0 ∧ wr = W1) (fun _ _ => 0)
  case atStart => exact ⟨rfl, rfl⟩
  case round =>
    obtain ⟨rfl, rfl⟩ := hrel
    go_wp2_with fail
    ((with_reducible refine HC.out.mono ?_))
    rintro e W2 ⟨rfl, b2⟩
    have HF : Hid (BoolP (decide (1 + K ≤ 120)) w (.returned (.bool (decide (((1 + K : Nat) : Int) ≤ 120)))) W2) := Lib.hid ⟨by congr 2; exact decide_eq_decide.2 (by omega), HBX.out.trans (b2.mono HBX.out.size)⟩
    clear b2 HC
    go_wp2_with fail
    go_ret
    exact HF.out

theorem bl_fill (A : Option Addr) (n c : Nat) : Instr.fill (fun i => some (i * 11, 11)) ((Array.range (1 * 11)).map ((Value.agg (lnB none 0 0)).cells[· % (Value.agg (lnB none 0 0)).cells.size]!)) [(0, .agg (lnB A n c))] = some (lnB A n c) := by kernel_rfl
theorem wpList_blSlice {ops : Array Oper} {rest : List Oper} {o : Oper} {a : Act} {w : World} {Q : Exit → Act → World → Prop} (hg : o.guard = none) (x : Operand) (ho : o.op = .buildSlice 47 1 #[(0, x)]) (A : Option Addr) (n c : Nat) (hx : a.eval x = .agg (lnB A n c))
    (h : wpList Try.prog ops Q rest (a.put o.dst (.slice (some ⟨w.heap.size, 0, none⟩) 1 1)) (w.alloc (.cells (lnB A n c) 49))) : wpList Try.prog ops Q (o :: rest) a w := by
  obtain ⟨i0, hi0, hz0, hz1, hz2⟩ := info_parts blk_info
  refine wpList_buildSlice hg 47 49 1 _ ho _ i0 _ Try.underlying47 hi0 hz0 (by rw [hz1]; decide) (by rw [hz1]; decide) ?_ h
  rw [hz1]
  have e : (#[((0 : Nat), x)].map fun (q : Nat × Operand) => (q.1, a.eval q.2)).toList = [(0, a.eval x)] := by simp
  rw [hx] at e
  show Instr.fill _ _ (#[((0 : Nat), x)].map fun (q : Nat × Operand) => (q.1, a.eval q.2)).toList = _
  rw [e]
  exact bl_fill A n c
/-- The pieces looked at are short. -/
def FewN (ps : List PcT) (i : Nat) : Prop := ∀ j, j < i → (pcX ps j).ch.size ≤ 9 ∧ (pcX ps j).n ≤ 40
/-- The inlines so far lie in a row of the call's own. -/
def FwW (w : World) (S : Nat → Prop) (ps : List PcT) (i : Nat) (v : Value) (wr : World) : Prop :=
  FewN ps i ∧ (∃ vs, RepIs wr S vs ((ps.map (·.inl)).take i) ∧ wr.ownsRow w.heap.size 37 10 v i (vs.flatMap Array.toList)) ∧ Below w.heap.size w wr
theorem fewP_no {ps : List PcT} {i : Nat} (hi : i < ps.length) (h : ¬ ((pcX ps i).ch.size ≤ 9 ∧ (pcX ps i).n ≤ 40)) : fewP ps = false := by
  have e : pcX ps i = ps[i] := by unfold pcX; rw [List.getD_eq_getElem?_getD, List.getElem?_eq_getElem hi]; rfl
  rw [e] at h
  unfold fewP
  have : (ps.all fun p => decide (p.ch.size ≤ 9) && decide (p.n ≤ 40)) = false := by
    rw [List.all_eq_false]
    exact ⟨ps[i], List.getElem_mem hi, by simpa using h⟩
  rw [this]; simp
theorem fewP_yes {ps : List PcT} (hl : ps.length ≤ 40) (h : FewN ps ps.length) : fewP ps = decide (1 + wgtF 21 (ps.map (·.inl)) ≤ 120) := by
  unfold fewP
  have : (ps.all fun p => decide (p.ch.size ≤ 9) && decide (p.n ≤ 40)) = true := by
    rw [List.all_eq_true]
    intro p hp
    obtain ⟨i, hi, rfl⟩ := List.mem_iff_getElem.1 hp
    have e : pcX ps i = ps[i] := by unfold pcX; rw [List.getD_eq_getElem?_getD, List.getElem?_eq_getElem hi]; rfl
    have := h i hi
    rw [e] at this
    simpa using this
  rw [this]; simp [hl]
set_option maxHeartbeats 4000000 in
set_option maxRecDepth 100000 in
theorem t_few {S : Nat → Prop} {L : Value} {ps : List PcT} (w : World) (hL : PcsR w S L ps) (hS : ∀ g, S g → g < w.heap.size) (ho : OkPs ps) :
    Calls Try.prog 9 #[L] w (BoolP (fewP ps) w) := by
  obtain ⟨A0, c0, vs0, hL0, -⟩ := id hL
  subst hL0
  have hm := ho.1
  unfold maxLen at hm
  have HOK := Lib.hid ho.2
  by_cases h40 : 40 < ps.length
  · have hF : fewP ps = false := by unfold fewP; rw [decide_eq_false (by omega)]; rfl
    rw [hF]
    have h40' : (40 : Int) < (ps.length : Int) := by omega
    clear hL hF ho HOK
    go_enter Try.func9, Try.ntmps9
    go_wp2_with fail
    go_ret
    exact ⟨rfl, Below.refl _ w⟩
  have h40' : decide ((40 : Int) < (ps.length : Int)) = false := decide_eq_false (by omega)
  have hl40 : ps.length ≤ 40 := by omega
  have HL := Lib.hid hL
  have HS := Lib.hid hS
  obtain ⟨i0, hi0, hz0, hz1, hz2⟩ := info_parts inl_info
  have H0 : Hid (FwW w S ps 0 (.slice none 0 0) w) := Lib.hid ⟨fun j hj => absurd hj (by omega), ⟨[], .nil, World.ownsRow_nil _ _ _ _⟩, Below.refl _ w⟩
  clear hL hS ho
  go_enter Try.func9, Try.ntmps9
  go_wp2_with fail
  clear h40'
  go_loopw [3, 4] (fun v3 v4 wr => ∃ i : Nat, i ≤ ps.length ∧ v4 = .int .i64 i ∧ Hid (FwW w S ps i v3 wr)) (fun _ v4 _ => ps.length - (intOf v4).toNat)
  case atStart => exact ⟨0, Nat.zero_le _, rfl, H0⟩
  case round =>
    clear H0
    obtain ⟨i, hi, rfl, HI⟩ := hrel
    obtain ⟨hfn, ⟨vs, hrep, hown⟩, hbw⟩ := HI.out
    obtain ⟨A3, c3, hv3, -, -⟩ := own_form hown
    subst hv3
    have hzw := hbw.size
    by_cases hlt : i < ps.length
    · have hLr : PcsR wr S (.slice A0 ps.length c0) ps := HL.out.keep (fun g hg => hbw.block g (HS.out g hg)) fun _ h => h
      obtain ⟨b, off, c, e, hb, hat⟩ := hLr.opn (by omega)
      obtain ⟨x0, x1, x2, x3, x4, x5, x6, x7, x8, x9, hr, hrg, hone⟩ := hat i hlt
      injection e with e1 e2 e3
      subst e1
      subst e3
      have hch : wr.cell? ⟨b, off + i * 18 + 11, none⟩ = some (.string (pcX ps i).ch) := hrg 11 _ rfl
      have hcn : wr.cell? ⟨b, off + i * 18 + 12, none⟩ = some (.int .i64 (pcX ps i).n) := hrg 12 _ rfl
      have hii : (i : Int) < (ps.length : Int) := by omega
      have hi00 : (0 : Int) ≤ (i : Int) := by omega
      have epc : pcX ps i = ps[i] := by unfold pcX; rw [List.getD_eq_getElem?_getD, List.getElem?_eq_getElem hlt]; rfl
      have hok := HOK.out (pcX ps i) (by rw [epc]; exact List.getElem_mem hlt)
      obtain ⟨-, hcs, hn1, hn2⟩ := hok
      unfold reachBytes at hcs
      by_cases hs9 : 9 < (pcX ps i).ch.size
      · have hs9' : (9 : Int) < ((pcX ps i).ch.size : Int) := by omega
        have HF : Hid (BoolP (fewP ps) w (.returned (.bool false)) wr) := Lib.hid ⟨by rw [fewP_no hlt (fun h => by omega)], hbw⟩
        clear hfn hrep hown hbw hLr hat hr hrg hone HI HOK
        clear epc
        generalize (pcX ps i).ch = ch at *
        generalize (pcX ps i).n = pn at *
        go_wp2_with fail
        go_ret
        exact HF.out
      have hs9' : decide ((9 : Int) < ((pcX ps i).ch.size : Int)) = false := decide_eq_false (by omega)
      by_cases hn40 : 40 < (pcX ps i).n
      · have HF : Hid (BoolP (fewP ps) w (.returned (.bool false)) wr) := Lib.hid ⟨by rw [fewP_no hlt (fun h => by omega)], hbw⟩
        clear hfn hrep hown hbw hLr hat hr hrg hone HI HOK
        clear epc
        generalize (pcX ps i).ch = ch at *
        generalize (pcX ps i).n = pn at *
        go_wp2_with fail
        go_ret
        exact HF.out
      have hn40' : decide (40 < (pcX ps i).n) = false := decide_eq_false hn40
      have HG : Hid (wr.rangeAt b (off + i * 18 + 1) [x0, x1, x2, x3, x4, x5, x6, x7, x8, x9]) := Lib.hid fun j u hj => by
        have hj10 := (List.getElem?_eq_some_iff.1 hj).1
        simp only [List.length_cons, List.length_nil] at hj10
        rw [Nat.add_assoc (off + i * 18) 1 j]
        refine hrg (1 + j) u ?_
        rw [← hj, Nat.add_comm 1 j]
        match j, hj10 with
        | 0, _ => rfl
        | 1, _ => rfl
        | 2, _ => rfl
        | 3, _ => rfl
        | 4, _ => rfl
        | 5, _ => rfl
        | 6, _ => rfl
        | 7, _ => rfl
        | 8, _ => rfl
        | 9, _ => rfl
      have HV1 := Lib.hid hr.one
      have HOWN := Lib.hid (own_below hown ((Below.refl _ wr).alloc (Nat.le_refl _) (.cells #[x0, x1, x2, x3, x4, x5, x6, x7, x8, x9] 37)))
      have HPU : Hid (∀ (W7 : World) (g7 cap7 : Nat), W7.ownsRow w.heap.size 37 10 (.slice (some ⟨g7, 0, none⟩) (i + 1) cap7) (i + 1) (vs.flatMap Array.toList ++ [x0, x1, x2, x3, x4, x5, x6, x7, x8, x9]) → (wr.alloc (.cells #[x0, x1, x2, x3, x4, x5, x6, x7, x8, x9] 37)).grownBy W7 (Value.slice A3 i c3).ownBlock → FwW w S ps (i + 1) (.slice (some ⟨g7, 0, none⟩) (i + 1) cap7) W7) := Lib.hid fun W7 g7 cap7 h7 hgr => by
        have hbel : Below w.heap.size w W7 := ((hbw.alloc hzw _).grown hgr (by simp; omega) fun k hk => (hown.lt k hk).1)
        have hk : ∀ g, S g → W7.heap[g]? = wr.heap[g]? := fun g hg => (hbel.block g (HS.out g hg)).trans (hbw.block g (HS.out g hg)).symm
        refine ⟨fun j hj => ?_, ⟨vs ++ [#[x0, x1, x2, x3, x4, x5, x6, x7, x8, x9]], ?_, ?_⟩, hbel⟩
        · rcases Nat.lt_or_ge j i with hji | hji
          · exact hfn j hji
          · obtain rfl : j = i := by omega
            exact ⟨by omega, by omega⟩
        · have hlm : i < (ps.map (·.inl)).length := by rw [List.length_map]; exact hlt
          rw [List.take_succ_eq_append_getElem hlm, List.getElem_map, ← epc]
          exact (hrep.keep hk fun _ h => h).snoc (hr.keep hk fun _ h => h)
        · rw [List.flatMap_append, List.flatMap_singleton]; exact h7
      clear hfn hrep hown hLr hat hr hrg hone HI
      clear epc
      generalize (pcX ps i).ch = ch at *
      generalize (pcX ps i).n = pn at *
      go_wp2_with (first | (refine wpList_load_mid rfl 37 (.tmp 33) rfl b (off + i * 18 + 1) rfl _ _ HG.out Try.underlying37 rfl inl_size ?_) | (refine wpList_inSlice rfl (.tmp 34) rfl x0 x1 x2 x3 x4 x5 x6 x7 x8 x9 rfl ?_) | (at_builtin; refine wpList_append_lies _ rfl _ _ 26 rfl w.heap.size 37 i0 _ 10 192 Try.underlying26 hi0 hz0 hz1 hz2 rfl (by decide) _ _ _ rfl HOWN.out ⟨wr.heap.size, 0, none⟩ 1 1 [x0, x1, x2, x3, x4, x5, x6, x7, x8, x9] rfl rfl ?c1 ?c2 (by decide) ?c3 ?c4 ?c5 (wr.heap.size + 1) ?c6 ?_))
      case c2 => simpa using HV1.out
      case c3 => unfold maxLen; omega
      case c4 => omega
      case c5 => omega
      intro g7 cap7 W7 hown hgrow hlies hlt7
      have HF := Lib.hid (HPU.out W7 g7 cap7 hown hgrow)
      clear hown hgrow hlies hlt7 HPU
      go_wp2_with fail
      go_roundw
      case rel => exact ⟨i + 1, by omega, by go_num, HF⟩
      case measure => simp [intOf]; omega
    · obtain rfl : i = ps.length := by omega
      have hfy := fewP_yes hl40 hfn
      have htk : (ps.map (·.inl)).take ps.length = ps.map (·.inl) := by rw [← List.length_map (f := fun p : PcT => p.inl), List.take_length]
      rw [htk] at hrep
      have hll : (ps.map (·.inl)).length = ps.length := List.length_map _
      have hokl : okL (ps.map (·.inl)) := okL_of _ fun t ht => by
        obtain ⟨p, hp, rfl⟩ := List.mem_map.1 ht
        exact (HOK.out p hp).1
      have HB2 : Hid (Below wr.heap.size wr (wr.alloc (.cells (lnB A3 ps.length c3) 49))) := Lib.hid ((Below.refl _ wr).alloc (Nat.le_refl _) _)
      have hSM := Lib.hid (t_Small (S := fun g => S g ∨ (w.heap.size ≤ g ∧ g < wr.heap.size)) (A := A3) (c := c3) (g := wr.heap.size) (vs := vs) (l := ps.map (·.inl)) (wr.alloc (.cells (lnB A3 ps.length c3) 49)) (hrep.keep (fun g hg => HB2.out.block g (Nat.lt_of_lt_of_le (HS.out g hg) hzw)) fun _ h => .inl h) (by
        rw [hll]
        exact (ReadsS.of_own hown).keep (fun g hg => HB2.out.block g hg.2) fun _ h => .inr h) (fun g hg => Nat.lt_of_lt_of_le (by
        rcases hg with hg | hg
        · exact Nat.lt_of_lt_of_le (HS.out g hg) hzw
        · exact hg.2) HB2.out.size) hokl (by rw [hll]; exact Blk.new wr _ _))
      rw [← hfy] at hSM
      have HB3 : Hid (Below w.heap.size w (wr.alloc (.cells (lnB A3 ps.length c3) 49))) := Lib.hid (hbw.alloc hzw _)
      clear hfn hrep hown hbw HI hfy hokl
      have hln : (#[.int .i64 0, .int .i64 0, .string ⟨#[]⟩, .string ⟨#[]⟩, .string ⟨#[]⟩, .string ⟨#[]⟩, .string ⟨#[]⟩, .slice none 0 0, .slice none 0 0, .slice A3 ps.length c3, .slice none 0 0] : Array Value) = lnB A3 ps.length c3 := rfl
      go_wp2_with (refine wpList_blSlice rfl (.tmp 38) rfl A3 ps.length c3 rfl ?_; generalize wr.alloc (.cells (lnB A3 ps.length c3) 49) = W3 at *)
      ((with_reducible refine hSM.out.mono ?_))
      rintro e W4 ⟨rfl, b4⟩
      have HF := Lib.hid (HB3.out.trans (b4.mono HB3.out.size))
      clear b4 hSM
      go_wp2_with fail
      go_ret
      exact ⟨rfl, HF.out⟩

end Go.Proofs.Ytfnloonmeilhlaa
namespace Go.Pub
def exP : List PcT := [plR ⟨#[42]⟩ 1 true false, plW ⟨#[97, 32]⟩, plR ⟨#[42]⟩ 2 true false, plW ⟨#[98]⟩, plR ⟨#[42]⟩ 3 false true]
theorem exP_nest : nestA exP = [kidT 6 [txtT 1 ⟨#[97, 32]⟩, kidT 7 [txtT 1 ⟨#[98]⟩]]] := by kernel_rfl
theorem exP_prs : (matchA exP).prs = [(2, 4, 2), (0, 4, 1)] := by decide +kernel
theorem exP_z : sumZ exP exP.length ≤ 30000 := by decide +kernel
theorem exP_inl : ∀ p ∈ exP, p.inl = txtT p.inl.kind p.inl.text := by
  intro p hp
  simp only [exP, List.mem_cons, List.not_mem_nil, or_false] at hp
  rcases hp with rfl | rfl | rfl | rfl | rfl <;> rfl
end Go.Pub
namespace Go.Proofs.Ytfnloonmeilhlaa
open Go.RowKit Go.Pub
set_option maxHeartbeats 4000000 in
set_option maxRecDepth 100000 in
theorem l_awake (w : World) : Calls Try.prog 10 #[] w fun e w' => e = .returned (.bool true) ∧ Below w.heap.size w w' := by
  have HP := Lib.hid fun (W : World) => e_Nest (W.alloc (.cells (plF exP) 39)) (pcs_new W exP exP_inl (by decide)) exP_z
  have HQ := Lib.hid fun (W W2 : World) (hb : Below (W.alloc (.cells (plF exP) 39)).heap.size (W.alloc (.cells (plF exP) 39)) W2) => e_Pairs W2 ((pcs_new W exP exP_inl (by decide)).keep (fun g hg => hb.block g hg) fun g hg => Nat.lt_of_lt_of_le hg hb.size) exP_z
  simp only [exP_nest, show exP.length = 5 from rfl] at HP
  simp only [exP_prs, show exP.length = 5 from rfl] at HQ
  go_enter Try.func10, Try.ntmps10
  go_wp2_with fail
  ((with_reducible refine (l_run _ _ _ _ _).mono ?_))
  rintro e w1 ⟨rfl, b1⟩
  have B1 := Lib.hid b1
  have z1 := b1.size
  clear b1
  go_wp2_with fail
  ((with_reducible refine (l_word _ _).mono ?_))
  rintro e w2 ⟨rfl, b2⟩
  have B2 := Lib.hid (B1.out.trans (b2.mono z1))
  have z2 := B2.out.size
  clear b2 B1 z1
  go_wp2_with fail
  ((with_reducible refine (l_run _ _ _ _ _).mono ?_))
  rintro e w3 ⟨rfl, b3⟩
  have B3 := Lib.hid (B2.out.trans (b3.mono z2))
  have z3 := B3.out.size
  clear b3 B2 z2
  go_wp2_with fail
  ((with_reducible refine (l_word _ _).mono ?_))
  rintro e w4 ⟨rfl, b4⟩
  have B4 := Lib.hid (B3.out.trans (b4.mono z3))
  have z4 := B4.out.size
  clear b4 B3 z3
  go_wp2_with fail
  ((with_reducible refine (l_run _ _ _ _ _).mono ?_))
  rintro e w5 ⟨rfl, b5⟩
  have B5 := Lib.hid (B4.out.trans (b5.mono z4))
  have z5 := B5.out.size
  clear b5 B4 z4
  have HB6 : Hid (Below w.heap.size w (w5.alloc (.cells (plF exP) 39))) := Lib.hid (B5.out.alloc z5 _)
  have hfl : plF [plR ⟨#[42]⟩ 1 true false, plW ⟨#[97, 32]⟩, plR ⟨#[42]⟩ 2 true false, plW ⟨#[98]⟩, plR ⟨#[42]⟩ 3 false true] = plF exP := rfl
  have hz6 : (w5.alloc (.cells (plF exP) 39)).heap.size = w5.heap.size + 1 := by simp
  have HPW := Lib.hid (HP.out w5)
  have HQW := Lib.hid (HQ.out w5)
  clear HP HQ
  go_wp2_with (refine wpList_pcs5 rfl _ _ _ _ _ rfl (plR ⟨#[42]⟩ 1 true false) (plW ⟨#[97, 32]⟩) (plR ⟨#[42]⟩ 2 true false) (plW ⟨#[98]⟩) (plR ⟨#[42]⟩ 3 false true) rfl rfl rfl rfl rfl ?_; rw [hfl]; generalize w5.alloc (.cells (plF exP) 39) = w6 at *)
  ((with_reducible refine HPW.out.mono ?_))
  rintro e w7 ⟨A, c, vs, rfl, hr, hm, b7⟩
  obtain ⟨b, off, rfl, hb, q1, q2, A5, c5, vs5, q3, hr5, hm5⟩ := hr.look hm 0 (by decide)
  obtain ⟨bb, oo, rfl, hb2, p1, p2, -⟩ := hr5.look hm5 0 (by decide)
  obtain ⟨bb', oo', e', -, p3, -⟩ := hr5.look hm5 1 (by decide)
  injection e' with e'
  injection e' with e1 e2
  subst e1 e2
  clear hr hm hr5 hm5
  have HPP := Lib.hid (HQW.out w7 b7)
  have B7 := Lib.hid (HB6.out.trans (b7.mono HB6.out.size))
  have z7 := B7.out.size
  have HK : Hid (∀ w8 : World, Below w7.heap.size w7 w8 → w8.cell? ⟨b, off, none⟩ = some (.int .i64 6) ∧ w8.cell? ⟨b, off + 9, none⟩ = some (.slice (some ⟨bb, oo, none⟩) 2 c5) ∧ w8.cell? ⟨bb, oo + 1, none⟩ = some (.string ⟨#[97, 32]⟩) ∧ w8.cell? ⟨bb, oo + 10, none⟩ = some (.int .i64 7)) := Lib.hid fun w8 h8 =>
    ⟨(h8.cell (p := ⟨b, off, none⟩) hb.2).trans q1, (h8.cell (p := ⟨b, off + 9, none⟩) hb.2).trans q3, (h8.cell (p := ⟨bb, oo + 1, none⟩) hb2.2).trans p2, (h8.cell (p := ⟨bb, oo + 10, none⟩) hb2.2).trans p3⟩
  clear q1 q2 q3 p1 p2 p3 b7 HPW HQW
  go_wp2_with fail
  ((with_reducible refine HPP.out.mono ?_))
  rintro e w8 ⟨A8, c8, rfl, hm8, b8⟩
  obtain ⟨k1, k2, k3, k4⟩ := HK.out w8 b8
  obtain ⟨b9, o9, rfl, hb9, hc9⟩ := hm8.row (by decide) (by decide)
  have HB8 := Lib.hid (B7.out.trans (b8.mono z7))
  have r0 : w8.cell? ⟨b9, o9, none⟩ = some (.int .i64 2) := hc9 0 _ rfl
  have r1 : w8.cell? ⟨b9, o9 + 1, none⟩ = some (.int .i64 4) := hc9 1 _ rfl
  have r2 : w8.cell? ⟨b9, o9 + 2, none⟩ = some (.int .i64 2) := hc9 2 _ rfl
  have r3 : w8.cell? ⟨b9, o9 + 3, none⟩ = some (.int .i64 0) := hc9 3 _ rfl
  have r4 : w8.cell? ⟨b9, o9 + 3 + 1, none⟩ = some (.int .i64 4) := hc9 4 _ rfl
  have r5 : w8.cell? ⟨b9, o9 + 3 + 2, none⟩ = some (.int .i64 1) := hc9 5 _ rfl
  have he1 : ∀ W, Sem.run Try.prog (Op.equalIn 10000 30 (Value.agg #[.int .i64 2, .int .i64 4, .int .i64 2]) (Value.agg #[.int .i64 2, .int .i64 4, .int .i64 2])) W = .ok true W := fun _ => by kernel_rfl
  have he2 : ∀ W, Sem.run Try.prog (Op.equalIn 10000 30 (Value.agg #[.int .i64 0, .int .i64 4, .int .i64 1]) (Value.agg #[.int .i64 0, .int .i64 4, .int .i64 1])) W = .ok true W := fun _ => by kernel_rfl
  clear hm8 hc9 b8 HK HPP
  go_wp2_with fail
  go_ret
  exact ⟨rfl, HB8.out⟩

end Go.Proofs.Ytfnloonmeilhlaa
namespace Go.Pub
open Go.RowKit
theorem trips_at : ∀ (l : List (Nat × Nat × Nat)) (k : Nat) (h : k < l.length), (trips l)[k * 3]? = some (.int .i64 l[k].1) ∧ (trips l)[k * 3 + 1]? = some (.int .i64 l[k].2.1) ∧ (trips l)[k * 3 + 2]? = some (.int .i64 l[k].2.2)
  | x :: l, 0, _ => ⟨rfl, rfl, rfl⟩
  | x :: l, k + 1, h => by
    have := trips_at l k (by simpa using h)
    rw [show (k + 1) * 3 = k * 3 + 1 + 1 + 1 by omega]
    exact this
/-- The cells of a match. -/
theorem trips_cell {w : World} {S : Nat → Prop} {A : Option Addr} {l : List (Nat × Nat × Nat)} (h : ReadsS w S 3 A l.length (trips l)) (i : Nat) (hi : i < l.length) : ∃ b off, A = some ⟨b, off, none⟩ ∧ S b ∧ w.cell? ⟨b, off + i * 3, none⟩ = some (.int .i64 l[i].1) ∧ w.cell? ⟨b, off + i * 3 + 1, none⟩ = some (.int .i64 l[i].2.1) ∧ w.cell? ⟨b, off + i * 3 + 2, none⟩ = some (.int .i64 l[i].2.2) := by
  obtain ⟨b, off, e, hb, hc⟩ := h.row (by omega) (by decide)
  obtain ⟨e0, e1, e2⟩ := trips_at l i hi
  exact ⟨b, off, e, hb, hc _ _ e0, by rw [Nat.add_assoc]; exact hc _ _ e1, by rw [Nat.add_assoc]; exact hc _ _ e2⟩
end Go.Pub
namespace Go.Proofs.Ytfnloonmeilhlaa
open Go.RowKit Go.Pub
end Go.Proofs.Ytfnloonmeilhlaa
namespace Go.Pub
open Go.RowKit
theorem sizeI_set (x : InT) (s : List UInt8) : sizeI (setTxt x s) + x.text.toList.length = sizeI x + s.length := by
  obtain ⟨k, t, d, ti, a, ar, c, ks⟩ := x
  show sizeI (.mk k ⟨s.toArray⟩ d ti a ar c ks) + t.toList.length = _
  rw [sizeI, sizeI]
  have h1 : (⟨s.toArray⟩ : ByteArray).size = s.length := by show s.toArray.size = _; simp
  have h2 : t.toList.length = t.size := by rw [Lib.toList_data]; exact Array.length_toList
  omega
theorem sizeI_text (x : InT) : 1 + x.text.toList.length ≤ sizeI x := by
  obtain ⟨k, t, d, ti, a, ar, c, ks⟩ := x
  rw [sizeI]
  have h2 : t.toList.length = t.size := by rw [Lib.toList_data]; exact Array.length_toList
  show 1 + t.toList.length ≤ _
  omega
theorem sizeL_cons (x : InT) (l : List InT) : sizeL (x :: l) = sizeI x + sizeL l := by rw [sizeL]
theorem sizeL_join : ∀ l : List InT, sizeL (joinT l) ≤ sizeL l
  | [] => Nat.le_refl _
  | x :: l => by
    have ih := sizeL_join l
    rw [sizeL_cons]
    by_cases hk : x.kind = 1
    · by_cases ht : x.text.toList = []
      · rw [joinT_empty hk ht]; omega
      · rw [joinT_cons, if_neg (by simp [hk]), if_neg ht]
        cases hj : joinT l with
        | nil => dsimp only; rw [sizeL_cons]; show sizeI x + sizeL [] ≤ _; rw [sizeL]; omega
        | cons y r =>
          rw [hj, sizeL_cons] at ih
          dsimp only
          split
          · rw [sizeL_cons]
            have h1 := sizeI_set x (x.text.toList ++ y.text.toList)
            rw [List.length_append] at h1
            have h2 := sizeI_text y
            omega
          · rw [sizeL_cons, sizeL_cons]; omega
    · rw [joinT_no hk, sizeL_cons]; omega
mutual
theorem sizeI_merge : ∀ x : InT, sizeI (mergeI x) ≤ sizeI x
  | .mk k t d ti a ar c kids => by
    rw [mergeI, sizeI, sizeI]
    have h1 := sizeL_join (mapI kids)
    have h2 := sizeL_map kids
    omega
theorem sizeL_map : ∀ l : List InT, sizeL (mapI l) ≤ sizeL l
  | [] => by rw [mapI]; exact Nat.le_refl _
  | x :: l => by
    rw [mapI, sizeL_cons, sizeL_cons]
    have h1 := sizeI_merge x
    have h2 := sizeL_map l
    omega
end
theorem sizeL_merge (l : List InT) : sizeL (mergeL l) ≤ sizeL l := Nat.le_trans (sizeL_join _) (sizeL_map l)
theorem sizeL_nest (ps : List PcT) : sizeL (nestA ps) ≤ sumZ ps ps.length := by
  obtain ⟨ids, hM, hs⟩ : ∃ ids, MatI ps ps.length (matchA ps) ids ∧ sizeL (inlsA ps (matchA ps) ids) ≤ sumZ ps ps.length := size_match ps ps.length (Nat.le_refl _)
  have hR := hM.em.ring
  have hl := hR.len
  refine Nat.le_trans ?_ hs
  show sizeL (mergeL (betF ps _ 0 _ _)) ≤ _
  rw [betF_eq ids 0 _ hR.link (fun i hi e => (List.nodup_cons.1 hR.nd).1 (e ▸ hi)) (by omega)]
  exact sizeL_merge _
theorem plnI_bd {x : InT} (hb : badI x = false) : (plnI x).length ≤ 300 + (plnL x.kids).length := by
  obtain ⟨k, t, d, ti, a, ar, c, ks⟩ := x
  unfold badI at hb
  simp only [Bool.or_eq_false_iff, decide_eq_false_iff_not, Nat.not_lt] at hb
  have h1 : t.toList.length = t.size := by rw [Lib.toList_data]; exact Array.length_toList
  have h2 : d.toList.length = d.size := by rw [Lib.toList_data]; exact Array.length_toList
  rw [plnI]
  show _ ≤ 300 + (plnL ks).length
  have := hb.1
  split
  · omega
  · split
    · simp; omega
    · split
      · omega
      · split
        · omega
        · simp
theorem wgtL_pl (g : List InT → Nat) (hg : ∀ l, g l < 1000 → (plnL l).length ≤ 300 * g l) : ∀ (l : List InT) (n : Nat), wgtL g n l < 1000 → n ≤ wgtL g n l ∧ (plnL l).length ≤ 300 * (wgtL g n l - n) + 300 * l.length
  | [], n, _ => by unfold wgtL; exact ⟨Nat.le_refl _, by rw [plnL]; simp⟩
  | x :: l, n, h => by
    unfold wgtL at h ⊢
    by_cases h1 : 1000 ≤ n
    · rw [if_pos h1] at h; omega
    · rw [if_neg h1] at h ⊢
      by_cases h2 : badI x = true
      · rw [if_pos h2] at h; omega
      · rw [if_neg h2] at h ⊢
        obtain ⟨a1, a2⟩ := wgtL_pl g hg l _ h
        have a3 := hg x.kids (by omega)
        have a4 := plnI_bd (x := x) (by simpa using h2)
        refine ⟨by omega, ?_⟩
        rw [plnL_cons, List.length_append, List.length_cons]
        omega
theorem wgtF_pl : ∀ (f : Nat) (l : List InT), wgtF f l < 1000 → (plnL l).length ≤ 300 * wgtF f l
  | 0, l, h => by unfold wgtF at h; omega
  | f + 1, l, h => by
    unfold wgtF at h ⊢
    by_cases h1 : 200 < l.length
    · rw [if_pos h1] at h; omega
    · rw [if_neg h1] at h ⊢
      obtain ⟨a1, a2⟩ := wgtL_pl (wgtF f) (wgtF_pl f) l l.length h
      omega
theorem few_pl {ps : List PcT} (h : fewP ps = true) : (plnL (ps.map (·.inl))).length ≤ 35700 := by
  unfold fewP at h
  simp only [Bool.and_eq_true, decide_eq_true_eq, List.all_eq_true] at h
  have := wgtF_pl 21 (ps.map (·.inl)) (by omega)
  omega
theorem catG_len {ps : List PcT} (h : ∀ i, i < ps.length → (pcX ps i).n ≤ 40) (prs : List (Nat × Nat × Nat)) : ∀ k, k ≤ ps.length → (catG (gPc ps prs) 0 k).length ≤ (plnL ((ps.map (·.inl)).take k)).length + 40 * k
  | 0, _ => by rw [catG_self]; simp
  | k + 1, hk => by
    have h1 := catG_len h prs k (by omega)
    have hl : k < (ps.map (·.inl)).length := by rw [List.length_map]; omega
    rw [catG_app (m := k) (by omega) (by omega), catG_one, plnL_take hl, List.length_append, List.length_append, List.getElem_map, ← pcX_get (by omega)]
    have h2 : (gPc ps prs k).length ≤ 40 + (plnI (pcX ps k).inl).length := by
      unfold gPc
      split
      · rename_i hr
        rw [repB_len (runP_size hr)]
        have := h k (by omega)
        omega
      · split
        · omega
        · simp
    omega
theorem plnL_sub {l : List InT} {i : Nat} (h : i ≤ l.length) : (plnL (l.take i)).length ≤ (plnL l).length := by
  have h1 := plnL_app (l.take i) (l.drop i)
  rw [List.take_append_drop] at h1
  rw [h1, List.length_append]; omega
end Go.Pub
namespace Go.Proofs.Ytfnloonmeilhlaa
open Go.RowKit Go.Pub
set_option maxRecDepth 100000 in
set_option maxHeartbeats 2000000 in
theorem l_valid (kind n : Int) (x1 x2 x3 x4 x5 x6 x7 x8 x9 x10 : Value) (ch : ByteArray) (o c i : Bool) (a b : Int) (w : World) (hn : n ≤ 262144) :
    Calls Try.prog 17 #[.agg #[.int .i64 kind, x1, x2, x3, x4, x5, x6, x7, x8, x9, x10, .string ch, .int .i64 n, .bool o, .bool c, .bool i, .int .i64 a, .int .i64 b]] w (BoolP (runBit kind ch n) w) := by
  have HE : Hid (runBit kind ch n = (decide (kind = 1) && (((decide (ch.toList = [42]) || decide (ch.toList = [95])) && decide (1 ≤ n)) || (decide (ch.toList = [126]) && decide (n = 2))))) := Lib.hid (by unfold runBit; rw [decide_eq_true hn, Bool.and_true])
  generalize runBit kind ch n = R at *
  clear hn
  have HB : Hid (Below w.heap.size w (w.alloc (.cells #[.int .i64 kind, x1, x2, x3, x4, x5, x6, x7, x8, x9, x10, .string ch, .int .i64 n, .bool o, .bool c, .bool i, .int .i64 a, .int .i64 b] 39))) := Lib.hid ((Below.refl _ w).alloc (Nat.le_refl _) _)
  have hbk := Blk.new w 39 #[.int .i64 kind, x1, x2, x3, x4, x5, x6, x7, x8, x9, x10, .string ch, .int .i64 n, .bool o, .bool c, .bool i, .int .i64 a, .int .i64 b]
  have c0 : (w.alloc (.cells #[.int .i64 kind, x1, x2, x3, x4, x5, x6, x7, x8, x9, x10, .string ch, .int .i64 n, .bool o, .bool c, .bool i, .int .i64 a, .int .i64 b] 39)).cell? ⟨w.heap.size, 0, none⟩ = some (.int .i64 kind) := hbk.cell 0
  have c1 : (w.alloc (.cells #[.int .i64 kind, x1, x2, x3, x4, x5, x6, x7, x8, x9, x10, .string ch, .int .i64 n, .bool o, .bool c, .bool i, .int .i64 a, .int .i64 b] 39)).cell? ⟨w.heap.size, 11, none⟩ = some (.string ch) := hbk.cell 11
  have c2 : (w.alloc (.cells #[.int .i64 kind, x1, x2, x3, x4, x5, x6, x7, x8, x9, x10, .string ch, .int .i64 n, .bool o, .bool c, .bool i, .int .i64 a, .int .i64 b] 39)).cell? ⟨w.heap.size, 12, none⟩ = some (.int .i64 n) := hbk.cell 12
  clear hbk
  go_enter Try.func17, Try.ntmps17
  by_cases hk : kind = 1
  · subst hk
    by_cases h1 : ch.toList = [42]
    · have q1 : (ch.toList == [42]) = true := beq_iff_eq.2 h1
      have q3 : (ch.toList == [126]) = false := by rw [h1]; decide
      by_cases h2 : 1 ≤ n
      · have d1 : decide (n ≥ 1) = true := decide_eq_true h2
        have hE : R = true := by rw [HE.out, h1]; simp [h2]
        subst hE
        clear h1 HE
        go_wp2_with fail
        go_ret
        exact ⟨rfl, HB.out⟩
      · have d1 : decide (n ≥ 1) = false := decide_eq_false h2
        have hE : R = false := by rw [HE.out, h1]; simp [h2]
        subst hE
        clear h1 HE
        go_wp2_with fail
        go_ret
        exact ⟨rfl, HB.out⟩
    have q1 : (ch.toList == [42]) = false := beq_eq_false_iff_ne.2 h1
    by_cases h1' : ch.toList = [95]
    · have q2 : (ch.toList == [95]) = true := beq_iff_eq.2 h1'
      have q3 : (ch.toList == [126]) = false := by rw [h1']; decide
      by_cases h2 : 1 ≤ n
      · have d1 : decide (n ≥ 1) = true := decide_eq_true h2
        have hE : R = true := by rw [HE.out, h1']; simp [h2]
        subst hE
        clear h1 h1' HE
        go_wp2_with fail
        go_ret
        exact ⟨rfl, HB.out⟩
      · have d1 : decide (n ≥ 1) = false := decide_eq_false h2
        have hE : R = false := by rw [HE.out, h1']; simp [h2]
        subst hE
        clear h1 h1' HE
        go_wp2_with fail
        go_ret
        exact ⟨rfl, HB.out⟩
    have q2 : (ch.toList == [95]) = false := beq_eq_false_iff_ne.2 h1'
    by_cases h3 : ch.toList = [126]
    · have q3 : (ch.toList == [126]) = true := beq_iff_eq.2 h3
      by_cases h2 : n = 2
      · have hE : R = true := by rw [HE.out, h3]; simp [h2]
        subst hE
        subst h2
        clear h1 h1' h3 HE
        go_wp2_with fail
        go_ret
        exact ⟨rfl, HB.out⟩
      · have d2 : (n == 2) = false := beq_eq_false_iff_ne.2 h2
        have hE : R = false := by rw [HE.out, h3]; simp [h2]
        subst hE
        clear h1 h1' h3 HE
        go_wp2_with fail
        go_ret
        exact ⟨rfl, HB.out⟩
    · have q3 : (ch.toList == [126]) = false := beq_eq_false_iff_ne.2 h3
      have hE : R = false := by rw [HE.out]; simp [h1, h1', h3]
      subst hE
      clear h1 h1' h3 HE
      go_wp2_with fail
      go_ret
      exact ⟨rfl, HB.out⟩
  · have hE : R = false := by rw [HE.out]; simp [hk]
    have q0 : (kind == 1) = false := beq_eq_false_iff_ne.2 hk
    subst hE
    clear HE
    go_wp2_with fail
    go_ret
    exact ⟨rfl, HB.out⟩

end Go.Proofs.Ytfnloonmeilhlaa
