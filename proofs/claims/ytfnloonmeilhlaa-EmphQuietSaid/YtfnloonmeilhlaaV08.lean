/-
  Texts of the proof, put together (what this law reaches): EmCA, EmPB, EmSB, EmSC, EmSD, EmLC, EmPC, EmTE, EmQA.
-/
import Derived.Test.YtfnloonmeilhlaaV07
import Derived.Test.YtfnloonmeilhlaaV06
import Derived.Test.YtfnloonmeilhlaaV04
import Derived.BigQuiet
import Derived.Deep.RegionHeld3
set_option linter.unusedVariables false
set_option linter.unusedSimpArgs false
namespace Go.Pub
open Go.RowKit
theorem wgtL_sz (g : List InT → Nat) (hg : ∀ l, g l < 1000 → sizeL l ≤ 399 * g l) : ∀ (l : List InT) (n : Nat), wgtL g n l < 1000 → n ≤ wgtL g n l ∧ sizeL l ≤ 399 * (wgtL g n l - n) + 399 * l.length
  | [], n, _ => by unfold wgtL; exact ⟨Nat.le_refl _, by rw [sizeL]; omega⟩
  | x :: l, n, h => by
    unfold wgtL at h ⊢
    by_cases h1 : 1000 ≤ n
    · rw [if_pos h1] at h; omega
    · rw [if_neg h1] at h ⊢
      by_cases h2 : badI x = true
      · rw [if_pos h2] at h; omega
      · rw [if_neg h2] at h ⊢
        obtain ⟨a1, a2⟩ := wgtL_sz g hg l _ h
        have a3 := hg x.kids (by omega)
        have a4 : sizeI x ≤ 399 + sizeL x.kids := by
          obtain ⟨k, t, d, ti, a, ar, c, ks⟩ := x
          unfold badI longA at h2
          simp only [Bool.or_eq_true, decide_eq_true_eq, not_or, Nat.not_lt] at h2
          obtain ⟨b1, ⟨b2, b3, -⟩, b4, b5⟩ := h2
          rw [sizeI]
          show _ ≤ 399 + sizeL ks
          omega
        refine ⟨by omega, ?_⟩
        rw [sizeL, List.length_cons]
        omega
theorem wgtF_sz : ∀ (f : Nat) (l : List InT), wgtF f l < 1000 → sizeL l ≤ 399 * wgtF f l
  | 0, l, h => by unfold wgtF at h; omega
  | f + 1, l, h => by
    unfold wgtF at h ⊢
    by_cases h1 : 200 < l.length
    · rw [if_pos h1] at h; omega
    · rw [if_neg h1] at h ⊢
      obtain ⟨a1, a2⟩ := wgtL_sz (wgtF f) (wgtF_sz f) l l.length h
      omega
theorem pcX_get {ps : List PcT} {i : Nat} (hi : i < ps.length) : pcX ps i = ps[i] := by
  unfold pcX; rw [List.getD_eq_getElem?_getD, List.getElem?_eq_getElem hi]; rfl
/-- What few pieces are. -/
theorem few_bd {ps : List PcT} (h : fewP ps = true) : ps.length ≤ 40 ∧ (∀ i, i < ps.length → (pcX ps i).ch.size ≤ 9 ∧ (pcX ps i).n ≤ 40) ∧ sizeL (ps.map (·.inl)) ≤ 47481 := by
  unfold fewP at h
  simp only [Bool.and_eq_true, decide_eq_true_eq, List.all_eq_true] at h
  obtain ⟨h1, h2, h3⟩ := h
  refine ⟨h1, fun i hi => ?_, ?_⟩
  · rw [pcX_get hi]; exact h2 _ (List.getElem_mem hi)
  · have := wgtF_sz 21 (ps.map (·.inl)) (by omega)
    omega
theorem sumN_few {ps : List PcT} (h : ∀ i, i < ps.length → (pcX ps i).n ≤ 40) : ∀ k, k ≤ ps.length → sumN ps k ≤ 40 * k
  | 0, _ => Nat.le_refl _
  | k + 1, hk => by
    have h1 := sumN_few h k (by omega)
    have h2 := h k (by omega)
    show sumN ps k + (if runP (pcX ps k) = true then _ else 0) ≤ _
    split <;> omega
theorem sizeL_take (l : List InT) {k : Nat} (h : k < l.length) : sizeL (l.take (k + 1)) = sizeL (l.take k) + sizeI l[k] := by
  rw [List.take_succ_eq_append_getElem h, sizeL_app, sizeL_one]
theorem sumZ_few {ps : List PcT} (h : ∀ i, i < ps.length → (pcX ps i).n ≤ 40) : ∀ k, k ≤ ps.length → sumZ ps k ≤ sizeL ((ps.map (·.inl)).take k) + 41 * k
  | 0, _ => Nat.zero_le _
  | k + 1, hk => by
    have h1 := sumZ_few h k (by omega)
    have h2 := h k (by omega)
    have hl : k < (ps.map (·.inl)).length := by rw [List.length_map]; omega
    rw [sizeL_take _ hl, List.getElem_map, ← pcX_get (by omega)]
    show sumZ ps k + pcZ _ ≤ _
    unfold pcZ
    omega
theorem few_sums {ps : List PcT} (h : fewP ps = true) : ps.length ≤ 40 ∧ sumN ps ps.length ≤ 1600 ∧ sumZ ps ps.length ≤ 50000 := by
  obtain ⟨h1, h2, h3⟩ := few_bd h
  have h4 := sumN_few (fun i hi => (h2 i hi).2) ps.length (Nat.le_refl _)
  have h5 := sumZ_few (fun i hi => (h2 i hi).2) ps.length (Nat.le_refl _)
  have h6 : (ps.map (·.inl)).take ps.length = ps.map (·.inl) := by rw [← List.length_map (f := fun p : PcT => p.inl), List.take_length]
  rw [h6] at h5
  omega
/-- A match does not cross another one. -/
def NoX (s t : Nat × Nat × Nat) : Prop := s.1 < t.1 → (t.1 < s.2.1 ∧ t.2.1 ≤ s.2.1) ∨ s.2.1 ≤ t.1
structure CrI (k : Nat) (st : EmS) (ids : List Nat) : Prop where
  fit : ∀ t ∈ st.prs, t.1 < t.2.1 ∧ t.2.1 < k ∧ 1 ≤ t.2.2 ∧ t.2.2 ≤ 2
  nox : ∀ s ∈ st.prs, ∀ t ∈ st.prs, NoX s t
  out : ∀ x ∈ ids, runX st.xs x = true → pX st.xs x < k ∧ ∀ t ∈ st.prs, pX st.xs x ≤ t.1 ∨ t.2.1 ≤ pX st.xs x
  asc : ids.Pairwise fun a b => runX st.xs a = true → runX st.xs b = true → pX st.xs a < pX st.xs b
theorem CrI.congr {k : Nat} {st st' : EmS} {ids : List Nat} (h : CrI k st ids) (hp : st'.prs = st.prs) (he : ∀ x ∈ ids, runX st'.xs x = runX st.xs x ∧ pX st'.xs x = pX st.xs x) : CrI k st' ids :=
  ⟨by rw [hp]; exact h.fit, by rw [hp]; exact h.nox, fun x hx hr => by
    rw [(he x hx).1] at hr
    rw [(he x hx).2, hp]
    exact h.out x hx hr, h.asc.imp_of_mem fun ha hb hab r1 r2 => by
    rw [(he _ ha).1] at r1
    rw [(he _ hb).1] at r2
    rw [(he _ ha).2, (he _ hb).2]
    exact hab r1 r2⟩
theorem CrI.snoc {k y : Nat} {st : EmS} {ids : List Nat} (h : CrI k st ids) (hy : runX st.xs y = true → pX st.xs y = k) : CrI (k + 1) st (ids ++ [y]) := by
  refine ⟨fun t ht => by have := h.fit t ht; omega, h.nox, fun x hx hr => ?_, ?_⟩
  · rw [List.mem_append, List.mem_singleton] at hx
    rcases hx with hx | rfl
    · exact ⟨by have := (h.out x hx hr).1; omega, (h.out x hx hr).2⟩
    · rw [hy hr]
      exact ⟨by omega, fun t ht => .inr (by have := h.fit t ht; omega)⟩
  · rw [List.pairwise_append]
    refine ⟨h.asc, List.pairwise_singleton _ _, fun a ha b hb r1 r2 => ?_⟩
    rw [List.mem_singleton] at hb
    subst hb
    rw [hy r2]
    exact (h.out a ha r1).1
end Go.Pub
namespace Go.Pub
open Go.RowKit
/-- What the parts from a up to b give. -/
def catG (g : Nat → List UInt8) (a b : Nat) : List UInt8 := (List.range' a (b - a)).flatMap g
section
variable {g g' F F' : Nat → List UInt8} {a b m : Nat}
theorem catG_self : catG g a a = [] := by unfold catG; rw [Nat.sub_self]; rfl
theorem catG_app (h1 : a ≤ m) (h2 : m ≤ b) : catG g a b = catG g a m ++ catG g m b := by
  unfold catG
  rw [← List.flatMap_append]
  congr 1
  have := List.range'_append_1 (s := a) (m := m - a) (n := b - m)
  rw [show a + (m - a) = m by omega, show m - a + (b - m) = b - a by omega] at this
  exact this.symm
theorem catG_congr (h : ∀ i, a ≤ i → i < b → g i = g' i) : catG g a b = catG g' a b := by
  unfold catG
  rw [List.flatMap_def, List.flatMap_def]
  congr 1
  refine List.map_congr_left fun i hi => ?_
  rw [List.mem_range'_1] at hi
  exact h i hi.1 (by omega)
/-- Elements cover the parts from a up to b, in order; runs cover one part each. -/
def Cov (g F : Nat → List UInt8) (pos : Nat → Option Nat) : List Nat → Nat → Nat → Prop
  | [], a, b => a ≤ b ∧ catG g a b = []
  | x :: r, a, b => ∃ lo hi, a ≤ lo ∧ lo ≤ hi ∧ catG g a lo = [] ∧ catG g lo hi = F x ∧ (∀ q, pos x = some q → lo = q ∧ hi = q + 1) ∧ Cov g F pos r hi b
theorem Cov.le {pos : Nat → Option Nat} : ∀ {l : List Nat} {a b : Nat}, Cov g F pos l a b → a ≤ b
  | [], _, _, h => h.1
  | x :: r, _, _, ⟨lo, hi, h1, h2, _, _, _, h6⟩ => by have := h6.le; omega
theorem Cov.gap {pos : Nat → Option Nat} (h1 : a ≤ m) (h2 : catG g a m = []) : ∀ {l : List Nat} {b : Nat}, Cov g F pos l m b → Cov g F pos l a b
  | [], b, h => ⟨by have := h.1; omega, by rw [catG_app h1 h.1, h2, h.2]; rfl⟩
  | x :: r, b, ⟨lo, hi, g1, g2, g3, g4, g5, g6⟩ => ⟨lo, hi, by omega, g2, by rw [catG_app h1 g1, h2, g3]; rfl, g4, g5, g6⟩
theorem Cov.app {pos : Nat → Option Nat} : ∀ {l r : List Nat} {a b : Nat}, Cov g F pos (l ++ r) a b → ∃ m, Cov g F pos l a m ∧ Cov g F pos r m b
  | [], r, a, b, h => ⟨a, ⟨Nat.le_refl _, catG_self⟩, h⟩
  | x :: l, r, a, b, ⟨lo, hi, g1, g2, g3, g4, g5, g6⟩ => by
    obtain ⟨m, h1, h2⟩ := Cov.app g6
    exact ⟨m, ⟨lo, hi, g1, g2, g3, g4, g5, h1⟩, h2⟩
theorem Cov.join {pos : Nat → Option Nat} : ∀ {l r : List Nat} {a m b : Nat}, Cov g F pos l a m → Cov g F pos r m b → Cov g F pos (l ++ r) a b
  | [], r, a, m, b, h1, h2 => Cov.gap h1.1 h1.2 h2
  | x :: l, r, a, m, b, ⟨lo, hi, g1, g2, g3, g4, g5, g6⟩, h2 => ⟨lo, hi, g1, g2, g3, g4, g5, Cov.join g6 h2⟩
theorem Cov.congr {pos pos' : Nat → Option Nat} : ∀ {l : List Nat} {a b : Nat}, Cov g F pos l a b → (∀ i, a ≤ i → i < b → g' i = g i) → (∀ x ∈ l, F' x = F x ∧ pos' x = pos x) → Cov g' F' pos' l a b
  | [], a, b, h, hg, hx => ⟨h.1, by rw [catG_congr hg]; exact h.2⟩
  | x :: r, a, b, ⟨lo, hi, g1, g2, g3, g4, g5, g6⟩, hg, hx => by
    have g7 := g6.le
    refine ⟨lo, hi, g1, g2, ?_, ?_, ?_, Cov.congr g6 (fun i h1 h2 => hg i (by omega) h2) fun y hy => hx y (List.mem_cons_of_mem _ hy)⟩
    · rw [catG_congr (g' := g) fun i h1 h2 => hg i h1 (by omega)]; exact g3
    · rw [catG_congr (g' := g) fun i h1 h2 => hg i (by omega) (by omega), (hx x (by simp)).1]; exact g4
    · rw [(hx x (by simp)).2]; exact g5
end
end Go.Pub
namespace Go.Pub
open Go.RowKit
theorem sumS_drop {l : List ByteArray} {i : Nat} (h : i < l.length) : sumS (l.drop i) = l[i].size + sumS (l.drop (i + 1)) := by
  rw [List.drop_eq_getElem_cons h]; rfl
theorem sumP_drop {l : List (ByteArray × ByteArray)} {i : Nat} (h : i < l.length) : sumP (l.drop i) = l[i].1.size + l[i].2.size + sumP (l.drop (i + 1)) := by
  rw [List.drop_eq_getElem_cons h]; rfl
theorem strs_at' (l : List ByteArray) (k : Nat) (h : k < l.length) : (strs l)[k]? = some (.string l[k]) := by
  unfold strs; rw [List.getElem?_map, List.getElem?_eq_getElem h]; rfl
theorem prs_at' : ∀ (l : List (ByteArray × ByteArray)) (k : Nat) (h : k < l.length), (prs l)[k * 2]? = some (.string l[k].1) ∧ (prs l)[k * 2 + 1]? = some (.string l[k].2)
  | x :: l, 0, _ => ⟨rfl, rfl⟩
  | x :: l, k + 1, h => by
    have := prs_at' l k (by simpa using h)
    rw [show (k + 1) * 2 = k * 2 + 1 + 1 by omega]
    exact this
def BoolP (b : Bool) (w : World) (e : Ending) (w' : World) : Prop := e = .returned (.bool b) ∧ Below w.heap.size w w'
end Go.Pub
namespace Go.Proofs.Ytfnloonmeilhlaa
open Go.RowKit Go.Pub
set_option maxHeartbeats 4000000 in
set_option maxRecDepth 100000 in
theorem t_long {S : Nat → Prop} {A1 A2 : Option Addr} {c1 c2 : Nat} {a : AttrL} (w : World) (h1 : ReadsS w S 1 A1 a.cl.length (strs a.cl)) (h2 : ReadsS w S 2 A2 a.pr.length (prs a.pr)) (hS : ∀ g, S g → g < w.heap.size) (ho : OkA a) :
    Calls Try.prog 45 #[.agg #[.string a.id, .slice A1 a.cl.length c1, .slice A2 a.pr.length c2]] w (BoolP (longA a) w) := by
  obtain ⟨id, cl, pr⟩ := a
  obtain ⟨o1, o2, o3⟩ := ho
  have o1 : id.size ≤ reachBytes := o1
  have o2 : ∀ s ∈ cl, s.size ≤ reachBytes := o2
  have o3 : ∀ x ∈ pr, x.1.size ≤ reachBytes ∧ x.2.size ≤ reachBytes := o3
  have HR1 : Hid (∀ i (hi : i < cl.length), ∃ b off, A1 = some ⟨b, off, none⟩ ∧ b < w.heap.size ∧ w.cell? ⟨b, off + i, none⟩ = some (.string cl[i])) := Lib.hid fun i hi => by
    obtain ⟨b, off, e, hb, hc⟩ := h1.row (by show 0 < cl.length; omega) (by decide)
    exact ⟨b, off, e, hS b hb, hc i _ (strs_at' cl i hi)⟩
  have HR2 : Hid (∀ i (hi : i < pr.length), ∃ b off, A2 = some ⟨b, off, none⟩ ∧ b < w.heap.size ∧ w.cell? ⟨b, off + i * 2, none⟩ = some (.string pr[i].1) ∧ w.cell? ⟨b, off + i * 2 + 1, none⟩ = some (.string pr[i].2)) := Lib.hid fun i hi => by
    obtain ⟨b, off, e, hb, hc⟩ := h2.row (by show 0 < pr.length; omega) (by decide)
    exact ⟨b, off, e, hS b hb, hc (i * 2) _ (prs_at' pr i hi).1, by rw [Nat.add_assoc]; exact hc (i * 2 + 1) _ (prs_at' pr i hi).2⟩
  have HL : Hid (longA ⟨id, cl, pr⟩ = (decide (40 < cl.length) || (decide (40 < pr.length) || decide (600 < id.size + sumS cl + sumP pr)))) := Lib.hid rfl
  have hs1 := sumS_le cl _ o2
  have hs2 := sumP_le pr _ o3
  clear h1 h2 hS o2 o3
  unfold reachBytes at *
  have hbx : Below w.heap.size w (w.alloc (.cells #[.string id, .slice A1 cl.length c1, .slice A2 pr.length c2] 34)) := (Below.refl _ w).alloc (Nat.le_refl _) _
  have hbl := Blk.new w 34 #[.string id, .slice A1 cl.length c1, .slice A2 pr.length c2]
  have HB1 := Lib.hid hbx
  have HK1 := Lib.hid hbl
  generalize longA ⟨id, cl, pr⟩ = R at *
  by_cases g1 : 40 < cl.length
  · have hR : R = true := by rw [HL.out]; simp [g1]
    subst hR
    have g1' : (40 : Int) < (cl.length : Int) := by omega
    clear hs1 hs2
    go_enter Try.func45, Try.ntmps45
    go_wp2_with fail
    go_ret
    exact ⟨rfl, HB1.out⟩
  by_cases g2 : 40 < pr.length
  · have hR : R = true := by rw [HL.out]; simp [g2]
    subst hR
    have g2' : (40 : Int) < (pr.length : Int) := by omega
    have g1' : decide ((40 : Int) < (cl.length : Int)) = false := decide_eq_false (by omega)
    clear hs1 hs2
    go_enter Try.func45, Try.ntmps45
    go_wp2_with fail
    go_ret
    exact ⟨rfl, HB1.out⟩
  have hR : Hid (R = decide (600 < id.size + sumS cl + sumP pr)) := Lib.hid (by rw [HL.out]; simp [g1, g2])
  have g1' : decide ((40 : Int) < (cl.length : Int)) = false := decide_eq_false (by omega)
  have g2' : decide ((40 : Int) < (pr.length : Int)) = false := decide_eq_false (by omega)
  have hc40 : cl.length * 140737488351232 ≤ 40 * 140737488351232 := Nat.mul_le_mul_right _ (by omega)
  have hp40 : pr.length * (2 * 140737488351232) ≤ 40 * (2 * 140737488351232) := Nat.mul_le_mul_right _ (by omega)
  obtain ⟨T1, hT1⟩ : ∃ T1, T1 = id.size + sumS cl := ⟨_, rfl⟩
  obtain ⟨T2, hT2⟩ : ∃ T2, T2 = T1 + sumP pr := ⟨_, rfl⟩
  have hT2b : T2 ≤ 20000000000000000 := by omega
  have hT12 : T1 ≤ T2 := by omega
  have hidT : id.size ≤ T1 := by omega
  have HT1 := Lib.hid hT1
  have HT2 := Lib.hid hT2
  have hR2 : Hid (R = decide (600 < T2)) := Lib.hid (by rw [hR.out, hT2, hT1])
  have x0 : (w.alloc (.cells #[.string id, .slice A1 cl.length c1, .slice A2 pr.length c2] 34)).cell? ⟨w.heap.size, 0, none⟩ = some (.string id) := hbl.cell 0
  have x1 : (w.alloc (.cells #[.string id, .slice A1 cl.length c1, .slice A2 pr.length c2] 34)).cell? ⟨w.heap.size, 1, none⟩ = some (.slice A1 cl.length c1) := hbl.cell 1
  have x2 : (w.alloc (.cells #[.string id, .slice A1 cl.length c1, .slice A2 pr.length c2] 34)).cell? ⟨w.heap.size, 2, none⟩ = some (.slice A2 pr.length c2) := hbl.cell 2
  have hl1 : cl.length ≤ 40 := by omega
  have hl2 : pr.length ≤ 40 := by omega
  clear hs1 hs2 hc40 hp40 hT1 hT2 HL hR hbl hbx o1 g1 g2
  go_enter Try.func45, Try.ntmps45
  go_wp2_with fail
  generalize w.alloc (.cells #[.string id, .slice A1 cl.length c1, .slice A2 pr.length c2] 34) = W1 at *
  clear g1' g2'
  go_loopw [3, 4] (fun v3 v4 wr => wr = W1 ∧ ∃ (i n : Nat), i ≤ cl.length ∧ v3 = .int .i64 n ∧ v4 = .int .i64 i ∧ n ≤ T1 ∧ Hid (n + sumS (cl.drop i) = T1)) (fun _ v4 _ => cl.length - (intOf v4).toNat)
  case atStart => exact ⟨rfl, 0, id.size, Nat.zero_le _, rfl, rfl, hidT, Lib.hid (by rw [HT1.out]; rfl)⟩
  case round =>
    obtain ⟨rfl, i, n, hi, rfl, rfl, hn, HN⟩ := hrel
    by_cases hlt : i < cl.length
    · obtain ⟨b, off, rfl, hb, hc⟩ := HR1.out i hlt
      have hc' : wr.cell? ⟨b, off + i, none⟩ = some (.string cl[i]) := (HB1.out.cell (p := ⟨b, off + i, none⟩) hb).trans hc
      have hnn : n + cl[i].size ≤ T1 := by have := HN.out; rw [sumS_drop hlt] at this; omega
      have HN2 : Hid (n + cl[i].size + sumS (cl.drop (i + 1)) = T1) := Lib.hid (by have := HN.out; rw [sumS_drop hlt] at this; omega)
      have hii : (i : Int) < (cl.length : Int) := by omega
      clear hc
      generalize cl[i] = s at *
      go_wp2_with fail
      go_roundw
      case rel => exact ⟨trivial, i + 1, n + s.size, by omega, by go_num, by go_num, hnn, HN2⟩
      case measure => simp [intOf]; omega
    · obtain rfl : i = cl.length := by omega
      have hnT : n = T1 := by have := HN.out; rw [List.drop_length] at this; exact this
      subst hnT
      clear HN hn hidT
      go_wp2_with fail
      go_loopw [3, 5] (fun v3 v5 wq => ∃ (i m : Nat), i ≤ pr.length ∧ v3 = .int .i64 m ∧ v5 = .int .i64 i ∧ m ≤ T2 ∧ Hid (m + sumP (pr.drop i) = T2) ∧ Hid (Below w.heap.size w wq) ∧ Hid (Blk wq w.heap.size 34 #[.string id, .slice A1 cl.length c1, .slice A2 pr.length c2])) (fun _ v5 _ => pr.length - (intOf v5).toNat)
      case atStart => exact ⟨0, n, Nat.zero_le _, rfl, rfl, hT12, Lib.hid (by rw [HT2.out]; rfl), HB1, HK1⟩
      case round =>
        clear x0 x1 x2
        rename World => wq
        obtain ⟨i, m, hi, rfl, rfl, hm, HM, HBq, HKq⟩ := hrel
        have y2 : wq.cell? ⟨w.heap.size, 2, none⟩ = some (.slice A2 pr.length c2) := HKq.out.cell 2
        by_cases hlt : i < pr.length
        · obtain ⟨b, off, rfl, hb, hc1, hc2⟩ := HR2.out i hlt
          have k1 : wq.cell? ⟨b, off + i * 2, none⟩ = some (.string pr[i].1) := (HBq.out.cell (p := ⟨b, off + i * 2, none⟩) hb).trans hc1
          have k2 : wq.cell? ⟨b, off + i * 2 + 1, none⟩ = some (.string pr[i].2) := (HBq.out.cell (p := ⟨b, off + i * 2 + 1, none⟩) hb).trans hc2
          have hmm : m + (pr[i].1.size + pr[i].2.size) ≤ T2 := by have := HM.out; rw [sumP_drop hlt] at this; omega
          have HM2 : Hid (m + (pr[i].1.size + pr[i].2.size) + sumP (pr.drop (i + 1)) = T2) := Lib.hid (by have := HM.out; rw [sumP_drop hlt] at this; omega)
          have hii : (i : Int) < (pr.length : Int) := by omega
          have hi00 : (0 : Int) ≤ (i : Int) := by omega
          clear hc1 hc2
          generalize pr[i].1 = s1 at *
          generalize pr[i].2 = s2 at *
          go_wp2_with fail
          go_region
          all_goals
            go_wp2_with fail
            go_roundw
            case rel => exact ⟨i + 1, m + (s1.size + s2.size), by omega, by go_num, by go_num, hmm, HM2, Lib.hid (Below.drew HBq.out), Lib.hid HKq.out⟩
            case measure => simp [intOf]; omega
        · obtain rfl : i = pr.length := by omega
          have hmT : m = T2 := by have := HM.out; rw [List.drop_length] at this; exact this
          subst hmT
          have HF : Hid (BoolP R w (.returned (.bool (decide ((600 : Int) < (m : Int))))) wq) := Lib.hid ⟨by rw [hR2.out]; congr 2; exact decide_eq_decide.2 (by omega), HBq.out⟩
          go_wp2_with fail
          go_ret
          exact HF.out

end Go.Proofs.Ytfnloonmeilhlaa
namespace Go.Pub
open Go.RowKit
theorem argsW_drop {l : List ByteArray} {i : Nat} (h : i < l.length) : argsW (l.drop i) = l[i].size / 40 + argsW (l.drop (i + 1)) := by
  rw [List.drop_eq_getElem_cons h]; rfl
theorem citsW_drop {l : List CitL} {i : Nat} (h : i < l.length) : citsW (l.drop i) = (l[i].key.size + l[i].pre.size + l[i].suf.size) / 40 + citsW (l.drop (i + 1)) := by
  rw [List.drop_eq_getElem_cons h]; rfl
theorem citVT_at : ∀ (l : List CitL) (k : Nat) (h : k < l.length), (citVT l)[k * 4]? = some (.string l[k].key) ∧ (citVT l)[k * 4 + 1]? = some (.string l[k].pre) ∧ (citVT l)[k * 4 + 2]? = some (.string l[k].suf) ∧ (citVT l)[k * 4 + 3]? = some (.bool l[k].bare)
  | x :: l, 0, _ => ⟨rfl, rfl, rfl, rfl⟩
  | x :: l, k + 1, h => by
    have := citVT_at l k (by simpa using h)
    rw [show (k + 1) * 4 = k * 4 + 1 + 1 + 1 + 1 by omega]
    exact this
theorem div40 (n : Nat) : Int.tdiv (n : Int) 40 = ((n / 40 : Nat) : Int) := by rw [Int.tdiv_eq_ediv_of_nonneg (by omega)]; omega
def IntP (n : Nat) (w : World) (e : Ending) (w' : World) : Prop := e = .returned (.int .i64 n) ∧ Below w.heap.size w w'
end Go.Pub
namespace Go.Proofs.Ytfnloonmeilhlaa
open Go.RowKit Go.Pub
theorem cit_size : (Try.prog.info? 55).map (·.size) = some 4 := by kernel_rfl
/-- The weight is right at a depth. -/
def WgtH (f : Nat) : Prop := ∀ (S : Nat → Prop) (w : World) (A : Option Addr) (c depth : Nat) (vs : List (Array Value)) (l : List InT), depth + f = 21 → RepIs w S vs l → ReadsS w S 10 A l.length (vs.flatMap Array.toList) → (∀ g, S g → g < w.heap.size) → okL l →
  Calls Try.prog 46 #[.slice A l.length c, .int .i64 depth] w (IntP (wgtF f l) w)
set_option maxHeartbeats 4000000 in
set_option maxRecDepth 100000 in
theorem t_weight0 : WgtH 0 := by
  intro S w A c depth vs l hd h1 h2 hS ho
  obtain rfl : depth = 21 := by omega
  have hm := h2.1.2
  unfold maxLen at hm
  clear h1 h2 hS ho
  go_enter Try.func46, Try.ntmps46
  go_wp2_with fail
  go_ret
  exact ⟨rfl, Below.refl _ w⟩

set_option maxHeartbeats 8000000 in
set_option maxRecDepth 100000 in
theorem t_weight1 (f : Nat) (hf : f < 21) (ih : WgtH f) : WgtH (f + 1) := by
  intro S w A c depth vs l hd h1 h2 hS ho
  have hm := h2.1.2
  have hdd : decide ((20 : Int) < (depth : Int)) = false := decide_eq_false (by omega)
  unfold maxLen at hm
  by_cases h200 : 200 < l.length
  · have hR : wgtF (f + 1) l = 1000 := by unfold wgtF; rw [if_pos h200]
    rw [hR]
    have h200' : (200 : Int) < (l.length : Int) := by omega
    clear h1 h2 hS ho hR
    go_enter Try.func46, Try.ntmps46
    go_wp2_with fail
    go_ret
    exact ⟨rfl, Below.refl _ w⟩
  have hR : Hid (wgtF (f + 1) l = wgtL (wgtF f) l.length l) := Lib.hid (by rw [wgtF, if_neg h200])
  have h200' : decide ((200 : Int) < (l.length : Int)) = false := decide_eq_false (by omega)
  have hl200 : l.length ≤ 200 := by omega
  obtain ⟨G, hG⟩ : ∃ G, G = 1000 + f * (1000 + 36 * 140737488355328) := ⟨_, rfl⟩
  have hGb : G ≤ 110000000000000000 := by
    have : f * (1000 + 36 * 140737488355328) ≤ 21 * (1000 + 36 * 140737488355328) := Nat.mul_le_mul_right _ (by omega)
    omega
  have hgG : ∀ x : List InT, okL x → wgtF f x ≤ G := fun x hx => by rw [hG]; exact wgtF_le f x hx
  have HIH := Lib.hid ih
  have HEL : Hid (∀ i (hi : i < l.length), ∃ b off v, A = some ⟨b, off, none⟩ ∧ b < w.heap.size ∧ RepI w S v l[i] ∧ w.rangeAt b (off + i * 10) v.toList) := Lib.hid fun i hi => by
    obtain ⟨b, off, e, hb, hc⟩ := h2.row (by omega) (by decide)
    obtain ⟨v, hv, hvc⟩ := h1.at_ i hi
    refine ⟨b, off, v, e, hS b hb, hv, fun j u hj => ?_⟩
    have hj10 : j < 10 := by have := (List.getElem?_eq_some_iff.1 hj).1; rw [Array.length_toList, hv.size] at this; exact this
    rw [Nat.add_assoc]
    refine hc (i * 10 + j) u ?_
    rw [hvc j hj10, ← hj, Array.getElem?_toList]
  have HOK : Hid (∀ i (hi : i < l.length), okI l[i]) := Lib.hid fun i hi => okL_mem l ho _ (List.getElem_mem hi)
  have HS := Lib.hid hS
  generalize wgtF (f + 1) l = R at *
  clear h1 h2 hS ho hG ih
  have hd21 : depth ≤ 20 := by omega
  go_enter Try.func46, Try.ntmps46
  go_wp2_with fail
  clear h200' hdd
  go_loopw [5, 6] (fun v5 v6 wr => ∃ i n : Nat, i ≤ l.length ∧ v5 = .int .i64 n ∧ v6 = .int .i64 i ∧ n ≤ 300000000000000000 ∧ Hid (wgtL (wgtF f) n (l.drop i) = R) ∧ Hid (Below w.heap.size w wr)) (fun _ v6 _ => l.length - (intOf v6).toNat)
  case atStart => exact ⟨0, l.length, Nat.zero_le _, rfl, rfl, by omega, Lib.hid (by rw [hR.out]; rfl), Lib.hid (Below.refl _ w)⟩
  case round =>
    obtain ⟨i, n, hi, rfl, rfl, hn, HN, HBw⟩ := hrel
    by_cases hlt : i < l.length
    · have hii : (i : Int) < (l.length : Int) := by omega
      have hi00 : (0 : Int) ≤ (i : Int) := by omega
      by_cases hn1 : 1000 ≤ n
      · have hRn : R = n := by rw [← HN.out, List.drop_eq_getElem_cons hlt, wgtL, if_pos hn1]
        have dn : decide ((n : Int) < 1000) = false := decide_eq_false (by omega)
        subst hRn
        go_wp2_with fail
        go_ret
        exact ⟨rfl, HBw.out⟩
      · have dn : (n : Int) < 1000 := by omega
        obtain ⟨b, off, v, rfl, hb, hv, hrg⟩ := HEL.out i hlt
        have hok := HOK.out i hlt
        have hst : wgtL (wgtF f) n (l.drop i) = if badI l[i] = true then 1000 else wgtL (wgtF f) (n + ownW l[i] + wgtF f l[i].kids) (l.drop (i + 1)) := by
          rw [List.drop_eq_getElem_cons hlt, wgtL, if_neg hn1]
        rw [hst] at HN
        clear hst
        generalize hxx : l[i] = x at *
        clear hxx
        have hbw := HBw.out
        have hzw := hbw.size
        have hv' := hv.keep (w' := wr) (fun g hg => hbw.block g (HS.out g hg)) fun _ h => h
        have hrg' : wr.rangeAt b (off + i * 10) v.toList := fun j u hj => (hbw.cell (p := ⟨b, off + i * 10 + j, none⟩) hb).trans (hrg j u hj)
        clear hv hrg
        cases hv' with
        | mk kind text dest title att args cites kids A1 A2 A3 A4 A5 c1 c2 c3 c4 c5 vs' r1 r2 r3 r4 r5 r6 =>
        have hob : badI (.mk kind text dest title att args cites kids) = (decide (300 < text.size + dest.size + title.size) || (longA att || (decide (9 < args.length) || decide (9 < cites.length)))) := rfl
        rw [hob] at HN
        have how := @ownW_le (.mk kind text dest title att args cites kids) hok
        rw [hob] at how
        have how2 : ownW (.mk kind text dest title att args cites kids) = argsW args + citsW cites := rfl
        rw [how2] at how HN
        have hkk : (InT.mk kind text dest title att args cites kids).kids = kids := rfl
        rw [hkk] at HN
        rw [okI] at hok
        obtain ⟨⟨l1, l2, l3⟩, oa, o3, o4, o5⟩ := hok
        unfold reachBytes at l1 l2 l3
        have hS' : ∀ g, S g → g < wr.heap.size := fun g hg => Nat.lt_of_lt_of_le (HS.out g hg) hzw
        have hB2 : Below wr.heap.size wr (wr.alloc (.cells #[.int .i64 kind, .string text, .string dest, .string title, .string att.id, .slice A1 att.cl.length c1, .slice A2 att.pr.length c2, .slice A3 args.length c3, .slice A4 cites.length c4, .slice A5 kids.length c5] 37)) := (Below.refl _ wr).alloc (Nat.le_refl _) _
        have HG : Hid (wr.rangeAt b (off + i * 10) [.int .i64 kind, .string text, .string dest, .string title, .string att.id, .slice A1 att.cl.length c1, .slice A2 att.pr.length c2, .slice A3 args.length c3, .slice A4 cites.length c4, .slice A5 kids.length c5]) := Lib.hid hrg'
        have hbk := Blk.new wr 37 #[.int .i64 kind, .string text, .string dest, .string title, .string att.id, .slice A1 att.cl.length c1, .slice A2 att.pr.length c2, .slice A3 args.length c3, .slice A4 cites.length c4, .slice A5 kids.length c5]
        have HBK := Lib.hid hbk
        have HB2 := Lib.hid hB2
        have HLG := Lib.hid fun (W : World) (hW : Below wr.heap.size wr W) => t_long (c1 := c1) (c2 := c2) W (r1.keep (fun g hg => hW.block g (hS' g hg)) fun _ h => h) (r2.keep (fun g hg => hW.block g (hS' g hg)) fun _ h => h) (fun g hg => Nat.lt_of_lt_of_le (hS' g hg) hW.size) oa
        have HIC : Hid (∀ (W : World), Below wr.heap.size wr W → Calls Try.prog 46 #[.slice A5 kids.length c5, .int .i64 ((depth : Int) + 1)] W (IntP (wgtF f kids) W)) := Lib.hid fun W hW => by
          have := HIH.out S W A5 c5 (depth + 1) vs' kids (by omega) (r5.keep (fun g hg => hW.block g (hS' g hg)) fun _ h => h) (r6.keep (fun g hg => hW.block g (hS' g hg)) fun _ h => h) (fun g hg => Nat.lt_of_lt_of_le (hS' g hg) hW.size) o5
          rwa [Int.natCast_add] at this
        have HAR : Hid (∀ (W : World), Below wr.heap.size wr W → ∀ k (hk : k < args.length), ∃ b off, A3 = some ⟨b, off, none⟩ ∧ W.cell? ⟨b, off + k, none⟩ = some (.string args[k])) := Lib.hid fun W hW k hk => by
          obtain ⟨b, off, e, hb, hc⟩ := r3.row (by omega) (by decide)
          exact ⟨b, off, e, (hW.cell (p := ⟨b, off + k, none⟩) (hS' b hb)).trans (hc k _ (strs_at' args k hk))⟩
        have HCI : Hid (∀ (W : World), Below wr.heap.size wr W → ∀ k (hk : k < cites.length), ∃ b off, A4 = some ⟨b, off, none⟩ ∧ W.rangeAt b (off + k * 4) [.string cites[k].key, .string cites[k].pre, .string cites[k].suf, .bool cites[k].bare]) := Lib.hid fun W hW k hk => by
          obtain ⟨b, off, e, hb, hc⟩ := r4.row (by omega) (by decide)
          refine ⟨b, off, e, fun j u hj => ?_⟩
          have hj4 := (List.getElem?_eq_some_iff.1 hj).1
          simp only [List.length_cons, List.length_nil] at hj4
          refine (hW.cell (p := ⟨b, off + k * 4 + j, none⟩) (hS' b hb)).trans ?_
          rw [Nat.add_assoc]
          refine hc (k * 4 + j) u ?_
          obtain ⟨e0, e1, e2, e3⟩ := citVT_at cites k hk
          match j, hj4, hj with
          | 0, _, hj => rw [← hj]; exact e0
          | 1, _, hj => rw [← hj]; exact e1
          | 2, _, hj => rw [← hj]; exact e2
          | 3, _, hj => rw [← hj]; exact e3
        have HO3 := Lib.hid o3
        have HO4 := Lib.hid o4
        have hgk := hgG kids o5
        have ms1 := r3.1.2
        have ms2 := r4.1.2
        have ms3 := r6.1.2
        unfold maxLen at ms1 ms2 ms3
        have x1 : (wr.alloc (.cells #[.int .i64 kind, .string text, .string dest, .string title, .string att.id, .slice A1 att.cl.length c1, .slice A2 att.pr.length c2, .slice A3 args.length c3, .slice A4 cites.length c4, .slice A5 kids.length c5] 37)).cell? ⟨wr.heap.size, 1, none⟩ = some (.string text) := hbk.cell 1
        have x2 : (wr.alloc (.cells #[.int .i64 kind, .string text, .string dest, .string title, .string att.id, .slice A1 att.cl.length c1, .slice A2 att.pr.length c2, .slice A3 args.length c3, .slice A4 cites.length c4, .slice A5 kids.length c5] 37)).cell? ⟨wr.heap.size, 2, none⟩ = some (.string dest) := hbk.cell 2
        have x3 : (wr.alloc (.cells #[.int .i64 kind, .string text, .string dest, .string title, .string att.id, .slice A1 att.cl.length c1, .slice A2 att.pr.length c2, .slice A3 args.length c3, .slice A4 cites.length c4, .slice A5 kids.length c5] 37)).cell? ⟨wr.heap.size, 3, none⟩ = some (.string title) := hbk.cell 3
        have x4 : (wr.alloc (.cells #[.int .i64 kind, .string text, .string dest, .string title, .string att.id, .slice A1 att.cl.length c1, .slice A2 att.pr.length c2, .slice A3 args.length c3, .slice A4 cites.length c4, .slice A5 kids.length c5] 37)).cell? ⟨wr.heap.size, 4, none⟩ = some (.string att.id) := hbk.cell 4
        have x5 : (wr.alloc (.cells #[.int .i64 kind, .string text, .string dest, .string title, .string att.id, .slice A1 att.cl.length c1, .slice A2 att.pr.length c2, .slice A3 args.length c3, .slice A4 cites.length c4, .slice A5 kids.length c5] 37)).cell? ⟨wr.heap.size, 5, none⟩ = some (.slice A1 att.cl.length c1) := hbk.cell 5
        have x6 : (wr.alloc (.cells #[.int .i64 kind, .string text, .string dest, .string title, .string att.id, .slice A1 att.cl.length c1, .slice A2 att.pr.length c2, .slice A3 args.length c3, .slice A4 cites.length c4, .slice A5 kids.length c5] 37)).cell? ⟨wr.heap.size, 6, none⟩ = some (.slice A2 att.pr.length c2) := hbk.cell 6
        have x7 : (wr.alloc (.cells #[.int .i64 kind, .string text, .string dest, .string title, .string att.id, .slice A1 att.cl.length c1, .slice A2 att.pr.length c2, .slice A3 args.length c3, .slice A4 cites.length c4, .slice A5 kids.length c5] 37)).cell? ⟨wr.heap.size, 7, none⟩ = some (.slice A3 args.length c3) := hbk.cell 7
        have x8 : (wr.alloc (.cells #[.int .i64 kind, .string text, .string dest, .string title, .string att.id, .slice A1 att.cl.length c1, .slice A2 att.pr.length c2, .slice A3 args.length c3, .slice A4 cites.length c4, .slice A5 kids.length c5] 37)).cell? ⟨wr.heap.size, 8, none⟩ = some (.slice A4 cites.length c4) := hbk.cell 8
        have x9 : (wr.alloc (.cells #[.int .i64 kind, .string text, .string dest, .string title, .string att.id, .slice A1 att.cl.length c1, .slice A2 att.pr.length c2, .slice A3 args.length c3, .slice A4 cites.length c4, .slice A5 kids.length c5] 37)).cell? ⟨wr.heap.size, 9, none⟩ = some (.slice A5 kids.length c5) := hbk.cell 9
        clear hrg' hbk hB2 r1 r2 r3 r4 r5 r6 oa o3 o4 o5 hbw hS' HIH hob how2 hkk
        by_cases hb1 : 300 < text.size + dest.size + title.size
        · have hb1' : (300 : Int) < (text.size : Int) + (dest.size : Int) + (title.size : Int) := by omega
          have hR1 : R = 1000 := by have := HN.out; simp [hb1] at this; exact this.symm
          have HF : Hid (IntP R w (.returned (.int .i64 1000)) (wr.alloc (.cells #[.int .i64 kind, .string text, .string dest, .string title, .string att.id, .slice A1 att.cl.length c1, .slice A2 att.pr.length c2, .slice A3 args.length c3, .slice A4 cites.length c4, .slice A5 kids.length c5] 37))) := Lib.hid ⟨by rw [hR1]; rfl, HBw.out.trans (HB2.out.mono hzw)⟩
          clear how HN hR1
          go_wp2_with (first | (refine wpList_load_mid rfl 37 (.tmp 31) rfl b (off + i * 10) rfl _ _ HG.out Try.underlying37 rfl inl_size ?_) | (refine wpList_store_row rfl 37 (.tmp 7) (.tmp 32) rfl wr.heap.size #[.int .i64 kind, .string text, .string dest, .string title, .string att.id, .slice A1 att.cl.length c1, .slice A2 att.pr.length c2, .slice A3 args.length c3, .slice A4 cites.length c4, .slice A5 kids.length c5] rfl rfl 37 _ (Blk.new wr _ _) inl_size (by rfl) (by simp [Value.oneCell']) ?_; rw [World.setRow_alloc_new]; generalize (wr.alloc (.cells #[.int .i64 kind, .string text, .string dest, .string title, .string att.id, .slice A1 att.cl.length c1, .slice A2 att.pr.length c2, .slice A3 args.length c3, .slice A4 cites.length c4, .slice A5 kids.length c5] 37)) = W1 at *))
          go_ret
          exact HF.out
        have hb1' : decide ((300 : Int) < (text.size : Int) + (dest.size : Int) + (title.size : Int)) = false := decide_eq_false (by omega)
        have HB3 : Hid (Below w.heap.size w (wr.alloc (.cells #[.int .i64 kind, .string text, .string dest, .string title, .string att.id, .slice A1 att.cl.length c1, .slice A2 att.pr.length c2, .slice A3 args.length c3, .slice A4 cites.length c4, .slice A5 kids.length c5] 37))) := Lib.hid (HBw.out.trans (HB2.out.mono hzw))
        have HZ1 : Hid ((wr.alloc (.cells #[.int .i64 kind, .string text, .string dest, .string title, .string att.id, .slice A1 att.cl.length c1, .slice A2 att.pr.length c2, .slice A3 args.length c3, .slice A4 cites.length c4, .slice A5 kids.length c5] 37)).heap.size = wr.heap.size + 1) := Lib.hid (by simp)
        have HHOW := Lib.hid how
        clear how
        go_wp2_with (first | (refine wpList_load_mid rfl 37 (.tmp 31) rfl b (off + i * 10) rfl _ _ HG.out Try.underlying37 rfl inl_size ?_) | (refine wpList_store_row rfl 37 (.tmp 7) (.tmp 32) rfl wr.heap.size #[.int .i64 kind, .string text, .string dest, .string title, .string att.id, .slice A1 att.cl.length c1, .slice A2 att.pr.length c2, .slice A3 args.length c3, .slice A4 cites.length c4, .slice A5 kids.length c5] rfl rfl 37 _ (Blk.new wr _ _) inl_size (by rfl) (by simp [Value.oneCell']) ?_; rw [World.setRow_alloc_new]; generalize (wr.alloc (.cells #[.int .i64 kind, .string text, .string dest, .string title, .string att.id, .slice A1 att.cl.length c1, .slice A2 att.pr.length c2, .slice A3 args.length c3, .slice A4 cites.length c4, .slice A5 kids.length c5] 37)) = W1 at *))
        ((with_reducible refine (HLG.out W1 HB2.out).mono ?_))
        rintro e W2 ⟨rfl, b2⟩
        have HB4 := Lib.hid (HB2.out.trans (b2.mono (by have := HZ1.out; omega)))
        have HB5 := Lib.hid (HB3.out.trans (b2.mono HB3.out.size))
        have HBK2 : Hid (Blk W2 wr.heap.size 37 #[.int .i64 kind, .string text, .string dest, .string title, .string att.id, .slice A1 att.cl.length c1, .slice A2 att.pr.length c2, .slice A3 args.length c3, .slice A4 cites.length c4, .slice A5 kids.length c5]) := Lib.hid (HBK.out.below b2 HBK.out.lt)
        have y7 : W2.cell? ⟨wr.heap.size, 7, none⟩ = some (.slice A3 args.length c3) := HBK2.out.cell 7
        have y8 : W2.cell? ⟨wr.heap.size, 8, none⟩ = some (.slice A4 cites.length c4) := HBK2.out.cell 8
        clear x1 x2 x3 x4 x5 x6 x7 x8 x9 b2 HLG HG HBK HB3 hb1'
        have hlgx : ∀ q, longA att = q → q = longA att := fun q h => h.symm
        cases hlg : longA att with
        | true =>
          have hR1 : R = 1000 := by have := HN.out; simp [hb1, hlg] at this; exact this.symm
          have HF : Hid (IntP R w (.returned (.int .i64 1000)) W2) := Lib.hid ⟨by rw [hR1]; rfl, HB5.out⟩
          clear HHOW HN hR1 hlgx hlg hb1
          go_wp2_with fail
          go_ret
          exact HF.out
        | false =>
          by_cases h9 : 9 < args.length
          · have h9' : (9 : Int) < (args.length : Int) := by omega
            have hR1 : R = 1000 := by have := HN.out; simp [hb1, hlg, h9] at this; exact this.symm
            have HF : Hid (IntP R w (.returned (.int .i64 1000)) W2) := Lib.hid ⟨by rw [hR1]; rfl, HB5.out⟩
            clear HHOW HN hR1 hlgx hlg hb1
            go_wp2_with fail
            go_ret
            exact HF.out
          have h9' : decide ((9 : Int) < (args.length : Int)) = false := decide_eq_false (by omega)
          by_cases h8 : 9 < cites.length
          · have h8' : (9 : Int) < (cites.length : Int) := by omega
            have hR1 : R = 1000 := by have := HN.out; simp [hb1, hlg, h9, h8] at this; exact this.symm
            have HF : Hid (IntP R w (.returned (.int .i64 1000)) W2) := Lib.hid ⟨by rw [hR1]; rfl, HB5.out⟩
            clear HHOW HN hR1 hlgx hlg hb1
            go_wp2_with fail
            go_ret
            exact HF.out
          have h8' : decide ((9 : Int) < (cites.length : Int)) = false := decide_eq_false (by omega)
          have HN2 : Hid (wgtL (wgtF f) (n + (argsW args + citsW cites) + wgtF f kids) (l.drop (i + 1)) = R) := Lib.hid (by have := HN.out; simpa [hb1, hlg, h9, h8] using this)
          have how := HHOW.out (by simp [hb1, hlg, h9, h8])
          obtain ⟨T1, hT1⟩ : ∃ T1, T1 = n + argsW args := ⟨_, rfl⟩
          obtain ⟨T2, hT2⟩ : ∃ T2, T2 = T1 + citsW cites := ⟨_, rfl⟩
          have hT2b : T2 ≤ 100000000000000000 := by omega
          have hT12 : T1 ≤ T2 := by omega
          have hnT : n ≤ T1 := by omega
          have HT1 := Lib.hid hT1
          have HT2 := Lib.hid hT2
          have HN3 : Hid (wgtL (wgtF f) (T2 + wgtF f kids) (l.drop (i + 1)) = R) := Lib.hid (by have := HN2.out; rwa [show n + (argsW args + citsW cites) = T2 by omega] at this)
          have hla : args.length ≤ 9 := by omega
          have hlc : cites.length ≤ 9 := by omega
          clear HN HN2 HHOW hT1 hT2 how hlgx hlg hb1 h9 h8
          generalize wgtF f kids = K at *
          go_wp2_with fail
          clear h9' h8'
          go_loopw [5, 8] (fun v5 v8 wq => wq = W2 ∧ ∃ k m : Nat, k ≤ args.length ∧ v5 = .int .i64 m ∧ v8 = .int .i64 k ∧ m ≤ T1 ∧ Hid (m + argsW (args.drop k) = T1)) (fun _ v8 _ => args.length - (intOf v8).toNat)
          case atStart => exact ⟨rfl, 0, n, Nat.zero_le _, rfl, rfl, hnT, Lib.hid (by rw [HT1.out]; rfl)⟩
          case round =>
            obtain ⟨rfl, k, m, hk, rfl, rfl, hm1, HM⟩ := hrel
            by_cases hkl : k < args.length
            · obtain ⟨ba, oa, rfl, hc⟩ := HAR.out _ HB4.out k hkl
              have hmm : m + args[k].size / 40 ≤ T1 := by have := HM.out; rw [argsW_drop hkl] at this; omega
              have HM2 : Hid (m + args[k].size / 40 + argsW (args.drop (k + 1)) = T1) := Lib.hid (by have := HM.out; rw [argsW_drop hkl] at this; omega)
              have hkk : (k : Int) < (args.length : Int) := by omega
              have hd := div40 args[k].size
              have hsz := HO3.out _ (List.getElem_mem hkl)
              unfold reachBytes at hsz
              have hdb : args[k].size / 40 ≤ 140737488351232 := by omega
              generalize args[k] = s at *
              generalize hq : s.size / 40 = q at *
              clear hq
              go_wp2_with fail
              go_roundw
              case rel => exact ⟨trivial, k + 1, m + q, by omega, by go_num, by go_num, hmm, HM2⟩
              case measure => simp [intOf]; omega
            · obtain rfl : k = args.length := by omega
              have hmT : m = T1 := by have := HM.out; rw [List.drop_length] at this; exact this
              subst hmT
              clear HM hm1 hnT HT1
              go_wp2_with fail
              rename World => W3
              go_loopw [5, 9] (fun v5 v9 wq => ∃ k p : Nat, k ≤ cites.length ∧ v5 = .int .i64 p ∧ v9 = .int .i64 k ∧ p ≤ T2 ∧ Hid (p + citsW (cites.drop k) = T2) ∧ Hid (Below W3.heap.size W3 wq)) (fun _ v9 _ => cites.length - (intOf v9).toNat)
              case atStart => exact ⟨0, m, Nat.zero_le _, rfl, rfl, hT12, Lib.hid (by rw [HT2.out]; rfl), Lib.hid (Below.refl _ _)⟩
              case round =>
                rename World => wq
                obtain ⟨k, p, hk, rfl, rfl, hp, HP, HBq⟩ := hrel
                have hbq := HBq.out
                have hzq := hbq.size
                have hz3 := HB4.out.size
                have HB6 : Hid (Below wr.heap.size wr wq) := Lib.hid (HB4.out.trans (hbq.mono hz3))
                have HB7 : Hid (Below w.heap.size w wq) := Lib.hid (HB5.out.trans (hbq.mono HB5.out.size))
                have HBK3 : Hid (Blk wq wr.heap.size 37 #[.int .i64 kind, .string text, .string dest, .string title, .string att.id, .slice A1 att.cl.length c1, .slice A2 att.pr.length c2, .slice A3 args.length c3, .slice A4 cites.length c4, .slice A5 kids.length c5]) := Lib.hid (HBK2.out.below hbq HBK2.out.lt)
                have z8 : wq.cell? ⟨wr.heap.size, 8, none⟩ = some (.slice A4 cites.length c4) := HBK3.out.cell 8
                have z9 : wq.cell? ⟨wr.heap.size, 9, none⟩ = some (.slice A5 kids.length c5) := HBK3.out.cell 9
                by_cases hkl : k < cites.length
                · obtain ⟨ba, oa, rfl, hc⟩ := HCI.out _ HB6.out k hkl
                  have hpp : p + (cites[k].key.size + cites[k].pre.size + cites[k].suf.size) / 40 ≤ T2 := by have := HP.out; rw [citsW_drop hkl] at this; omega
                  have HP2 : Hid (p + (cites[k].key.size + cites[k].pre.size + cites[k].suf.size) / 40 + citsW (cites.drop (k + 1)) = T2) := Lib.hid (by have := HP.out; rw [citsW_drop hkl] at this; omega)
                  have hkk : (k : Int) < (cites.length : Int) := by omega
                  have hk00 : (0 : Int) ≤ (k : Int) := by omega
                  obtain ⟨s1, s2, s3⟩ := HO4.out _ (List.getElem_mem hkl)
                  unfold reachBytes at s1 s2 s3
                  have hd := div40 (cites[k].key.size + cites[k].pre.size + cites[k].suf.size)
                  rw [Int.natCast_add, Int.natCast_add] at hd
                  have hdb : (cites[k].key.size + cites[k].pre.size + cites[k].suf.size) / 40 ≤ 140737488351232 := by omega
                  have HCC := Lib.hid hc
                  clear hc
                  generalize cites[k].key = key at *
                  generalize cites[k].pre = pre at *
                  generalize cites[k].suf = suf at *
                  generalize cites[k].bare = bare at *
                  generalize hq : (key.size + pre.size + suf.size) / 40 = q at *
                  clear hq
                  have HB8 : Hid (Below W3.heap.size W3 (wq.alloc (.cells #[.string key, .string pre, .string suf, .bool bare] 55))) := Lib.hid (hbq.alloc hzq _)
                  have hcb := Blk.new wq 55 #[.string key, .string pre, .string suf, .bool bare]
                  have k0 : (wq.alloc (.cells #[.string key, .string pre, .string suf, .bool bare] 55)).cell? ⟨wq.heap.size, 0, none⟩ = some (.string key) := hcb.cell 0
                  have k1 : (wq.alloc (.cells #[.string key, .string pre, .string suf, .bool bare] 55)).cell? ⟨wq.heap.size, 1, none⟩ = some (.string pre) := hcb.cell 1
                  have k2 : (wq.alloc (.cells #[.string key, .string pre, .string suf, .bool bare] 55)).cell? ⟨wq.heap.size, 2, none⟩ = some (.string suf) := hcb.cell 2
                  clear hcb
                  go_wp2_with (first | (refine wpList_load_mid rfl 55 (.tmp 88) rfl ba (oa + k * 4) rfl _ _ HCC.out Try.underlying55 rfl cit_size ?_) | (refine wpList_store_row rfl 55 (.tmp 10) (.tmp 89) rfl wq.heap.size #[.string key, .string pre, .string suf, .bool bare] rfl rfl 55 _ (Blk.new wq _ _) cit_size (by rfl) (by simp [Value.oneCell']) ?_; rw [World.setRow_alloc_new]; generalize wq.alloc (.cells #[.string key, .string pre, .string suf, .bool bare] 55) = W9 at *))
                  go_roundw
                  case rel => exact ⟨k + 1, p + q, by omega, by go_num, by go_num, hpp, HP2, HB8⟩
                  case measure => simp [intOf]; omega
                · have hkc : k = cites.length := by omega
                  have hpT : p = T2 := by have := HP.out; rw [hkc, List.drop_length] at this; exact this
                  have dk : decide ((k : Int) < (cites.length : Int)) = false := decide_eq_false (by omega)
                  subst hpT
                  have HC := Lib.hid (HIC.out wq HB6.out)
                  clear HP hp hT12
                  go_wp2_with fail
                  ((with_reducible refine HC.out.mono ?_))
                  rintro e W4 ⟨rfl, b4⟩
                  have HB9 : Hid (Below w.heap.size w W4) := Lib.hid (HB7.out.trans (b4.mono HB7.out.size))
                  clear b4 HC
                  go_wp2_with fail
                  go_roundw
                  case rel => exact ⟨i + 1, p + K, by omega, by go_num, by go_num, by omega, HN3, HB9⟩
                  case measure => simp [intOf]; omega
    · have hil : i = l.length := by omega
      have hRn : R = n := by rw [← HN.out, hil, List.drop_length]; rfl
      subst hRn
      have dl : decide ((i : Int) < (l.length : Int)) = false := decide_eq_false (by omega)
      go_wp2_with fail
      go_ret
      exact ⟨rfl, HBw.out⟩

end Go.Proofs.Ytfnloonmeilhlaa
namespace Go.Proofs.Ytfnloonmeilhlaa
open Go.RowKit Go.Pub
theorem t_weight : ∀ f, f ≤ 21 → WgtH f
  | 0, _ => t_weight0
  | f + 1, h => t_weight1 f (by omega) (t_weight f (by omega))
theorem blk_size : (Try.prog.info? 49).map (·.size) = some 11 := by kernel_rfl
theorem blk_info : (Try.prog.info? 49).map (fun i => (i.zero, i.size, i.bytes)) = some (some (.agg #[.int .i64 0, .int .i64 0, .string ⟨#[]⟩, .string ⟨#[]⟩, .string ⟨#[]⟩, .string ⟨#[]⟩, .string ⟨#[]⟩, .slice none 0 0, .slice none 0 0, .slice none 0 0, .slice none 0 0]), 11, 192) := by kernel_rfl
/-- A block that has a line alone. -/
def lnB (A : Option Addr) (n c : Nat) : Array Value := #[.int .i64 0, .int .i64 0, .string ⟨#[]⟩, .string ⟨#[]⟩, .string ⟨#[]⟩, .string ⟨#[]⟩, .string ⟨#[]⟩, .slice none 0 0, .slice none 0 0, .slice A n c, .slice none 0 0]
theorem t_heavy0 (w : World) : Calls Try.prog 29 #[.slice none 0 0, .int .i64 1] w fun e w' => e = .returned (.int .i64 0) ∧ w' = w := by
  go_enter Try.func29, Try.ntmps29
  go_wp2_with fail
  go_loopw [5, 6] (fun v5 v6 wr => v5 = .int .i64 0 ∧ v6 = .int .i64 0 ∧ wr = w) (fun _ _ _ => 0)
  case atStart => exact ⟨rfl, rfl, rfl⟩
  case round =>
    obtain ⟨rfl, rfl, rfl⟩ := hrel
    go_wp2_with fail
    go_ret
    exact ⟨rfl, rfl⟩
set_option maxHeartbeats 4000000 in
set_option maxRecDepth 100000 in
theorem t_heavy1 {S : Nat → Prop} {A : Option Addr} {c g : Nat} {vs : List (Array Value)} {l : List InT} (w : World) (h1 : RepIs w S vs l) (h2 : ReadsS w S 10 A l.length (vs.flatMap Array.toList)) (hS : ∀ g, S g → g < w.heap.size) (ho : okL l) (hb : Blk w g 49 (lnB A l.length c)) :
    Calls Try.prog 29 #[.slice (some ⟨g, 0, none⟩) 1 1, .int .i64 0] w (IntP (1 + wgtF 21 l) w) := by
  have HW : Hid (∀ W, Below w.heap.size w W → Calls Try.prog 46 #[.slice A l.length c, .int .i64 0] W fun e w' => e = .returned (.int .i64 (wgtF 21 l)) ∧ Below W.heap.size W w') := Lib.hid fun W hW =>
    t_weight 21 (Nat.le_refl _) S W A c 0 vs l rfl (h1.keep (fun g hg => hW.block g (hS g hg)) fun _ h => h) (h2.keep (fun g hg => hW.block g (hS g hg)) fun _ h => h) (fun g hg => Nat.lt_of_lt_of_le (hS g hg) hW.size) ho
  have hwb := wgtF_le 21 l ho
  have hm := h2.1.2
  unfold maxLen at hm
  generalize wgtF 21 l = K at *
  have HLG := Lib.hid fun (W : World) => t_long (S := fun _ => False) (A1 := none) (A2 := none) (c1 := 0) (c2 := 0) (a := noAt) W ReadsS.none_ ReadsS.none_ (fun _ h => h.elim) ⟨Nat.zero_le _, fun _ h => absurd h (by simp [noAt]), fun _ h => absurd h (by simp [noAt])⟩
  have hlg : longA noAt = false := by decide +kernel
  rw [hlg] at HLG
  have HLG : Hid (∀ W : World, Calls Try.prog 45 #[.agg #[.string ⟨#[]⟩, .slice none 0 0, .slice none 0 0]] W (BoolP false W)) := HLG
  have hgw := hb.lt
  have HBK := Lib.hid hb
  clear h1 h2 hS ho hb hlg
  go_enter Try.func29, Try.ntmps29
  go_wp2_with fail
  go_loopw [5, 6] (fun v5 v6 wr => ∃ i n : Nat, v5 = .int .i64 n ∧ v6 = .int .i64 i ∧ (i = 0 ∧ n = 1 ∨ i = 1 ∧ n = 1 + K) ∧ Hid (Below w.heap.size w wr)) (fun _ v6 _ => 1 - (intOf v6).toNat)
  case atStart => exact ⟨0, 1, rfl, rfl, .inl ⟨rfl, rfl⟩, Lib.hid (Below.refl _ w)⟩
  case round =>
    obtain ⟨i, n, rfl, rfl, hin, HBw⟩ := hrel
    rcases hin with ⟨rfl, rfl⟩ | ⟨rfl, rfl⟩
    · have hbw := HBw.out
      have hzw := hbw.size
      have HBK1 : Hid (Blk wr g 49 (lnB A l.length c)) := Lib.hid (HBK.out.below hbw hgw)
      have HB2 : Hid (Below wr.heap.size wr (wr.alloc (.cells (lnB A l.length c) 49))) := Lib.hid ((Below.refl _ wr).alloc (Nat.le_refl _) _)
      have hbk := Blk.new wr 49 (lnB A l.length c)
      have HBK2 := Lib.hid hbk
      have hz2 : (wr.alloc (.cells (lnB A l.length c) 49)).heap.size = wr.heap.size + 1 := by simp
      have x2 : (wr.alloc (.cells (lnB A l.length c) 49)).cell? ⟨wr.heap.size, 2, none⟩ = some (.string ⟨#[]⟩) := hbk.cell 2
      have x3 : (wr.alloc (.cells (lnB A l.length c) 49)).cell? ⟨wr.heap.size, 3, none⟩ = some (.string ⟨#[]⟩) := hbk.cell 3
      have x4 : (wr.alloc (.cells (lnB A l.length c) 49)).cell? ⟨wr.heap.size, 4, none⟩ = some (.string ⟨#[]⟩) := hbk.cell 4
      have x5 : (wr.alloc (.cells (lnB A l.length c) 49)).cell? ⟨wr.heap.size, 5, none⟩ = some (.string ⟨#[]⟩) := hbk.cell 5
      have x6 : (wr.alloc (.cells (lnB A l.length c) 49)).cell? ⟨wr.heap.size, 6, none⟩ = some (.string ⟨#[]⟩) := hbk.cell 6
      have x7 : (wr.alloc (.cells (lnB A l.length c) 49)).cell? ⟨wr.heap.size, 7, none⟩ = some (.slice none 0 0) := hbk.cell 7
      have x8 : (wr.alloc (.cells (lnB A l.length c) 49)).cell? ⟨wr.heap.size, 8, none⟩ = some (.slice none 0 0) := hbk.cell 8
      clear hbk hbw
      have HZ2 := Lib.hid hz2
      clear hz2
      go_wp2_with (first | (refine wpList_load_row rfl 49 (.tmp 28) rfl g rfl 49 (lnB A l.length c) _ _ HBK1.out Try.underlying49 rfl blk_size ?_) | (refine wpList_store_row rfl 49 (.tmp 7) (.tmp 29) rfl wr.heap.size (lnB A l.length c) rfl rfl 49 _ (Blk.new wr _ _) blk_size (by rfl) (by simp [lnB, Value.oneCell']) ?_; rw [World.setRow_alloc_new]; generalize wr.alloc (.cells (lnB A l.length c) 49) = W1 at *))
      ((with_reducible refine (HLG.out W1).mono ?_))
      rintro e W2 ⟨rfl, b2⟩
      have HBK3 : Hid (Blk W2 wr.heap.size 49 (lnB A l.length c)) := Lib.hid (HBK2.out.below b2 HBK2.out.lt)
      have HB3 : Hid (Below w.heap.size w W2) := Lib.hid (HBw.out.trans ((HB2.out.trans (b2.mono (by have := HZ2.out; omega))).mono hzw))
      have hz2b : wr.heap.size + 1 ≤ W2.heap.size := by have := b2.size; have := HZ2.out; omega
      have HS : Hid (∀ W, Below W2.heap.size W2 W → W.cell? ⟨wr.heap.size, 9, none⟩ = some (.slice A l.length c) ∧ W.cell? ⟨wr.heap.size, 10, none⟩ = some (.slice none 0 0) ∧ Below W2.heap.size W2 W) := Lib.hid fun W hW =>
        ⟨(hW.cell (p := ⟨wr.heap.size, 9, none⟩) (by show wr.heap.size < _; omega)).trans (HBK3.out.cell 9), (hW.cell (p := ⟨wr.heap.size, 10, none⟩) (by show wr.heap.size < _; omega)).trans (HBK3.out.cell 10), hW⟩
      have HC1 : Hid (∀ W, Below W2.heap.size W2 W → Calls Try.prog 46 #[.slice A l.length c, .int .i64 0] W fun e w' => e = .returned (.int .i64 K) ∧ Below W2.heap.size W2 w') := Lib.hid fun W hW => (HW.out W (HB3.out.trans (hW.mono HB3.out.size))).mono fun e w' h => ⟨h.1, hW.trans (h.2.mono hW.size)⟩
      have HC2 : Hid (∀ W, Below W2.heap.size W2 W → Calls Try.prog 29 #[.slice none 0 0, .int .i64 1] W fun e w' => e = .returned (.int .i64 0) ∧ Below W2.heap.size W2 w') := Lib.hid fun W hW => (t_heavy0 W).mono fun e w' h => ⟨h.1, by rw [h.2]; exact hW⟩
      have HEND : Hid (∀ W, Below W2.heap.size W2 W → Hid (Below w.heap.size w W)) := Lib.hid fun W hW => Lib.hid (HB3.out.trans (hW.mono HB3.out.size))
      have HB0 : Hid (Below W2.heap.size W2 W2) := Lib.hid (Below.refl _ _)
      obtain ⟨s0, s1, s2⟩ := HS.out W2 HB0.out
      have hw1 : IntKind.i64.wrap 1 = 1 := by decide
      have hw2 : IntKind.i64.wrap (K : Int) = (K : Int) := IntWalk.i64_in _ (by omega)
      have hw3 : IntKind.i64.wrap (1 + (K : Int)) = 1 + (K : Int) := IntWalk.i64_in _ (by omega)
      clear x2 x3 x4 x5 x6 x7 x8 b2 HLG HBK3 HB3 HW
      go_wp2_with fail
      go_region_held3 (fun w' => w'.cell? ⟨wr.heap.size, 9, none⟩ = some (.slice A l.length c) ∧ w'.cell? ⟨wr.heap.size, 10, none⟩ = some (.slice none 0 0) ∧ Below W2.heap.size W2 w')
        (first | exact HS.out _ b1 | exact HS.out _ HB0.out.drew | go_keep)
        (first
          | (go_at_call 46; (with_reducible refine (HC1.out _ (by assumption : _ ∧ _ ∧ Below W2.heap.size W2 _).2.2).mono ?_); rintro e W3 ⟨rfl, b1⟩)
          | (go_at_call 29; (with_reducible refine (HC2.out _ (by assumption : _ ∧ _ ∧ Below W2.heap.size W2 _).2.2).mono ?_); rintro e W3 ⟨rfl, b1⟩))
      go_wp2_with fail
      go_roundw
      case rel => exact ⟨1, 1 + K, by go_num, rfl, .inr ⟨rfl, rfl⟩, HEND.out _ b1⟩
      case measure => simp [intOf]
    · go_wp2_with fail
      go_ret
      exact ⟨by go_num, HBw.out⟩

set_option maxHeartbeats 4000000 in
set_option maxRecDepth 100000 in
theorem t_Small {S : Nat → Prop} {A : Option Addr} {c g : Nat} {vs : List (Array Value)} {l : List InT} (w : World) (h1 : RepIs w S vs l) (h2 : ReadsS w S 10 A l.length (vs.flatMap Array.toList)) (hS : ∀ g, S g → g < w.heap.size) (ho : okL l) (hb : Blk w g 49 (lnB A l.length c)) :
    Calls Try.prog 21 #[.agg #[.slice none 0 0, .slice (some ⟨g, 0, none⟩) 1 1]] w (BoolP (decide (1 + wgtF 21 l ≤ 120)) w) := by
  have HH : Hid (∀ W, Below w.heap.size w W → Calls Try.prog 29 #[.slice (some ⟨g, 0, none⟩) 1 1, .int .i64 0] W (IntP (1 + wgtF 21 l) W)) := Lib.hid fun W hW =>
    t_heavy1 W (h1.keep (fun g hg => hW.block g (hS g hg)) fun _ h => h) (h2.keep (fun g hg => hW.block g (hS g hg)) fun _ h => h) (fun g hg => Nat.lt_of_lt_of_le (hS g hg) hW.size) ho (hb.below hW hb.lt)
  have hbx : Below w.heap.size w (w.alloc (.cells #[.slice none 0 0, .slice (some ⟨g, 0, none⟩) 1 1] 51)) := (Below.refl _ w).alloc (Nat.le_refl _) _
  have HBX := Lib.hid hbx
  have HC := Lib.hid (HH.out _ hbx)
  have x0 : (w.alloc (.cells #[.slice none 0 0, .slice (some ⟨g, 0, none⟩) 1 1] 51)).cell? ⟨w.heap.size, 0, none⟩ = some (.slice none 0 0) := (Blk.new w 51 #[.slice none 0 0, .slice (some ⟨g, 0, none⟩) 1 1]).cell 0
  have x1 : (w.alloc (.cells #[.slice none 0 0, .slice (some ⟨g, 0, none⟩) 1 1] 51)).cell? ⟨w.heap.size, 1, none⟩ = some (.slice (some ⟨g, 0, none⟩) 1 1) := (Blk.new w 51 #[.slice none 0 0, .slice (some ⟨g, 0, none⟩) 1 1]).cell 1
  generalize wgtF 21 l = K at *
  clear hbx HH h1 h2 hS ho hb
  go_enter Try.func21, Try.ntmps21
  go_wp2_with fail
  generalize w.alloc (.cells #[.slice none 0 0, .slice (some ⟨g, 0, none⟩) 1 1] 51) = W1 at *
  go_loopw [3] (fun v3 wr => v3 = .int .i64 0 ∧ wr = W1) (fun _ _ => 0)
  case atStart => exact ⟨rfl, rfl⟩
  case round =>
    obtain ⟨rfl, rfl⟩ := hrel
    go_wp2_with fail
    ((with_reducible refine HC.out.mono ?_))
    rintro e W2 ⟨rfl, b2⟩
    have HF : Hid (BoolP (decide (1 + K ≤ 120)) w (.returned (.bool (decide (((1 + K : Nat) : Int) ≤ 120)))) W2) := Lib.hid ⟨by congr 2; exact decide_eq_decide.2 (by omega), HBX.out.trans (b2.mono HBX.out.size)⟩
    clear b2 HC
    go_wp2_with fail
    go_ret
    exact HF.out

theorem bl_fill (A : Option Addr) (n c : Nat) : Instr.fill (fun i => some (i * 11, 11)) ((Array.range (1 * 11)).map ((Value.agg (lnB none 0 0)).cells[· % (Value.agg (lnB none 0 0)).cells.size]!)) [(0, .agg (lnB A n c))] = some (lnB A n c) := by kernel_rfl
theorem wpList_blSlice {ops : Array Oper} {rest : List Oper} {o : Oper} {a : Act} {w : World} {Q : Exit → Act → World → Prop} (hg : o.guard = none) (x : Operand) (ho : o.op = .buildSlice 47 1 #[(0, x)]) (A : Option Addr) (n c : Nat) (hx : a.eval x = .agg (lnB A n c))
    (h : wpList Try.prog ops Q rest (a.put o.dst (.slice (some ⟨w.heap.size, 0, none⟩) 1 1)) (w.alloc (.cells (lnB A n c) 49))) : wpList Try.prog ops Q (o :: rest) a w := by
  obtain ⟨i0, hi0, hz0, hz1, hz2⟩ := info_parts blk_info
  refine wpList_buildSlice hg 47 49 1 _ ho _ i0 _ Try.underlying47 hi0 hz0 (by rw [hz1]; decide) (by rw [hz1]; decide) ?_ h
  rw [hz1]
  have e : (#[((0 : Nat), x)].map fun (q : Nat × Operand) => (q.1, a.eval q.2)).toList = [(0, a.eval x)] := by simp
  rw [hx] at e
  show Instr.fill _ _ (#[((0 : Nat), x)].map fun (q : Nat × Operand) => (q.1, a.eval q.2)).toList = _
  rw [e]
  exact bl_fill A n c
/-- The pieces looked at are short. -/
def FewN (ps : List PcT) (i : Nat) : Prop := ∀ j, j < i → (pcX ps j).ch.size ≤ 9 ∧ (pcX ps j).n ≤ 40
/-- The inlines so far lie in a row of the call's own. -/
def FwW (w : World) (S : Nat → Prop) (ps : List PcT) (i : Nat) (v : Value) (wr : World) : Prop :=
  FewN ps i ∧ (∃ vs, RepIs wr S vs ((ps.map (·.inl)).take i) ∧ wr.ownsRow w.heap.size 37 10 v i (vs.flatMap Array.toList)) ∧ Below w.heap.size w wr
theorem fewP_no {ps : List PcT} {i : Nat} (hi : i < ps.length) (h : ¬ ((pcX ps i).ch.size ≤ 9 ∧ (pcX ps i).n ≤ 40)) : fewP ps = false := by
  have e : pcX ps i = ps[i] := by unfold pcX; rw [List.getD_eq_getElem?_getD, List.getElem?_eq_getElem hi]; rfl
  rw [e] at h
  unfold fewP
  have : (ps.all fun p => decide (p.ch.size ≤ 9) && decide (p.n ≤ 40)) = false := by
    rw [List.all_eq_false]
    exact ⟨ps[i], List.getElem_mem hi, by simpa using h⟩
  rw [this]; simp
theorem fewP_yes {ps : List PcT} (hl : ps.length ≤ 40) (h : FewN ps ps.length) : fewP ps = decide (1 + wgtF 21 (ps.map (·.inl)) ≤ 120) := by
  unfold fewP
  have : (ps.all fun p => decide (p.ch.size ≤ 9) && decide (p.n ≤ 40)) = true := by
    rw [List.all_eq_true]
    intro p hp
    obtain ⟨i, hi, rfl⟩ := List.mem_iff_getElem.1 hp
    have e : pcX ps i = ps[i] := by unfold pcX; rw [List.getD_eq_getElem?_getD, List.getElem?_eq_getElem hi]; rfl
    have := h i hi
    rw [e] at this
    simpa using this
  rw [this]; simp [hl]
set_option maxHeartbeats 4000000 in
set_option maxRecDepth 100000 in
theorem t_few {S : Nat → Prop} {L : Value} {ps : List PcT} (w : World) (hL : PcsR w S L ps) (hS : ∀ g, S g → g < w.heap.size) (ho : OkPs ps) :
    Calls Try.prog 9 #[L] w (BoolP (fewP ps) w) := by
  obtain ⟨A0, c0, vs0, hL0, -⟩ := id hL
  subst hL0
  have hm := ho.1
  unfold maxLen at hm
  have HOK := Lib.hid ho.2
  by_cases h40 : 40 < ps.length
  · have hF : fewP ps = false := by unfold fewP; rw [decide_eq_false (by omega)]; rfl
    rw [hF]
    have h40' : (40 : Int) < (ps.length : Int) := by omega
    clear hL hF ho HOK
    go_enter Try.func9, Try.ntmps9
    go_wp2_with fail
    go_ret
    exact ⟨rfl, Below.refl _ w⟩
  have h40' : decide ((40 : Int) < (ps.length : Int)) = false := decide_eq_false (by omega)
  have hl40 : ps.length ≤ 40 := by omega
  have HL := Lib.hid hL
  have HS := Lib.hid hS
  obtain ⟨i0, hi0, hz0, hz1, hz2⟩ := info_parts inl_info
  have H0 : Hid (FwW w S ps 0 (.slice none 0 0) w) := Lib.hid ⟨fun j hj => absurd hj (by omega), ⟨[], .nil, World.ownsRow_nil _ _ _ _⟩, Below.refl _ w⟩
  clear hL hS ho
  go_enter Try.func9, Try.ntmps9
  go_wp2_with fail
  clear h40'
  go_loopw [3, 4] (fun v3 v4 wr => ∃ i : Nat, i ≤ ps.length ∧ v4 = .int .i64 i ∧ Hid (FwW w S ps i v3 wr)) (fun _ v4 _ => ps.length - (intOf v4).toNat)
  case atStart => exact ⟨0, Nat.zero_le _, rfl, H0⟩
  case round =>
    clear H0
    obtain ⟨i, hi, rfl, HI⟩ := hrel
    obtain ⟨hfn, ⟨vs, hrep, hown⟩, hbw⟩ := HI.out
    obtain ⟨A3, c3, hv3, -, -⟩ := own_form hown
    subst hv3
    have hzw := hbw.size
    by_cases hlt : i < ps.length
    · have hLr : PcsR wr S (.slice A0 ps.length c0) ps := HL.out.keep (fun g hg => hbw.block g (HS.out g hg)) fun _ h => h
      obtain ⟨b, off, c, e, hb, hat⟩ := hLr.opn (by omega)
      obtain ⟨x0, x1, x2, x3, x4, x5, x6, x7, x8, x9, hr, hrg, hone⟩ := hat i hlt
      injection e with e1 e2 e3
      subst e1
      subst e3
      have hch : wr.cell? ⟨b, off + i * 18 + 11, none⟩ = some (.string (pcX ps i).ch) := hrg 11 _ rfl
      have hcn : wr.cell? ⟨b, off + i * 18 + 12, none⟩ = some (.int .i64 (pcX ps i).n) := hrg 12 _ rfl
      have hii : (i : Int) < (ps.length : Int) := by omega
      have hi00 : (0 : Int) ≤ (i : Int) := by omega
      have epc : pcX ps i = ps[i] := by unfold pcX; rw [List.getD_eq_getElem?_getD, List.getElem?_eq_getElem hlt]; rfl
      have hok := HOK.out (pcX ps i) (by rw [epc]; exact List.getElem_mem hlt)
      obtain ⟨-, hcs, hn1, hn2⟩ := hok
      unfold reachBytes at hcs
      by_cases hs9 : 9 < (pcX ps i).ch.size
      · have hs9' : (9 : Int) < ((pcX ps i).ch.size : Int) := by omega
        have HF : Hid (BoolP (fewP ps) w (.returned (.bool false)) wr) := Lib.hid ⟨by rw [fewP_no hlt (fun h => by omega)], hbw⟩
        clear hfn hrep hown hbw hLr hat hr hrg hone HI HOK
        clear epc
        generalize (pcX ps i).ch = ch at *
        generalize (pcX ps i).n = pn at *
        go_wp2_with fail
        go_ret
        exact HF.out
      have hs9' : decide ((9 : Int) < ((pcX ps i).ch.size : Int)) = false := decide_eq_false (by omega)
      by_cases hn40 : 40 < (pcX ps i).n
      · have HF : Hid (BoolP (fewP ps) w (.returned (.bool false)) wr) := Lib.hid ⟨by rw [fewP_no hlt (fun h => by omega)], hbw⟩
        clear hfn hrep hown hbw hLr hat hr hrg hone HI HOK
        clear epc
        generalize (pcX ps i).ch = ch at *
        generalize (pcX ps i).n = pn at *
        go_wp2_with fail
        go_ret
        exact HF.out
      have hn40' : decide (40 < (pcX ps i).n) = false := decide_eq_false hn40
      have HG : Hid (wr.rangeAt b (off + i * 18 + 1) [x0, x1, x2, x3, x4, x5, x6, x7, x8, x9]) := Lib.hid fun j u hj => by
        have hj10 := (List.getElem?_eq_some_iff.1 hj).1
        simp only [List.length_cons, List.length_nil] at hj10
        rw [Nat.add_assoc (off + i * 18) 1 j]
        refine hrg (1 + j) u ?_
        rw [← hj, Nat.add_comm 1 j]
        match j, hj10 with
        | 0, _ => rfl
        | 1, _ => rfl
        | 2, _ => rfl
        | 3, _ => rfl
        | 4, _ => rfl
        | 5, _ => rfl
        | 6, _ => rfl
        | 7, _ => rfl
        | 8, _ => rfl
        | 9, _ => rfl
      have HV1 := Lib.hid hr.one
      have HOWN := Lib.hid (own_below hown ((Below.refl _ wr).alloc (Nat.le_refl _) (.cells #[x0, x1, x2, x3, x4, x5, x6, x7, x8, x9] 37)))
      have HPU : Hid (∀ (W7 : World) (g7 cap7 : Nat), W7.ownsRow w.heap.size 37 10 (.slice (some ⟨g7, 0, none⟩) (i + 1) cap7) (i + 1) (vs.flatMap Array.toList ++ [x0, x1, x2, x3, x4, x5, x6, x7, x8, x9]) → (wr.alloc (.cells #[x0, x1, x2, x3, x4, x5, x6, x7, x8, x9] 37)).grownBy W7 (Value.slice A3 i c3).ownBlock → FwW w S ps (i + 1) (.slice (some ⟨g7, 0, none⟩) (i + 1) cap7) W7) := Lib.hid fun W7 g7 cap7 h7 hgr => by
        have hbel : Below w.heap.size w W7 := ((hbw.alloc hzw _).grown hgr (by simp; omega) fun k hk => (hown.lt k hk).1)
        have hk : ∀ g, S g → W7.heap[g]? = wr.heap[g]? := fun g hg => (hbel.block g (HS.out g hg)).trans (hbw.block g (HS.out g hg)).symm
        refine ⟨fun j hj => ?_, ⟨vs ++ [#[x0, x1, x2, x3, x4, x5, x6, x7, x8, x9]], ?_, ?_⟩, hbel⟩
        · rcases Nat.lt_or_ge j i with hji | hji
          · exact hfn j hji
          · obtain rfl : j = i := by omega
            exact ⟨by omega, by omega⟩
        · have hlm : i < (ps.map (·.inl)).length := by rw [List.length_map]; exact hlt
          rw [List.take_succ_eq_append_getElem hlm, List.getElem_map, ← epc]
          exact (hrep.keep hk fun _ h => h).snoc (hr.keep hk fun _ h => h)
        · rw [List.flatMap_append, List.flatMap_singleton]; exact h7
      clear hfn hrep hown hLr hat hr hrg hone HI
      clear epc
      generalize (pcX ps i).ch = ch at *
      generalize (pcX ps i).n = pn at *
      go_wp2_with (first | (refine wpList_load_mid rfl 37 (.tmp 33) rfl b (off + i * 18 + 1) rfl _ _ HG.out Try.underlying37 rfl inl_size ?_) | (refine wpList_inSlice rfl (.tmp 34) rfl x0 x1 x2 x3 x4 x5 x6 x7 x8 x9 rfl ?_) | (at_builtin; refine wpList_append_lies _ rfl _ _ 26 rfl w.heap.size 37 i0 _ 10 192 Try.underlying26 hi0 hz0 hz1 hz2 rfl (by decide) _ _ _ rfl HOWN.out ⟨wr.heap.size, 0, none⟩ 1 1 [x0, x1, x2, x3, x4, x5, x6, x7, x8, x9] rfl rfl ?c1 ?c2 (by decide) ?c3 ?c4 ?c5 (wr.heap.size + 1) ?c6 ?_))
      case c2 => simpa using HV1.out
      case c3 => unfold maxLen; omega
      case c4 => omega
      case c5 => omega
      intro g7 cap7 W7 hown hgrow hlies hlt7
      have HF := Lib.hid (HPU.out W7 g7 cap7 hown hgrow)
      clear hown hgrow hlies hlt7 HPU
      go_wp2_with fail
      go_roundw
      case rel => exact ⟨i + 1, by omega, by go_num, HF⟩
      case measure => simp [intOf]; omega
    · obtain rfl : i = ps.length := by omega
      have hfy := fewP_yes hl40 hfn
      have htk : (ps.map (·.inl)).take ps.length = ps.map (·.inl) := by rw [← List.length_map (f := fun p : PcT => p.inl), List.take_length]
      rw [htk] at hrep
      have hll : (ps.map (·.inl)).length = ps.length := List.length_map _
      have hokl : okL (ps.map (·.inl)) := okL_of _ fun t ht => by
        obtain ⟨p, hp, rfl⟩ := List.mem_map.1 ht
        exact (HOK.out p hp).1
      have HB2 : Hid (Below wr.heap.size wr (wr.alloc (.cells (lnB A3 ps.length c3) 49))) := Lib.hid ((Below.refl _ wr).alloc (Nat.le_refl _) _)
      have hSM := Lib.hid (t_Small (S := fun g => S g ∨ (w.heap.size ≤ g ∧ g < wr.heap.size)) (A := A3) (c := c3) (g := wr.heap.size) (vs := vs) (l := ps.map (·.inl)) (wr.alloc (.cells (lnB A3 ps.length c3) 49)) (hrep.keep (fun g hg => HB2.out.block g (Nat.lt_of_lt_of_le (HS.out g hg) hzw)) fun _ h => .inl h) (by
        rw [hll]
        exact (ReadsS.of_own hown).keep (fun g hg => HB2.out.block g hg.2) fun _ h => .inr h) (fun g hg => Nat.lt_of_lt_of_le (by
        rcases hg with hg | hg
        · exact Nat.lt_of_lt_of_le (HS.out g hg) hzw
        · exact hg.2) HB2.out.size) hokl (by rw [hll]; exact Blk.new wr _ _))
      rw [← hfy] at hSM
      have HB3 : Hid (Below w.heap.size w (wr.alloc (.cells (lnB A3 ps.length c3) 49))) := Lib.hid (hbw.alloc hzw _)
      clear hfn hrep hown hbw HI hfy hokl
      have hln : (#[.int .i64 0, .int .i64 0, .string ⟨#[]⟩, .string ⟨#[]⟩, .string ⟨#[]⟩, .string ⟨#[]⟩, .string ⟨#[]⟩, .slice none 0 0, .slice none 0 0, .slice A3 ps.length c3, .slice none 0 0] : Array Value) = lnB A3 ps.length c3 := rfl
      go_wp2_with (refine wpList_blSlice rfl (.tmp 38) rfl A3 ps.length c3 rfl ?_; generalize wr.alloc (.cells (lnB A3 ps.length c3) 49) = W3 at *)
      ((with_reducible refine hSM.out.mono ?_))
      rintro e W4 ⟨rfl, b4⟩
      have HF := Lib.hid (HB3.out.trans (b4.mono HB3.out.size))
      clear b4 hSM
      go_wp2_with fail
      go_ret
      exact ⟨rfl, HF.out⟩

end Go.Proofs.Ytfnloonmeilhlaa
namespace Go.Pub
def exP : List PcT := [plR ⟨#[42]⟩ 1 true false, plW ⟨#[97, 32]⟩, plR ⟨#[42]⟩ 2 true false, plW ⟨#[98]⟩, plR ⟨#[42]⟩ 3 false true]
theorem exP_nest : nestA exP = [kidT 6 [txtT 1 ⟨#[97, 32]⟩, kidT 7 [txtT 1 ⟨#[98]⟩]]] := by kernel_rfl
theorem exP_prs : (matchA exP).prs = [(2, 4, 2), (0, 4, 1)] := by decide +kernel
theorem exP_z : sumZ exP exP.length ≤ 30000 := by decide +kernel
theorem exP_inl : ∀ p ∈ exP, p.inl = txtT p.inl.kind p.inl.text := by
  intro p hp
  simp only [exP, List.mem_cons, List.not_mem_nil, or_false] at hp
  rcases hp with rfl | rfl | rfl | rfl | rfl <;> rfl
end Go.Pub
namespace Go.Proofs.Ytfnloonmeilhlaa
open Go.RowKit Go.Pub
set_option maxHeartbeats 4000000 in
set_option maxRecDepth 100000 in
theorem l_awake (w : World) : Calls Try.prog 10 #[] w fun e w' => e = .returned (.bool true) ∧ Below w.heap.size w w' := by
  have HP := Lib.hid fun (W : World) => e_Nest (W.alloc (.cells (plF exP) 39)) (pcs_new W exP exP_inl (by decide)) exP_z
  have HQ := Lib.hid fun (W W2 : World) (hb : Below (W.alloc (.cells (plF exP) 39)).heap.size (W.alloc (.cells (plF exP) 39)) W2) => e_Pairs W2 ((pcs_new W exP exP_inl (by decide)).keep (fun g hg => hb.block g hg) fun g hg => Nat.lt_of_lt_of_le hg hb.size) exP_z
  simp only [exP_nest, show exP.length = 5 from rfl] at HP
  simp only [exP_prs, show exP.length = 5 from rfl] at HQ
  go_enter Try.func10, Try.ntmps10
  go_wp2_with fail
  ((with_reducible refine (l_run _ _ _ _ _).mono ?_))
  rintro e w1 ⟨rfl, b1⟩
  have B1 := Lib.hid b1
  have z1 := b1.size
  clear b1
  go_wp2_with fail
  ((with_reducible refine (l_word _ _).mono ?_))
  rintro e w2 ⟨rfl, b2⟩
  have B2 := Lib.hid (B1.out.trans (b2.mono z1))
  have z2 := B2.out.size
  clear b2 B1 z1
  go_wp2_with fail
  ((with_reducible refine (l_run _ _ _ _ _).mono ?_))
  rintro e w3 ⟨rfl, b3⟩
  have B3 := Lib.hid (B2.out.trans (b3.mono z2))
  have z3 := B3.out.size
  clear b3 B2 z2
  go_wp2_with fail
  ((with_reducible refine (l_word _ _).mono ?_))
  rintro e w4 ⟨rfl, b4⟩
  have B4 := Lib.hid (B3.out.trans (b4.mono z3))
  have z4 := B4.out.size
  clear b4 B3 z3
  go_wp2_with fail
  ((with_reducible refine (l_run _ _ _ _ _).mono ?_))
  rintro e w5 ⟨rfl, b5⟩
  have B5 := Lib.hid (B4.out.trans (b5.mono z4))
  have z5 := B5.out.size
  clear b5 B4 z4
  have HB6 : Hid (Below w.heap.size w (w5.alloc (.cells (plF exP) 39))) := Lib.hid (B5.out.alloc z5 _)
  have hfl : plF [plR ⟨#[42]⟩ 1 true false, plW ⟨#[97, 32]⟩, plR ⟨#[42]⟩ 2 true false, plW ⟨#[98]⟩, plR ⟨#[42]⟩ 3 false true] = plF exP := rfl
  have hz6 : (w5.alloc (.cells (plF exP) 39)).heap.size = w5.heap.size + 1 := by simp
  have HPW := Lib.hid (HP.out w5)
  have HQW := Lib.hid (HQ.out w5)
  clear HP HQ
  go_wp2_with (refine wpList_pcs5 rfl _ _ _ _ _ rfl (plR ⟨#[42]⟩ 1 true false) (plW ⟨#[97, 32]⟩) (plR ⟨#[42]⟩ 2 true false) (plW ⟨#[98]⟩) (plR ⟨#[42]⟩ 3 false true) rfl rfl rfl rfl rfl ?_; rw [hfl]; generalize w5.alloc (.cells (plF exP) 39) = w6 at *)
  ((with_reducible refine HPW.out.mono ?_))
  rintro e w7 ⟨A, c, vs, rfl, hr, hm, b7⟩
  obtain ⟨b, off, rfl, hb, q1, q2, A5, c5, vs5, q3, hr5, hm5⟩ := hr.look hm 0 (by decide)
  obtain ⟨bb, oo, rfl, hb2, p1, p2, -⟩ := hr5.look hm5 0 (by decide)
  obtain ⟨bb', oo', e', -, p3, -⟩ := hr5.look hm5 1 (by decide)
  injection e' with e'
  injection e' with e1 e2
  subst e1 e2
  clear hr hm hr5 hm5
  have HPP := Lib.hid (HQW.out w7 b7)
  have B7 := Lib.hid (HB6.out.trans (b7.mono HB6.out.size))
  have z7 := B7.out.size
  have HK : Hid (∀ w8 : World, Below w7.heap.size w7 w8 → w8.cell? ⟨b, off, none⟩ = some (.int .i64 6) ∧ w8.cell? ⟨b, off + 9, none⟩ = some (.slice (some ⟨bb, oo, none⟩) 2 c5) ∧ w8.cell? ⟨bb, oo + 1, none⟩ = some (.string ⟨#[97, 32]⟩) ∧ w8.cell? ⟨bb, oo + 10, none⟩ = some (.int .i64 7)) := Lib.hid fun w8 h8 =>
    ⟨(h8.cell (p := ⟨b, off, none⟩) hb.2).trans q1, (h8.cell (p := ⟨b, off + 9, none⟩) hb.2).trans q3, (h8.cell (p := ⟨bb, oo + 1, none⟩) hb2.2).trans p2, (h8.cell (p := ⟨bb, oo + 10, none⟩) hb2.2).trans p3⟩
  clear q1 q2 q3 p1 p2 p3 b7 HPW HQW
  go_wp2_with fail
  ((with_reducible refine HPP.out.mono ?_))
  rintro e w8 ⟨A8, c8, rfl, hm8, b8⟩
  obtain ⟨k1, k2, k3, k4⟩ := HK.out w8 b8
  obtain ⟨b9, o9, rfl, hb9, hc9⟩ := hm8.row (by decide) (by decide)
  have HB8 := Lib.hid (B7.out.trans (b8.mono z7))
  have r0 : w8.cell? ⟨b9, o9, none⟩ = some (.int .i64 2) := hc9 0 _ rfl
  have r1 : w8.cell? ⟨b9, o9 + 1, none⟩ = some (.int .i64 4) := hc9 1 _ rfl
  have r2 : w8.cell? ⟨b9, o9 + 2, none⟩ = some (.int .i64 2) := hc9 2 _ rfl
  have r3 : w8.cell? ⟨b9, o9 + 3, none⟩ = some (.int .i64 0) := hc9 3 _ rfl
  have r4 : w8.cell? ⟨b9, o9 + 3 + 1, none⟩ = some (.int .i64 4) := hc9 4 _ rfl
  have r5 : w8.cell? ⟨b9, o9 + 3 + 2, none⟩ = some (.int .i64 1) := hc9 5 _ rfl
  have he1 : ∀ W, Sem.run Try.prog (Op.equalIn 10000 30 (Value.agg #[.int .i64 2, .int .i64 4, .int .i64 2]) (Value.agg #[.int .i64 2, .int .i64 4, .int .i64 2])) W = .ok true W := fun _ => by kernel_rfl
  have he2 : ∀ W, Sem.run Try.prog (Op.equalIn 10000 30 (Value.agg #[.int .i64 0, .int .i64 4, .int .i64 1]) (Value.agg #[.int .i64 0, .int .i64 4, .int .i64 1])) W = .ok true W := fun _ => by kernel_rfl
  clear hm8 hc9 b8 HK HPP
  go_wp2_with fail
  go_ret
  exact ⟨rfl, HB8.out⟩

end Go.Proofs.Ytfnloonmeilhlaa
namespace Go.Pub
open Go.RowKit
theorem sizeI_set (x : InT) (s : List UInt8) : sizeI (setTxt x s) + x.text.toList.length = sizeI x + s.length := by
  obtain ⟨k, t, d, ti, a, ar, c, ks⟩ := x
  show sizeI (.mk k ⟨s.toArray⟩ d ti a ar c ks) + t.toList.length = _
  rw [sizeI, sizeI]
  have h1 : (⟨s.toArray⟩ : ByteArray).size = s.length := by show s.toArray.size = _; simp
  have h2 : t.toList.length = t.size := by rw [Lib.toList_data]; exact Array.length_toList
  omega
theorem sizeI_text (x : InT) : 1 + x.text.toList.length ≤ sizeI x := by
  obtain ⟨k, t, d, ti, a, ar, c, ks⟩ := x
  rw [sizeI]
  have h2 : t.toList.length = t.size := by rw [Lib.toList_data]; exact Array.length_toList
  show 1 + t.toList.length ≤ _
  omega
theorem sizeL_cons (x : InT) (l : List InT) : sizeL (x :: l) = sizeI x + sizeL l := by rw [sizeL]
theorem sizeL_join : ∀ l : List InT, sizeL (joinT l) ≤ sizeL l
  | [] => Nat.le_refl _
  | x :: l => by
    have ih := sizeL_join l
    rw [sizeL_cons]
    by_cases hk : x.kind = 1
    · by_cases ht : x.text.toList = []
      · rw [joinT_empty hk ht]; omega
      · rw [joinT_cons, if_neg (by simp [hk]), if_neg ht]
        cases hj : joinT l with
        | nil => dsimp only; rw [sizeL_cons]; show sizeI x + sizeL [] ≤ _; rw [sizeL]; omega
        | cons y r =>
          rw [hj, sizeL_cons] at ih
          dsimp only
          split
          · rw [sizeL_cons]
            have h1 := sizeI_set x (x.text.toList ++ y.text.toList)
            rw [List.length_append] at h1
            have h2 := sizeI_text y
            omega
          · rw [sizeL_cons, sizeL_cons]; omega
    · rw [joinT_no hk, sizeL_cons]; omega
mutual
theorem sizeI_merge : ∀ x : InT, sizeI (mergeI x) ≤ sizeI x
  | .mk k t d ti a ar c kids => by
    rw [mergeI, sizeI, sizeI]
    have h1 := sizeL_join (mapI kids)
    have h2 := sizeL_map kids
    omega
theorem sizeL_map : ∀ l : List InT, sizeL (mapI l) ≤ sizeL l
  | [] => by rw [mapI]; exact Nat.le_refl _
  | x :: l => by
    rw [mapI, sizeL_cons, sizeL_cons]
    have h1 := sizeI_merge x
    have h2 := sizeL_map l
    omega
end
theorem sizeL_merge (l : List InT) : sizeL (mergeL l) ≤ sizeL l := Nat.le_trans (sizeL_join _) (sizeL_map l)
end Go.Pub
namespace Go.Proofs.Ytfnloonmeilhlaa
open Go.RowKit Go.Pub
set_option maxRecDepth 100000 in
set_option maxHeartbeats 2000000 in
theorem l_valid (kind n : Int) (x1 x2 x3 x4 x5 x6 x7 x8 x9 x10 : Value) (ch : ByteArray) (o c i : Bool) (a b : Int) (w : World) (hn : n ≤ 262144) :
    Calls Try.prog 17 #[.agg #[.int .i64 kind, x1, x2, x3, x4, x5, x6, x7, x8, x9, x10, .string ch, .int .i64 n, .bool o, .bool c, .bool i, .int .i64 a, .int .i64 b]] w (BoolP (runBit kind ch n) w) := by
  have HE : Hid (runBit kind ch n = (decide (kind = 1) && (((decide (ch.toList = [42]) || decide (ch.toList = [95])) && decide (1 ≤ n)) || (decide (ch.toList = [126]) && decide (n = 2))))) := Lib.hid (by unfold runBit; rw [decide_eq_true hn, Bool.and_true])
  generalize runBit kind ch n = R at *
  clear hn
  have HB : Hid (Below w.heap.size w (w.alloc (.cells #[.int .i64 kind, x1, x2, x3, x4, x5, x6, x7, x8, x9, x10, .string ch, .int .i64 n, .bool o, .bool c, .bool i, .int .i64 a, .int .i64 b] 39))) := Lib.hid ((Below.refl _ w).alloc (Nat.le_refl _) _)
  have hbk := Blk.new w 39 #[.int .i64 kind, x1, x2, x3, x4, x5, x6, x7, x8, x9, x10, .string ch, .int .i64 n, .bool o, .bool c, .bool i, .int .i64 a, .int .i64 b]
  have c0 : (w.alloc (.cells #[.int .i64 kind, x1, x2, x3, x4, x5, x6, x7, x8, x9, x10, .string ch, .int .i64 n, .bool o, .bool c, .bool i, .int .i64 a, .int .i64 b] 39)).cell? ⟨w.heap.size, 0, none⟩ = some (.int .i64 kind) := hbk.cell 0
  have c1 : (w.alloc (.cells #[.int .i64 kind, x1, x2, x3, x4, x5, x6, x7, x8, x9, x10, .string ch, .int .i64 n, .bool o, .bool c, .bool i, .int .i64 a, .int .i64 b] 39)).cell? ⟨w.heap.size, 11, none⟩ = some (.string ch) := hbk.cell 11
  have c2 : (w.alloc (.cells #[.int .i64 kind, x1, x2, x3, x4, x5, x6, x7, x8, x9, x10, .string ch, .int .i64 n, .bool o, .bool c, .bool i, .int .i64 a, .int .i64 b] 39)).cell? ⟨w.heap.size, 12, none⟩ = some (.int .i64 n) := hbk.cell 12
  clear hbk
  go_enter Try.func17, Try.ntmps17
  by_cases hk : kind = 1
  · subst hk
    by_cases h1 : ch.toList = [42]
    · have q1 : (ch.toList == [42]) = true := beq_iff_eq.2 h1
      have q3 : (ch.toList == [126]) = false := by rw [h1]; decide
      by_cases h2 : 1 ≤ n
      · have d1 : decide (n ≥ 1) = true := decide_eq_true h2
        have hE : R = true := by rw [HE.out, h1]; simp [h2]
        subst hE
        clear h1 HE
        go_wp2_with fail
        go_ret
        exact ⟨rfl, HB.out⟩
      · have d1 : decide (n ≥ 1) = false := decide_eq_false h2
        have hE : R = false := by rw [HE.out, h1]; simp [h2]
        subst hE
        clear h1 HE
        go_wp2_with fail
        go_ret
        exact ⟨rfl, HB.out⟩
    have q1 : (ch.toList == [42]) = false := beq_eq_false_iff_ne.2 h1
    by_cases h1' : ch.toList = [95]
    · have q2 : (ch.toList == [95]) = true := beq_iff_eq.2 h1'
      have q3 : (ch.toList == [126]) = false := by rw [h1']; decide
      by_cases h2 : 1 ≤ n
      · have d1 : decide (n ≥ 1) = true := decide_eq_true h2
        have hE : R = true := by rw [HE.out, h1']; simp [h2]
        subst hE
        clear h1 h1' HE
        go_wp2_with fail
        go_ret
        exact ⟨rfl, HB.out⟩
      · have d1 : decide (n ≥ 1) = false := decide_eq_false h2
        have hE : R = false := by rw [HE.out, h1']; simp [h2]
        subst hE
        clear h1 h1' HE
        go_wp2_with fail
        go_ret
        exact ⟨rfl, HB.out⟩
    have q2 : (ch.toList == [95]) = false := beq_eq_false_iff_ne.2 h1'
    by_cases h3 : ch.toList = [126]
    · have q3 : (ch.toList == [126]) = true := beq_iff_eq.2 h3
      by_cases h2 : n = 2
      · have hE : R = true := by rw [HE.out, h3]; simp [h2]
        subst hE
        subst h2
        clear h1 h1' h3 HE
        go_wp2_with fail
        go_ret
        exact ⟨rfl, HB.out⟩
      · have d2 : (n == 2) = false := beq_eq_false_iff_ne.2 h2
        have hE : R = false := by rw [HE.out, h3]; simp [h2]
        subst hE
        clear h1 h1' h3 HE
        go_wp2_with fail
        go_ret
        exact ⟨rfl, HB.out⟩
    · have q3 : (ch.toList == [126]) = false := beq_eq_false_iff_ne.2 h3
      have hE : R = false := by rw [HE.out]; simp [h1, h1', h3]
      subst hE
      clear h1 h1' h3 HE
      go_wp2_with fail
      go_ret
      exact ⟨rfl, HB.out⟩
  · have hE : R = false := by rw [HE.out]; simp [hk]
    have q0 : (kind == 1) = false := beq_eq_false_iff_ne.2 hk
    subst hE
    clear HE
    go_wp2_with fail
    go_ret
    exact ⟨rfl, HB.out⟩

end Go.Proofs.Ytfnloonmeilhlaa
namespace Go.Pub
theorem sizeI_txt' (x : InT) : x.text.toList.length ≤ sizeI x := by
  obtain ⟨k, t, d, ti, a, ar, c, ks⟩ := x
  rw [sizeI]
  have h2 : t.toList.length = t.size := by rw [Lib.toList_data]; exact Array.length_toList
  show t.toList.length ≤ _
  omega
theorem joinT_text : ∀ (l : List InT) (y : InT), y ∈ joinT l → y.text.toList.length ≤ sizeL l
  | [], y, h => by simp [joinT] at h
  | x :: l, y, h => by
    have ih := joinT_text l
    have hx := sizeI_txt' x
    rw [sizeL]
    by_cases hk : x.kind = 1
    · by_cases ht : x.text.toList = []
      · rw [joinT_empty hk ht] at h
        have := ih y h; omega
      · rw [joinT_cons, if_neg (by simp [hk]), if_neg ht] at h
        cases hj : joinT l with
        | nil =>
          rw [hj] at h
          have : y = x := by simpa using h
          subst this; omega
        | cons z r =>
          rw [hj] at h ih
          have hz := ih z (by simp)
          dsimp only at h
          split at h
          · rcases List.mem_cons.1 h with rfl | h
            · rw [setTxt_text, List.length_append]; omega
            · have := ih y (List.mem_cons_of_mem _ h); omega
          · rcases List.mem_cons.1 h with rfl | h
            · omega
            · have := ih y h; omega
    · rw [joinT_no hk] at h
      rcases List.mem_cons.1 h with rfl | h
      · omega
      · have := ih y h; omega
end Go.Pub
namespace Go.Proofs.Ytfnloonmeilhlaa
open Go.RowKit Go.Pub
/-- What is joined lies in a row of the call's own; what is read of it is not in the row. -/
def MrR (w : World) (S0 : Nat → Prop) (done : List InT) (v : Value) (wr : World) : Prop :=
  (∃ (S : Nat → Prop) (vs : List (Array Value)), (∀ g, S g → (S0 g ∨ w.heap.size ≤ g) ∧ g < wr.heap.size ∧ v.ownBlock ≠ some g) ∧ RepIs wr S vs done ∧ wr.ownsRow w.heap.size 37 10 v done.length (vs.flatMap Array.toList)) ∧ Below w.heap.size w wr
section
variable {w wr W W7 : World} {S0 : Nat → Prop} {done : List InT} {v : Value}
theorem MrR.call (h : MrR w S0 done v wr) (hb : Below wr.heap.size wr W) : MrR w S0 done v W := by
  obtain ⟨⟨S, vs, h1, h2, h3⟩, h4⟩ := h
  exact ⟨⟨S, vs, fun g hg => ⟨(h1 g hg).1, Nat.lt_of_lt_of_le (h1 g hg).2.1 hb.size, (h1 g hg).2.2⟩, h2.keep (fun g hg => hb.block g (h1 g hg).2.1) fun _ h => h, own_below h3 hb⟩, h4.trans (hb.mono h4.size)⟩
theorem MrR.push {g cap H : Nat} {x : InT} {u : Array Value} {o : Obj} {S2 S : Nat → Prop} {vs : List (Array Value)} (h : MrR w S0 done v wr) (h1 : ∀ g, S g → (S0 g ∨ w.heap.size ≤ g) ∧ g < wr.heap.size ∧ v.ownBlock ≠ some g) (h2 : RepIs wr S vs done) (h3 : wr.ownsRow w.heap.size 37 10 v done.length (vs.flatMap Array.toList)) (hb : Below wr.heap.size wr W) (hx : RepI W S2 u x)
    (hS2 : ∀ g, S2 g → (S0 g ∧ g < w.heap.size) ∨ (wr.heap.size ≤ g ∧ g < W.heap.size)) (hown : W7.ownsRow w.heap.size 37 10 (.slice (some ⟨g, 0, none⟩) (done.length + 1) cap) (done.length + 1) (vs.flatMap Array.toList ++ u.toList))
    (hgrow : (W.alloc o).grownBy W7 v.ownBlock) (hlies : v.ownBlock = some g ∨ g = H) (hH : W.heap.size ≤ H) :
    MrR w S0 (done ++ [x]) (.slice (some ⟨g, 0, none⟩) (done.length + 1) cap) W7 := by
  have hlt := h3.lt
  have hzb := h.2.size
  have hzW := hb.size
  have hz7 := hgrow.size
  rw [World.size_alloc] at hz7
  have hk : ∀ k, k < W.heap.size → v.ownBlock ≠ some k → W7.heap[k]? = W.heap[k]? := fun k hk hne => (hgrow.block k (by rw [World.size_alloc]; omega) fun e => hne e.symm).trans (Below.heap_alloc W o k hk)
  refine ⟨⟨fun k => S k ∨ S2 k, vs ++ [u], fun k hk => ?_, ?_, ?_⟩, ?_⟩
  · rcases hk with hk | hk
    · obtain ⟨a1, a2, a3⟩ := h1 k hk
      refine ⟨a1, by omega, fun e => ?_⟩
      have e' : g = k := by simpa [Value.ownBlock] using e
      subst e'
      rcases hlies with hl | hl
      · exact a3 hl
      · omega
    · rcases hS2 k hk with ⟨a1, a2⟩ | ⟨a1, a2⟩
      · refine ⟨.inl a1, by omega, fun e => ?_⟩
        have e' : g = k := by simpa [Value.ownBlock] using e
        subst e'
        rcases hlies with hl | hl
        · have := (hlt g hl).1; omega
        · omega
      · refine ⟨.inr (by omega), by omega, fun e => ?_⟩
        have e' : g = k := by simpa [Value.ownBlock] using e
        subst e'
        rcases hlies with hl | hl
        · have := (hlt g hl).2; omega
        · omega
  · refine RepIs.snoc (h2.keep (fun k hk' => ?_) fun _ h => Or.inl h) (hx.keep (fun k hk' => ?_) fun _ h => Or.inr h)
    · obtain ⟨a1, a2, a3⟩ := h1 k hk'
      exact (hk k (by omega) a3).trans (hb.block k a2)
    · rcases hS2 k hk' with ⟨a1, a2⟩ | ⟨a1, a2⟩
      · exact hk k (by omega) fun e => by have := (hlt k e).1; omega
      · exact hk k a2 fun e => by have := (hlt k e).2; omega
  · rw [List.length_append, List.length_singleton, List.flatMap_append, List.flatMap_singleton]
    exact hown
  · refine ⟨hgrow.os.trans (hb.os.trans h.2.os), hgrow.tape.trans (hb.tape.trans h.2.tape), hgrow.output.trans (hb.output.trans h.2.output), by omega, fun k hk' => ?_⟩
    exact (hk k (by omega) fun e => by have := (hlt k e).1; omega).trans ((hb.block k (by omega)).trans (h.2.block k hk'))
end
/-- Merged inlines, in a row of the call's own. -/
def RmgP (S0 : Nat → Prop) (l : List InT) (w : World) (e : Ending) (w' : World) : Prop :=
  ∃ A c vs, e = .returned (.slice A (mergeL l).length c) ∧ RepIs w' (fun g => S0 g ∨ NewG w w' g) vs (mergeL l) ∧ w'.ownsRow w.heap.size 37 10 (.slice A (mergeL l).length c) (mergeL l).length (vs.flatMap Array.toList) ∧ Below w.heap.size w w'
def RmgH (N : Nat) : Prop := ∀ l : List InT, sizeL l ≤ N → ∀ (S0 : Nat → Prop) (w : World) (A : Option Addr) (c : Nat) (vs : List (Array Value)), RepIs w S0 vs l → ReadsS w S0 10 A l.length (vs.flatMap Array.toList) → (∀ g, S0 g → g < w.heap.size) → Calls Try.prog 18 #[.slice A l.length c] w (RmgP S0 l w)
theorem RepIs.sizes {w : World} {S : Nat → Prop} : ∀ {vs : List (Array Value)} {l : List InT}, RepIs w S vs l → ∀ v ∈ vs, v.size = 10
  | _, _, .nil, v, h => absurd h (by simp)
  | _, _, .cons u b vs bs h1 h2, v, h => by
    rcases List.mem_cons.1 h with rfl | h
    · exact h1.size
    · exact RepIs.sizes h2 v h
theorem RepIs.last {w : World} {S : Nat → Prop} {vs : List (Array Value)} {o : List InT} {y : InT} (h : RepIs w S vs (o ++ [y])) : ∃ us u, vs = us ++ [u] ∧ RepIs w S us o ∧ RepI w S u y := by
  induction o generalizing vs with
  | nil =>
    cases h with
    | cons v b vs' bs h1 h2 => cases h2; exact ⟨[], v, rfl, .nil, h1⟩
  | cons x o ih =>
    cases h with
    | cons v b vs' bs h1 h2 =>
      obtain ⟨us, u, rfl, g1, g2⟩ := ih h2
      exact ⟨v :: us, u, rfl, .cons _ _ _ _ h1 g1, g2⟩
set_option maxHeartbeats 8000000 in
set_option maxRecDepth 100000 in
theorem r_merge (N : Nat) (hN : N ≤ 1000000) (hM : ∀ x : InT, sizeI x ≤ N → RmgH (sizeL x.kids)) : RmgH N := by
  intro l hl S0 w A c vs h1 h2 hS
  have hlen := sizeL_len l
  have HEL : Hid (∀ i (hi : i < l.length), ∃ b off v, A = some ⟨b, off, none⟩ ∧ b < w.heap.size ∧ RepI w S0 v l[i] ∧ w.rangeAt b (off + i * 10) v.toList) := Lib.hid fun i hi => by
    obtain ⟨b, off, e, hb, hc⟩ := h2.row (by omega) (by decide)
    obtain ⟨v, hv, hvc⟩ := h1.at_ i hi
    refine ⟨b, off, v, e, hS b hb, hv, fun j u hj => ?_⟩
    have hj10 : j < 10 := by have := (List.getElem?_eq_some_iff.1 hj).1; rw [Array.length_toList, hv.size] at this; exact this
    rw [Nat.add_assoc]
    refine hc (i * 10 + j) u ?_
    rw [hvc j hj10, ← hj, Array.getElem?_toList]
  have HMG := Lib.hid fun i (hi : i < l.length) => hM l[i] (Nat.le_trans (sizeL_mem l i hi) hl)
  have HSZ := Lib.hid fun i (hi : i < l.length) => Nat.le_trans (sizeL_mem l i hi) (Nat.le_trans hl hN)
  have HTK : Hid (∀ i (hi : i < l.length), ((l.map mergeI).take (i + 1)).foldl stepJ [] = stepJ (((l.map mergeI).take i).foldl stepJ []) (mergeI l[i])) := Lib.hid fun i hi => by
    rw [foldJ_take _ i (by rw [List.length_map]; exact hi), List.getElem_map]
  have HEND : Hid (((l.map mergeI).take l.length).foldl stepJ [] = mergeL l) := Lib.hid (by
    rw [← List.length_map (f := mergeI), List.take_length, foldJ_all, ← mapI_eq]; rfl)
  have HTX : Hid (∀ i, i ≤ l.length → ∀ y ∈ ((l.map mergeI).take i).foldl stepJ [], y.text.toList.length ≤ 2000000) := Lib.hid fun i hi y hy => by
    rw [foldJ_all] at hy
    have h3 := joinT_text _ y hy
    have h4 := sizeL_map l
    rw [mapI_eq] at h4
    have h5 := sizeL_app ((l.map mergeI).take i) ((l.map mergeI).drop i)
    rw [List.take_append_drop] at h5
    omega
  have HS := Lib.hid hS
  obtain ⟨i0, hi0, hz0, hz1, hz2⟩ := info_parts inl_info
  have H0 : Hid (MrR w S0 [] (.slice none 0 0) w) := Lib.hid ⟨⟨fun _ => False, [], fun _ h => h.elim, .nil, World.ownsRow_nil _ _ _ _⟩, Below.refl _ w⟩
  have hll : l.length ≤ 1000000 := by omega
  clear h1 h2 hM hl hS
  go_enter Try.func18, Try.ntmps18
  go_wp2_with fail
  go_loopw [3, 4] (fun v3 v4 wr => ∃ (i : Nat) (done : List InT), i ≤ l.length ∧ done.length ≤ i ∧ v4 = .int .i64 i ∧ Hid (done = ((l.map mergeI).take i).foldl stepJ []) ∧ Hid (MrR w S0 done v3 wr)) (fun _ v4 _ => l.length - (intOf v4).toNat)
  case atStart => exact ⟨0, [], Nat.zero_le _, Nat.zero_le _, rfl, Lib.hid rfl, H0⟩
  case round =>
    clear H0
    obtain ⟨i, done, hi, hdi, rfl, HD, HMR⟩ := hrel
    obtain ⟨⟨S1, vs1, hS1, hr1, hown⟩, hbw⟩ := HMR.out
    obtain ⟨AO, cO, hv3, hmx, -⟩ := own_form hown
    subst hv3
    have hzw := hbw.size
    by_cases hlt : i < l.length
    · obtain ⟨b, off, v, rfl, hb, hv, hrg⟩ := HEL.out i hlt
      have hgm := HMG.out i hlt
      have hsz := HSZ.out i hlt
      have HNX0 := HTK.out i hlt
      rw [← HD.out] at HNX0
      have htx := HTX.out i hi
      rw [← HD.out] at htx
      have HTY := Lib.hid htx
      have hii : (i : Int) < (l.length : Int) := by omega
      have hi00 : (0 : Int) ≤ (i : Int) := by omega
      generalize l[i] = x at *
      have hv' := hv.keep (w' := wr) (fun g hg => hbw.block g (HS.out g hg)) fun _ h => h
      have hrg' : wr.rangeAt b (off + i * 10) v.toList := fun j u hj => (hbw.cell (p := ⟨b, off + i * 10 + j, none⟩) hb).trans (hrg j u hj)
      clear hv hrg htx
      cases hv' with
      | mk kind text dest title att args cites kids A1 A2 A3 A4 A5 c1 c2 c3 c4 c5 vs' r1 r2 r3 r4 r5 r6 =>
      have hS' : ∀ g, S0 g → g < wr.heap.size := fun g hg => Nat.lt_of_lt_of_le (HS.out g hg) hzw
      have HNX : Hid (stepJ done (mergeI (.mk kind text dest title att args cites kids)) = ((l.map mergeI).take (i + 1)).foldl stepJ []) := Lib.hid HNX0.symm
      have HG : Hid (wr.rangeAt b (off + i * 10) [.int .i64 kind, .string text, .string dest, .string title, .string att.id, .slice A1 att.cl.length c1, .slice A2 att.pr.length c2, .slice A3 args.length c3, .slice A4 cites.length c4, .slice A5 kids.length c5]) := Lib.hid hrg'
      have hB1 : Below wr.heap.size wr (wr.alloc (.cells #[.int .i64 kind, .string text, .string dest, .string title, .string att.id, .slice A1 att.cl.length c1, .slice A2 att.pr.length c2, .slice A3 args.length c3, .slice A4 cites.length c4, .slice A5 kids.length c5] 37)) := (Below.refl _ wr).alloc (Nat.le_refl _) _
      have hbk := Blk.new wr 37 #[.int .i64 kind, .string text, .string dest, .string title, .string att.id, .slice A1 att.cl.length c1, .slice A2 att.pr.length c2, .slice A3 args.length c3, .slice A4 cites.length c4, .slice A5 kids.length c5]
      have HBK1 := Lib.hid hbk
      have HB1 := Lib.hid hB1
      have x9 : (wr.alloc (.cells #[.int .i64 kind, .string text, .string dest, .string title, .string att.id, .slice A1 att.cl.length c1, .slice A2 att.pr.length c2, .slice A3 args.length c3, .slice A4 cites.length c4, .slice A5 kids.length c5] 37)).cell? ⟨wr.heap.size, 9, none⟩ = some (.slice A5 kids.length c5) := hbk.cell 9
      have hz1w : (wr.alloc (.cells #[.int .i64 kind, .string text, .string dest, .string title, .string att.id, .slice A1 att.cl.length c1, .slice A2 att.pr.length c2, .slice A3 args.length c3, .slice A4 cites.length c4, .slice A5 kids.length c5] 37)).heap.size = wr.heap.size + 1 := by simp
      have HZ1 := Lib.hid hz1w
      have HC := Lib.hid (hgm kids (Nat.le_refl _) S0 (wr.alloc (.cells #[.int .i64 kind, .string text, .string dest, .string title, .string att.id, .slice A1 att.cl.length c1, .slice A2 att.pr.length c2, .slice A3 args.length c3, .slice A4 cites.length c4, .slice A5 kids.length c5] 37)) A5 c5 vs' (r5.keep (fun g hg => hB1.block g (hS' g hg)) fun _ h => h) (r6.keep (fun g hg => hB1.block g (hS' g hg)) fun _ h => h) (fun g hg => Nat.lt_of_lt_of_le (hS' g hg) hB1.size))
      have HR1' : Hid (∀ W, Below wr.heap.size wr W → ReadsS W S0 1 A1 att.cl.length (strs att.cl) ∧ ReadsS W S0 2 A2 att.pr.length (prs att.pr) ∧ ReadsS W S0 1 A3 args.length (strs args) ∧ ReadsS W S0 4 A4 cites.length (citVT cites)) := Lib.hid fun W hW => ⟨r1.keep (fun g hg => hW.block g (hS' g hg)) fun _ h => h, r2.keep (fun g hg => hW.block g (hS' g hg)) fun _ h => h, r3.keep (fun g hg => hW.block g (hS' g hg)) fun _ h => h, r4.keep (fun g hg => hW.block g (hS' g hg)) fun _ h => h⟩
      have HS1 := Lib.hid hS1
      have HR1 := Lib.hid hr1
      have HOWN := Lib.hid hown
      have HSW := Lib.hid hS'
      have htz : text.toList.length ≤ 1000000 := by
        rw [sizeI] at hsz
        have : text.toList.length = text.size := by rw [Lib.toList_data]; exact Array.length_toList
        omega
      clear hrg' hB1 hbk hz1w r1 r2 r3 r4 r5 r6 hgm hS' hS1 hr1 hown hsz HNX0 HMG HEL
      go_wp2_with (first | (refine wpList_load_mid rfl 37 (.tmp 15) rfl b (off + i * 10) rfl _ _ HG.out Try.underlying37 rfl inl_size ?_) | (refine wpList_store_row rfl 37 (.tmp 5) (.tmp 16) rfl wr.heap.size #[.int .i64 kind, .string text, .string dest, .string title, .string att.id, .slice A1 att.cl.length c1, .slice A2 att.pr.length c2, .slice A3 args.length c3, .slice A4 cites.length c4, .slice A5 kids.length c5] rfl rfl 37 _ (Blk.new wr _ _) inl_size (by rfl) (by simp [Value.oneCell']) ?_; rw [World.setRow_alloc_new]; generalize (wr.alloc (.cells #[.int .i64 kind, .string text, .string dest, .string title, .string att.id, .slice A1 att.cl.length c1, .slice A2 att.pr.length c2, .slice A3 args.length c3, .slice A4 cites.length c4, .slice A5 kids.length c5] 37)) = W1 at *))
      ((with_reducible refine HC.out.mono ?_))
      rintro e W2 ⟨B5, d5, us, rfl, q1, q2, b2⟩
      have hzb2 := b2.size
      have hgz : wr.heap.size < W1.heap.size := by have := HZ1.out; omega
      have hbk2 := HBK1.out.below b2 HBK1.out.lt
      have y9 : W2.cell? ⟨wr.heap.size, 9, none⟩ = some (.slice A5 kids.length c5) := hbk2.cell 9
      have f9 : W2.frozen? ⟨wr.heap.size, 9, none⟩ = false := hbk2.frozen 9
      have HBK3 : Hid (Blk (W2.setCell ⟨wr.heap.size, 9, none⟩ (.slice B5 (mergeL kids).length d5)) wr.heap.size 37 #[.int .i64 kind, .string text, .string dest, .string title, .string att.id, .slice A1 att.cl.length c1, .slice A2 att.pr.length c2, .slice A3 args.length c3, .slice A4 cites.length c4, .slice B5 (mergeL kids).length d5]) := Lib.hid (hbk2.set_ 9 (.slice B5 (mergeL kids).length d5))
      have HB3 : Hid (Below wr.heap.size wr (W2.setCell ⟨wr.heap.size, 9, none⟩ (.slice B5 (mergeL kids).length d5))) := Lib.hid ((HB1.out.trans (b2.mono (by omega))).setCell (p := ⟨wr.heap.size, 9, none⟩) (Nat.le_refl _) _)
      have hzs : (W2.setCell ⟨wr.heap.size, 9, none⟩ (.slice B5 (mergeL kids).length d5)).heap.size = W2.heap.size := by simp [World.setCell]
      have hkp : ∀ g, g ≠ wr.heap.size → (W2.setCell ⟨wr.heap.size, 9, none⟩ (.slice B5 (mergeL kids).length d5)).heap[g]? = W2.heap[g]? := fun g hg => Below.heap_setCell W2 ⟨wr.heap.size, 9, none⟩ _ g hg
      have HRX : Hid (RepI (W2.setCell ⟨wr.heap.size, 9, none⟩ (.slice B5 (mergeL kids).length d5)) (fun g => (S0 g ∧ g < w.heap.size) ∨ (wr.heap.size ≤ g ∧ g < (W2.setCell ⟨wr.heap.size, 9, none⟩ (.slice B5 (mergeL kids).length d5)).heap.size)) #[.int .i64 kind, .string text, .string dest, .string title, .string att.id, .slice A1 att.cl.length c1, .slice A2 att.pr.length c2, .slice A3 args.length c3, .slice A4 cites.length c4, .slice B5 (mergeL kids).length d5] (mergeI (.mk kind text dest title att args cites kids))) := Lib.hid (by
        rw [mergeI]
        obtain ⟨r1, r2, r3, r4⟩ := HR1'.out _ HB3.out
        have q2' := ReadsS.of_own q2
        refine .mk _ _ _ _ _ _ _ _ _ _ _ _ _ _ _ _ _ _ us (r1.keep (fun _ _ => rfl) fun g hg => .inl ⟨hg, HS.out g hg⟩) (r2.keep (fun _ _ => rfl) fun g hg => .inl ⟨hg, HS.out g hg⟩) (r3.keep (fun _ _ => rfl) fun g hg => .inl ⟨hg, HS.out g hg⟩) (r4.keep (fun _ _ => rfl) fun g hg => .inl ⟨hg, HS.out g hg⟩) (q1.keep (fun g hg => hkp g ?_) fun g hg => ?_) (q2'.keep (fun g hg => hkp g ?_) fun g hg => ?_)
        · rcases hg with hg | hg
          · have := HSW.out g hg; omega
          · have := hg.1; omega
        · rcases hg with hg | hg
          · exact .inl ⟨hg, HS.out g hg⟩
          · exact .inr ⟨by have := hg.1; omega, by rw [hzs]; exact hg.2⟩
        · have := hg.1; omega
        · exact .inr ⟨by have := hg.1; omega, by rw [hzs]; exact hg.2⟩)
      have HLE : Hid ((stepJ done (mergeI (.mk kind text dest title att args cites kids))).length ≤ i + 1) := Lib.hid (Nat.le_trans (stepJ_len _ _) (by omega))
      have HZ3 : Hid (wr.heap.size ≤ (W2.setCell ⟨wr.heap.size, 9, none⟩ (.slice B5 (mergeL kids).length d5)).heap.size) := Lib.hid (by rw [hzs]; omega)
      clear hbk2 q1 q2 b2 HC x9 hzs hkp HR1'
      have hmk : (mergeI (.mk kind text dest title att args cites kids)).kind = kind ∧ (mergeI (.mk kind text dest title att args cites kids)).text = text := mergeI_kind (.mk kind text dest title att args cites kids)
      have k0 : (W2.setCell ⟨wr.heap.size, 9, none⟩ (.slice B5 (mergeL kids).length d5)).cell? ⟨wr.heap.size, 0, none⟩ = some (.int .i64 kind) := HBK3.out.cell 0
      have k1 : (W2.setCell ⟨wr.heap.size, 9, none⟩ (.slice B5 (mergeL kids).length d5)).cell? ⟨wr.heap.size, 1, none⟩ = some (.string text) := HBK3.out.cell 1
      go_upto_region 7 with fail
      clear y9 f9
      generalize (W2.setCell ⟨wr.heap.size, 9, none⟩ (.slice B5 (mergeL kids).length d5)) = W3 at *
      by_cases he : kind = 1 ∧ text.toList = []
      · obtain ⟨hk1, ht1⟩ := he
        have hst : stepJ done (mergeI (.mk kind text dest title att args cites kids)) = done := stepJ_empty ⟨hmk.1.trans hk1, by rw [hmk.2]; exact ht1⟩
        rw [hst] at HNX
        have ht2 : text.toList.isEmpty = true := by rw [ht1]; rfl
        have ht3 : (text.toList == []) = true := by rw [ht1]; rfl
        have HF := Lib.hid (HMR.out.call HB3.out)
        subst hk1
        clear hst hmk HRX HBK3 HMR
        go_wp2_with fail
        go_roundw
        case rel => exact ⟨i + 1, done, by omega, by omega, by go_num, HNX, HF⟩
        case measure => simp [intOf]; omega
      · rcases List.eq_nil_or_concat done with hdn | ⟨o, y, hdn⟩
        · have hst : stepJ done (mergeI (.mk kind text dest title att args cites kids)) = done ++ [mergeI (.mk kind text dest title att args cites kids)] := by rw [hdn]; exact stepJ_nil (by rw [hmk.1, hmk.2]; exact he)
          have HST := Lib.hid hst
          have hdl : done.length = 0 := by rw [hdn]; rfl
          have hkk : kind = 1 ∨ kind ≠ 1 := by omega
          clear hst hmk
          rcases hkk with hk1 | hk1
          · have ht1 : text.toList ≠ [] := fun h => he ⟨hk1, h⟩
            have ht2 : text.toList.isEmpty = false := by cases h : text.toList with | nil => exact absurd h ht1 | cons => rfl
            have ht3 : (text.toList == []) = false := by cases h : text.toList with | nil => exact absurd h ht1 | cons => rfl
            have hd0 : (0 : Int) = (done.length : Int) := by omega
            have dl : decide ((0 : Int) < (done.length : Int)) = false := decide_eq_false (by omega)
            have hdl' : done.length ≤ 0 := by omega
            clear hdl hd0 hdn
            have dk : (kind == 1) = true := beq_iff_eq.2 hk1
            clear hk1
            have HOW := Lib.hid (own_below HOWN.out (HB3.out.alloc HZ3.out (.cells #[.int .i64 kind, .string text, .string dest, .string title, .string att.id, .slice A1 att.cl.length c1, .slice A2 att.pr.length c2, .slice A3 args.length c3, .slice A4 cites.length c4, .slice B5 (mergeL kids).length d5] 37)))
            have HPU := Lib.hid fun (W7 : World) (g7 cap7 : Nat) (hown : W7.ownsRow w.heap.size 37 10 (.slice (some ⟨g7, 0, none⟩) (done.length + 1) cap7) (done.length + 1) (vs1.flatMap Array.toList ++ #[.int .i64 kind, .string text, .string dest, .string title, .string att.id, .slice A1 att.cl.length c1, .slice A2 att.pr.length c2, .slice A3 args.length c3, .slice A4 cites.length c4, .slice B5 (mergeL kids).length d5].toList)) hgrow hlies => HMR.out.push HS1.out HR1.out HOWN.out HB3.out HRX.out (fun g hg => hg) (W7 := W7) (g := g7) (cap := cap7) (H := W3.heap.size + 1) (o := .cells #[.int .i64 kind, .string text, .string dest, .string title, .string att.id, .slice A1 att.cl.length c1, .slice A2 att.pr.length c2, .slice A3 args.length c3, .slice A4 cites.length c4, .slice B5 (mergeL kids).length d5] 37) hown hgrow hlies (by omega)
            have HV1 := Lib.hid HRX.out.one
            clear HMR HS1 HR1 HOWN
            go_wp2_with (first | (refine wpList_load_row rfl 37 (.tmp 5) rfl wr.heap.size rfl 37 #[.int .i64 kind, .string text, .string dest, .string title, .string att.id, .slice A1 att.cl.length c1, .slice A2 att.pr.length c2, .slice A3 args.length c3, .slice A4 cites.length c4, .slice B5 (mergeL kids).length d5] _ _ HBK3.out Try.underlying37 rfl inl_size ?_) | (refine wpList_inSlice rfl (.tmp 62) rfl (.int .i64 kind) (.string text) (.string dest) (.string title) (.string att.id) (.slice A1 att.cl.length c1) (.slice A2 att.pr.length c2) (.slice A3 args.length c3) (.slice A4 cites.length c4) (.slice B5 (mergeL kids).length d5) rfl ?_) | (at_builtin; refine wpList_append_lies _ rfl _ _ 26 rfl w.heap.size 37 i0 _ 10 192 Try.underlying26 hi0 hz0 hz1 hz2 rfl (by decide) _ _ _ rfl HOW.out ⟨W3.heap.size, 0, none⟩ 1 1 [.int .i64 kind, .string text, .string dest, .string title, .string att.id, .slice A1 att.cl.length c1, .slice A2 att.pr.length c2, .slice A3 args.length c3, .slice A4 cites.length c4, .slice B5 (mergeL kids).length d5] rfl rfl ?c1 ?c2 (by decide) ?c3 ?c4 ?c5 (W3.heap.size + 1) ?c6 ?_))
            try case c2 => simpa using HV1.out
            try case c3 => unfold maxLen; omega
            try case c4 => omega
            try case c5 => have := HZ3.out; omega
            intro g7 cap7 W7 hown hgrow hlies hlt7
            have HF := Lib.hid (HPU.out W7 g7 cap7 hown hgrow hlies)
            clear hown hgrow hlies hlt7 HPU
            go_wp2_with fail
            go_roundw
            case rel => exact ⟨i + 1, stepJ done (mergeI (.mk kind text dest title att args cites kids)), by omega, HLE.out, by go_num, HNX, by rw [HST.out]; exact HF⟩
            case measure => simp [intOf]; omega
          · have dk : (kind == 1) = false := beq_eq_false_iff_ne.2 hk1
            clear hdl hdn
            have HOW := Lib.hid (own_below HOWN.out (HB3.out.alloc HZ3.out (.cells #[.int .i64 kind, .string text, .string dest, .string title, .string att.id, .slice A1 att.cl.length c1, .slice A2 att.pr.length c2, .slice A3 args.length c3, .slice A4 cites.length c4, .slice B5 (mergeL kids).length d5] 37)))
            have HPU := Lib.hid fun (W7 : World) (g7 cap7 : Nat) (hown : W7.ownsRow w.heap.size 37 10 (.slice (some ⟨g7, 0, none⟩) (done.length + 1) cap7) (done.length + 1) (vs1.flatMap Array.toList ++ #[.int .i64 kind, .string text, .string dest, .string title, .string att.id, .slice A1 att.cl.length c1, .slice A2 att.pr.length c2, .slice A3 args.length c3, .slice A4 cites.length c4, .slice B5 (mergeL kids).length d5].toList)) hgrow hlies => HMR.out.push HS1.out HR1.out HOWN.out HB3.out HRX.out (fun g hg => hg) (W7 := W7) (g := g7) (cap := cap7) (H := W3.heap.size + 1) (o := .cells #[.int .i64 kind, .string text, .string dest, .string title, .string att.id, .slice A1 att.cl.length c1, .slice A2 att.pr.length c2, .slice A3 args.length c3, .slice A4 cites.length c4, .slice B5 (mergeL kids).length d5] 37) hown hgrow hlies (by omega)
            have HV1 := Lib.hid HRX.out.one
            clear HMR HS1 HR1 HOWN
            go_wp2_with (first | (refine wpList_load_row rfl 37 (.tmp 5) rfl wr.heap.size rfl 37 #[.int .i64 kind, .string text, .string dest, .string title, .string att.id, .slice A1 att.cl.length c1, .slice A2 att.pr.length c2, .slice A3 args.length c3, .slice A4 cites.length c4, .slice B5 (mergeL kids).length d5] _ _ HBK3.out Try.underlying37 rfl inl_size ?_) | (refine wpList_inSlice rfl (.tmp 62) rfl (.int .i64 kind) (.string text) (.string dest) (.string title) (.string att.id) (.slice A1 att.cl.length c1) (.slice A2 att.pr.length c2) (.slice A3 args.length c3) (.slice A4 cites.length c4) (.slice B5 (mergeL kids).length d5) rfl ?_) | (at_builtin; refine wpList_append_lies _ rfl _ _ 26 rfl w.heap.size 37 i0 _ 10 192 Try.underlying26 hi0 hz0 hz1 hz2 rfl (by decide) _ _ _ rfl HOW.out ⟨W3.heap.size, 0, none⟩ 1 1 [.int .i64 kind, .string text, .string dest, .string title, .string att.id, .slice A1 att.cl.length c1, .slice A2 att.pr.length c2, .slice A3 args.length c3, .slice A4 cites.length c4, .slice B5 (mergeL kids).length d5] rfl rfl ?e1 ?e2 (by decide) ?e3 ?e4 ?e5 (W3.heap.size + 1) ?e6 ?_))
            try case e2 => simpa using HV1.out
            try case e3 => unfold maxLen; omega
            try case e4 => omega
            try case e5 => have := HZ3.out; omega
            intro g7 cap7 W7 hown hgrow hlies hlt7
            have HF := Lib.hid (HPU.out W7 g7 cap7 hown hgrow hlies)
            clear hown hgrow hlies hlt7 HPU
            go_wp2_with fail
            go_roundw
            case rel => exact ⟨i + 1, stepJ done (mergeI (.mk kind text dest title att args cites kids)), by omega, HLE.out, by go_num, HNX, by rw [HST.out]; exact HF⟩
            case measure => simp [intOf]; omega
        · rw [List.concat_eq_append] at hdn
          have hlq := HR1.out
          have hdn2 := hdn
          rw [hdn] at hlq
          obtain ⟨us1, u1, hvs, ho1, hy1⟩ := RepIs.last hlq
          obtain ⟨u0, uu1, u2, u3, u4, u5, u6, u7, u8, u9, rfl⟩ := hy1.opn
          obtain ⟨rfl, rfl⟩ := RepI.two hy1
          have hol := ho1.len
          have hfl : (us1.flatMap Array.toList).length = o.length * 10 := by rw [flatz_len 10 _ (fun v hv => RepIs.sizes ho1 v hv), hol]
          have hln : done.length = o.length + 1 := by rw [hdn, List.length_append]; rfl
          obtain ⟨gO, hAO⟩ : ∃ gO, AO = some ⟨gO, 0, none⟩ := by
            obtain ⟨A', c', e', -, hh⟩ := own_form HOWN.out
            injection e' with e1 e2 e3
            obtain ⟨g', hg', -⟩ := hh (by rw [hln]; omega)
            exact ⟨g', by rw [e1]; exact hg'⟩
          subst hAO
          have how3 := own_below HOWN.out HB3.out
          have hxs : ∀ j u, (#[.int .i64 y.kind, .string y.text, u2, u3, u4, u5, u6, u7, u8, u9] : Array Value)[j]? = some u → W3.cell? ⟨gO, o.length * 10 + j, none⟩ = some u := fun j u hj => by
            have hj10 : j < 10 := (Array.getElem?_eq_some_iff.1 hj).1
            rw [how3.cellAt _ (by rw [hln]; omega), hvs, List.flatMap_append, List.getElem?_append_right (by omega), hfl, show o.length * 10 + j - o.length * 10 = j by omega, List.flatMap_singleton, Array.getElem?_toList]
            exact hj
          obtain ⟨m, hm⟩ : ∃ m, m = o.length := ⟨_, rfl⟩
          have n0 : W3.cell? ⟨gO, m * 10, none⟩ = some (.int .i64 y.kind) := by rw [hm]; exact hxs 0 _ rfl
          have n1 : W3.cell? ⟨gO, m * 10 + 1, none⟩ = some (.string y.text) := by rw [hm]; exact hxs 1 _ rfl
          have hgO := HOWN.out.lt gO rfl
          have hgO2 : gO ≠ wr.heap.size := by omega
          have hdm : done.length = m + 1 := by rw [hln, hm]
          have hm6 : m ≤ 1000000 := by omega
          have hm0 : (0 : Int) ≤ (m : Int) := by omega
          have hm1 : (m : Int) < (m : Int) + 1 := by omega
          have hty := HTY.out y (by rw [hdn]; simp)
          have hhh := hmk
          by_cases hk1 : kind = 1
          · have ht1 : text.toList ≠ [] := fun h => he ⟨hk1, h⟩
            have ht2 : text.toList.isEmpty = false := by cases h : text.toList with | nil => exact absurd h ht1 | cons => rfl
            have ht3 : (text.toList == []) = false := by cases h : text.toList with | nil => exact absurd h ht1 | cons => rfl
            have dk : (kind == 1) = true := beq_iff_eq.2 hk1
            by_cases hy : y.kind = 1
            · have dn : (y.kind == 1) = true := beq_iff_eq.2 hy
              have hst : stepJ done (mergeI (.mk kind text dest title att args cites kids)) = o ++ [setTxt y (y.text.toList ++ text.toList)] := by rw [hdn, stepJ_txt (hmk.1.trans hk1) (by rw [hmk.2]; exact ht1) hy, hmk.2]
              have HST := Lib.hid hst
              have hcat : ∀ W : World, (Op.stringOp .add y.text text).run Try.prog W = .ok (.string ⟨(y.text.toList ++ text.toList).toArray⟩) W := fun W => by
                have hts : text.toList.length = text.size := by rw [Lib.toList_data]; exact Array.length_toList
                have h := cat_s (P := Try.prog) W y.text.toList text (by omega)
                have e : bsT y.text.toList = y.text := ofList_toList _
                rw [e] at h
                exact h
              have hfz : W3.frozen? ⟨gO, m * 10 + 1, none⟩ = false := how3.frozenAt _
              have HPW : Hid (∀ W5 : World, W5 = W3.drew.setCell ⟨gO, m * 10 + 1, none⟩ (.string ⟨(y.text.toList ++ text.toList).toArray⟩) → MrR w S0 (stepJ done (mergeI (.mk kind text dest title att args cites kids))) (.slice (some ⟨gO, 0, none⟩) done.length cO) W5) := Lib.hid fun W5 hW5 => by
                have how4 : W3.drew.ownsRow w.heap.size 37 10 (.slice (some ⟨gO, 0, none⟩) done.length cO) done.length (vs1.flatMap Array.toList) := how3
                obtain ⟨s1, s2⟩ := how4.stored (m * 10 + 1) (.string ⟨(y.text.toList ++ text.toList).toArray⟩)
                rw [← hW5] at s1 s2
                have hkp : ∀ g, S1 g → W5.heap[g]? = wr.heap[g]? := fun g hg => by
                  obtain ⟨_, a2, a3⟩ := HS1.out g hg
                  have hne : some g ≠ some gO := fun e => a3 (by rw [Option.some.inj e]; rfl)
                  exact (s2.block g (Nat.lt_of_lt_of_le a2 HB3.out.size) hne).trans (HB3.out.block g a2)
                rw [hst]
                refine ⟨⟨S1, us1 ++ [#[.int .i64 y.kind, .string ⟨(y.text.toList ++ text.toList).toArray⟩, u2, u3, u4, u5, u6, u7, u8, u9]], fun g hg => ?_, ?_, ?_⟩, ?_⟩
                · obtain ⟨a1, a2, a3⟩ := HS1.out g hg
                  exact ⟨a1, Nat.lt_of_lt_of_le a2 (Nat.le_trans HB3.out.size s2.size), a3⟩
                · exact (ho1.keep hkp fun _ h => h).snoc ((RepI.setTxt hy1 (y.text.toList ++ text.toList)).keep hkp fun _ h => h)
                · have e1 : (o ++ [setTxt y (y.text.toList ++ text.toList)]).length = done.length := by rw [hln, List.length_append]; rfl
                  rw [e1]
                  have e2 : (vs1.flatMap Array.toList).set (m * 10 + 1) (.string ⟨(y.text.toList ++ text.toList).toArray⟩) = (us1 ++ [#[.int .i64 y.kind, .string ⟨(y.text.toList ++ text.toList).toArray⟩, u2, u3, u4, u5, u6, u7, u8, u9]]).flatMap Array.toList := by
                    rw [hvs, List.flatMap_append, List.flatMap_append, List.set_append_right _ _ (by omega), hfl, hm, show o.length * 10 + 1 - o.length * 10 = 1 by omega]
                    rfl
                  rw [← e2]
                  exact s1
                · have := (hbw.trans (HB3.out.mono hzw)).drew.setCell (p := ⟨gO, m * 10 + 1, none⟩) (by show w.heap.size ≤ gO; omega) (.string ⟨(y.text.toList ++ text.toList).toArray⟩)
                  rw [hW5]; exact this
              have hidx : ((m + 1 : Nat) : Int) - 1 = (m : Int) := by omega
              have hwr1 : IntKind.i64.wrap (((m + 1 : Nat) : Int) - 1) = (m : Int) := by rw [hidx]; exact IntWalk.i64_in _ (by omega)
              have hwr2 : IntKind.i64.wrap ((m : Int) + 1 - 1) = (m : Int) := by rw [Int.add_sub_cancel]; exact IntWalk.i64_in _ (by omega)
              have hwr3 : IntKind.i64.wrap (m : Int) = (m : Int) := IntWalk.i64_in _ (by omega)
              clear hst hmk hhh hdn hdn2 hln hol hfl hxs how3 ho1 hy1 hvs hlq hm he hk1 hy hty hidx HMR HR1 HOWN HRX HBK3 HTY
              generalize done.length = dm at *
              subst hdm
              go_wp2_with fail
              go_region
              all_goals
                go_wp2_with fail
                go_roundw
                case rel => exact ⟨i + 1, stepJ done (mergeI (.mk kind text dest title att args cites kids)), by omega, HLE.out, by go_num, HNX, Lib.hid (HPW.out _ rfl)⟩
                case measure => simp [intOf]; omega
            · have dn : (y.kind == 1) = false := beq_eq_false_iff_ne.2 hy
              have hst : stepJ done (mergeI (.mk kind text dest title att args cites kids)) = done ++ [mergeI (.mk kind text dest title att args cites kids)] := by rw [hdn]; exact stepJ_add (by rw [hmk.1, hmk.2]; exact he) (fun h => hy h.2)
              have HST := Lib.hid hst
              clear hst hmk hhh hdn hdn2 hln hol hfl hxs how3 ho1 hy1 hvs hlq hm he hk1 hy hty HTY
              have HOW := Lib.hid (own_below HOWN.out (HB3.out.alloc HZ3.out (.cells #[.int .i64 kind, .string text, .string dest, .string title, .string att.id, .slice A1 att.cl.length c1, .slice A2 att.pr.length c2, .slice A3 args.length c3, .slice A4 cites.length c4, .slice B5 (mergeL kids).length d5] 37)))
              have HPU := Lib.hid fun (W7 : World) (g7 cap7 : Nat) (hown : W7.ownsRow w.heap.size 37 10 (.slice (some ⟨g7, 0, none⟩) (done.length + 1) cap7) (done.length + 1) (vs1.flatMap Array.toList ++ #[.int .i64 kind, .string text, .string dest, .string title, .string att.id, .slice A1 att.cl.length c1, .slice A2 att.pr.length c2, .slice A3 args.length c3, .slice A4 cites.length c4, .slice B5 (mergeL kids).length d5].toList)) hgrow hlies => HMR.out.push HS1.out HR1.out HOWN.out HB3.out HRX.out (fun g hg => hg) (W7 := W7) (g := g7) (cap := cap7) (H := W3.heap.size + 1) (o := .cells #[.int .i64 kind, .string text, .string dest, .string title, .string att.id, .slice A1 att.cl.length c1, .slice A2 att.pr.length c2, .slice A3 args.length c3, .slice A4 cites.length c4, .slice B5 (mergeL kids).length d5] 37) hown hgrow hlies (by omega)
              have HV1 := Lib.hid HRX.out.one
              clear HMR HS1 HR1 HOWN
              generalize done.length = dm at *
              subst hdm
              go_wp2_with (first | (refine wpList_load_row rfl 37 (.tmp 5) rfl wr.heap.size rfl 37 #[.int .i64 kind, .string text, .string dest, .string title, .string att.id, .slice A1 att.cl.length c1, .slice A2 att.pr.length c2, .slice A3 args.length c3, .slice A4 cites.length c4, .slice B5 (mergeL kids).length d5] _ _ HBK3.out Try.underlying37 rfl inl_size ?_) | (refine wpList_inSlice rfl (.tmp 62) rfl (.int .i64 kind) (.string text) (.string dest) (.string title) (.string att.id) (.slice A1 att.cl.length c1) (.slice A2 att.pr.length c2) (.slice A3 args.length c3) (.slice A4 cites.length c4) (.slice B5 (mergeL kids).length d5) rfl ?_) | (at_builtin; refine wpList_append_lies _ rfl _ _ 26 rfl w.heap.size 37 i0 _ 10 192 Try.underlying26 hi0 hz0 hz1 hz2 rfl (by decide) _ _ _ rfl HOW.out ⟨W3.heap.size, 0, none⟩ 1 1 [.int .i64 kind, .string text, .string dest, .string title, .string att.id, .slice A1 att.cl.length c1, .slice A2 att.pr.length c2, .slice A3 args.length c3, .slice A4 cites.length c4, .slice B5 (mergeL kids).length d5] rfl rfl ?f1 ?f2 (by decide) ?f3 ?f4 ?f5 (W3.heap.size + 1) ?f6 ?_))
              try case f2 => simpa using HV1.out
              try case f3 => unfold maxLen; omega
              try case f4 => omega
              try case f5 => have := HZ3.out; omega
              intro g7 cap7 W7 hown hgrow hlies hlt7
              have HF := Lib.hid (HPU.out W7 g7 cap7 hown hgrow hlies)
              clear hown hgrow hlies hlt7 HPU
              go_wp2_with fail
              go_roundw
              case rel => exact ⟨i + 1, stepJ done (mergeI (.mk kind text dest title att args cites kids)), by omega, HLE.out, by go_num, HNX, by rw [HST.out]; exact HF⟩
              case measure => simp [intOf]; omega
          · have dk : (kind == 1) = false := beq_eq_false_iff_ne.2 hk1
            have hst : stepJ done (mergeI (.mk kind text dest title att args cites kids)) = done ++ [mergeI (.mk kind text dest title att args cites kids)] := by rw [hdn]; exact stepJ_add (by rw [hmk.1, hmk.2]; exact he) (fun h => hk1 (hmk.1.symm.trans h.1))
            have HST := Lib.hid hst
            clear hst hmk hhh hdn hdn2 hln hol hfl hxs how3 ho1 hy1 hvs hlq hm he hk1 hty HTY
            have HOW := Lib.hid (own_below HOWN.out (HB3.out.alloc HZ3.out (.cells #[.int .i64 kind, .string text, .string dest, .string title, .string att.id, .slice A1 att.cl.length c1, .slice A2 att.pr.length c2, .slice A3 args.length c3, .slice A4 cites.length c4, .slice B5 (mergeL kids).length d5] 37)))
            have HPU := Lib.hid fun (W7 : World) (g7 cap7 : Nat) (hown : W7.ownsRow w.heap.size 37 10 (.slice (some ⟨g7, 0, none⟩) (done.length + 1) cap7) (done.length + 1) (vs1.flatMap Array.toList ++ #[.int .i64 kind, .string text, .string dest, .string title, .string att.id, .slice A1 att.cl.length c1, .slice A2 att.pr.length c2, .slice A3 args.length c3, .slice A4 cites.length c4, .slice B5 (mergeL kids).length d5].toList)) hgrow hlies => HMR.out.push HS1.out HR1.out HOWN.out HB3.out HRX.out (fun g hg => hg) (W7 := W7) (g := g7) (cap := cap7) (H := W3.heap.size + 1) (o := .cells #[.int .i64 kind, .string text, .string dest, .string title, .string att.id, .slice A1 att.cl.length c1, .slice A2 att.pr.length c2, .slice A3 args.length c3, .slice A4 cites.length c4, .slice B5 (mergeL kids).length d5] 37) hown hgrow hlies (by omega)
            have HV1 := Lib.hid HRX.out.one
            clear HMR HS1 HR1 HOWN
            generalize done.length = dm at *
            subst hdm
            go_wp2_with (first | (refine wpList_load_row rfl 37 (.tmp 5) rfl wr.heap.size rfl 37 #[.int .i64 kind, .string text, .string dest, .string title, .string att.id, .slice A1 att.cl.length c1, .slice A2 att.pr.length c2, .slice A3 args.length c3, .slice A4 cites.length c4, .slice B5 (mergeL kids).length d5] _ _ HBK3.out Try.underlying37 rfl inl_size ?_) | (refine wpList_inSlice rfl (.tmp 62) rfl (.int .i64 kind) (.string text) (.string dest) (.string title) (.string att.id) (.slice A1 att.cl.length c1) (.slice A2 att.pr.length c2) (.slice A3 args.length c3) (.slice A4 cites.length c4) (.slice B5 (mergeL kids).length d5) rfl ?_) | (at_builtin; refine wpList_append_lies _ rfl _ _ 26 rfl w.heap.size 37 i0 _ 10 192 Try.underlying26 hi0 hz0 hz1 hz2 rfl (by decide) _ _ _ rfl HOW.out ⟨W3.heap.size, 0, none⟩ 1 1 [.int .i64 kind, .string text, .string dest, .string title, .string att.id, .slice A1 att.cl.length c1, .slice A2 att.pr.length c2, .slice A3 args.length c3, .slice A4 cites.length c4, .slice B5 (mergeL kids).length d5] rfl rfl ?k1 ?k2 (by decide) ?k3 ?k4 ?k5 (W3.heap.size + 1) ?k6 ?_))
            try case k2 => simpa using HV1.out
            try case k3 => unfold maxLen; omega
            try case k4 => omega
            try case k5 => have := HZ3.out; omega
            intro g7 cap7 W7 hown hgrow hlies hlt7
            have HF := Lib.hid (HPU.out W7 g7 cap7 hown hgrow hlies)
            clear hown hgrow hlies hlt7 HPU
            go_wp2_with fail
            go_roundw
            case rel => exact ⟨i + 1, stepJ done (mergeI (.mk kind text dest title att args cites kids)), by omega, HLE.out, by go_num, HNX, by rw [HST.out]; exact HF⟩
            case measure => simp [intOf]; omega
    · obtain rfl : i = l.length := by omega
      have hd : done = mergeL l := by rw [HD.out, HEND.out]
      subst hd
      have HF : Hid (RmgP S0 l w (.returned (.slice AO (mergeL l).length cO)) wr) := Lib.hid ⟨AO, cO, vs1, rfl, hr1.keep (fun _ _ => rfl) (fun g hg => by
        rcases (hS1 g hg).1 with h | h
        · exact .inl h
        · exact .inr ⟨h, (hS1 g hg).2.1⟩), hown, hbw⟩
      clear hS1 hr1 hown HMR HD
      go_wp2_with fail
      go_ret
      exact HF.out

theorem rmerge_all : ∀ N, N ≤ 1000000 → RmgH N := fun N => by
  induction N using Nat.strongRecOn with
  | ind N ih =>
    intro hN
    refine r_merge N hN fun x hx => ih (sizeL x.kids) ?_ ?_
    · obtain ⟨k, t, d, ti, a, ar, c, ks⟩ := x
      rw [sizeI] at hx
      show sizeL ks < N
      omega
    · obtain ⟨k, t, d, ti, a, ar, c, ks⟩ := x
      rw [sizeI] at hx
      show sizeL ks ≤ _
      omega
end Go.Proofs.Ytfnloonmeilhlaa
namespace Go.Pub
open Go.RowKit
def unC (p : PcT) : PcT := { p with clo := false }
/-- What a piece gives by itself. -/
def oneW (p : PcT) : List InT := (if p.kind = 0 then [p.inl] else []) ++ if runP p = true then [txtT 1 ⟨(repB p.ch p.n.toNat).toArray⟩] else []
def wantF (ps : List PcT) : Nat → List InT
  | 0 => []
  | k + 1 => wantF ps k ++ oneW (pcX ps k)
theorem neT_txt {k : Int} {s : List UInt8} (h : s ≠ []) : neT (txtT k ⟨s.toArray⟩) = true := by
  have e : (txtT k ⟨s.toArray⟩).text.toList = s := toList_ofList s
  unfold neT
  rw [e]
  simp [h]
theorem quiet_match (ps : List PcT) (hq : ∀ i, (pcX ps i).clo = false) : ∀ k, k ≤ ps.length → ∃ ids, MatI ps k (matchF ps k) ids ∧ (matchF ps k).prs = [] ∧ inlsA ps (matchF ps k) ids = (wantF ps k).filter neT := by
  refine match_ind ps (fun k st ids => st.prs = [] ∧ inlsA ps st ids = (wantF ps k).filter neT) ⟨rfl, rfl⟩ ?_ ?_ ?_ ?_ ?_
  · intro k st ids hM hk hp hc hP
    refine ⟨hP.1, ?_⟩
    rw [hP.2]
    show _ = List.filter neT (wantF ps k ++ oneW (pcX ps k))
    rw [List.filter_append]
    have : (oneW (pcX ps k)).filter neT = [] := by
      unfold oneW
      rw [if_neg (show ¬ runP (pcX ps k) = true by rw [hp]; decide), List.append_nil]
      split
      · rename_i h0
        have h1 : (pcX ps k).inl.kind = 1 := Classical.byContradiction fun h => hc ⟨h0, .inl h⟩
        have h2 : (pcX ps k).inl.text.toList = [] := Classical.byContradiction fun h => hc ⟨h0, .inr h⟩
        rw [List.filter_cons_of_neg (by simp [neT, h1, h2])]; rfl
      · rfl
    rw [this, List.append_nil]
  · intro k st ids hM hk hp hk0 hi hP
    refine ⟨hP.1, ?_⟩
    have e1 : inlsA ps (inlS ps st k) ids = inlsA ps st ids := inlsA_eq fun i hi => toI_ins (by have := hM.em.ring.bd i hi; omega)
    have e2 : inlsA ps (inlS ps st k) [st.xs.length] = [(pcX ps k).inl] := by
      show [toI ps (elX (insX st.xs { t := (pcX ps k).inl } 0) st.xs.length)] = _
      rw [toI_ins0]; rfl
    rw [inlsA_app, e1, e2, hP.2]
    show _ = List.filter neT (wantF ps k ++ oneW (pcX ps k))
    rw [List.filter_append]
    congr 1
    unfold oneW
    rw [if_pos hk0, if_neg (show ¬ runP (pcX ps k) = true by rw [hp]; decide), List.append_nil, List.filter_cons_of_pos]
    · rfl
    · unfold neT
      rcases hi with h | h
      · rw [decide_eq_false h]; rfl
      · rw [decide_eq_false h, Bool.and_false]; rfl
  · intro k st ids hM hk hp hP
    refine ⟨hP.1, ?_⟩
    have e1 : inlsA ps (runS ps st k) ids = inlsA ps st ids := inlsA_eq fun i hi => toI_ins (by have := hM.em.ring.bd i hi; omega)
    have e2 : inlsA ps (runS ps st k) [st.xs.length] = [txtT 1 ⟨(repB (pcX ps k).ch (pcX ps k).n.toNat).toArray⟩] := by
      show [toI ps (elX (insX st.xs (runE k (pcX ps k).n.toNat) 0) st.xs.length)] = _
      rw [toI_ins0]; rfl
    obtain ⟨h1, h2, -⟩ := runP_spec hp
    rw [inlsA_app, e1, e2, hP.2]
    show _ = List.filter neT (wantF ps k ++ oneW (pcX ps k))
    rw [List.filter_append]
    congr 1
    unfold oneW
    rw [if_neg (by omega), if_pos hp, List.nil_append, List.filter_cons_of_pos (neT_txt (by
      intro e
      have := repB_len (runP_size hp) (pcX ps k).n.toNat
      rw [e] at this
      simp at this
      omega))]
    rfl
  · intro k c st A B R hk hclo h hl hR hR0 hB hg hr hlr hP
    rw [hq k] at hclo; cases hclo
  · intro k c st ids hP
    exact hP
theorem quiet_nest (ps : List PcT) (hq : ∀ i, (pcX ps i).clo = false) : (matchA ps).prs = [] ∧ nestA ps = mergeL (wantF ps ps.length) := by
  obtain ⟨ids, hM, hp, hi⟩ : ∃ ids, MatI ps ps.length (matchA ps) ids ∧ (matchA ps).prs = [] ∧ inlsA ps (matchA ps) ids = (wantF ps ps.length).filter neT := quiet_match ps hq ps.length (Nat.le_refl _)
  refine ⟨hp, ?_⟩
  have hR := hM.em.ring
  have hl := hR.len
  show mergeL (betF ps _ 0 _ _) = _
  rw [betF_eq ids 0 _ hR.link (fun i hi e => (List.nodup_cons.1 hR.nd).1 (e ▸ hi)) (by omega)]
  show mergeL (inlsA ps (matchA ps) ids) = _
  rw [hi, mergeL_filter]
theorem pcX_map (ps : List PcT) (i : Nat) (hi : i < ps.length) : pcX (ps.map unC) i = unC (pcX ps i) := by
  rw [pcX_get (by rw [List.length_map]; exact hi), List.getElem_map, pcX_get hi]
theorem unC_clo (ps : List PcT) (i : Nat) : (pcX (ps.map unC) i).clo = false := by
  by_cases hi : i < ps.length
  · rw [pcX_map ps i hi]; rfl
  · unfold pcX
    rw [List.getD_eq_getElem?_getD, List.getElem?_eq_none (by rw [List.length_map]; omega)]
    rfl
theorem wantF_unC (ps : List PcT) : ∀ k, k ≤ ps.length → wantF (ps.map unC) k = wantF ps k
  | 0, _ => rfl
  | k + 1, h => by
    show wantF (ps.map unC) k ++ oneW (pcX (ps.map unC) k) = wantF ps k ++ oneW (pcX ps k)
    rw [wantF_unC ps k (by omega), pcX_map ps k (by omega)]
    rfl
theorem sizeL_want (ps : List PcT) : ∀ k, sizeL (wantF ps k) ≤ sumZ ps k
  | 0 => Nat.zero_le _
  | k + 1 => by
    have ih := sizeL_want ps k
    show sizeL (wantF ps k ++ oneW (pcX ps k)) ≤ sumZ ps k + pcZ (pcX ps k)
    rw [sizeL_app]
    have : sizeL (oneW (pcX ps k)) ≤ pcZ (pcX ps k) := by
      unfold oneW pcZ
      rw [sizeL_app]
      have h1 : sizeL (if (pcX ps k).kind = 0 then [(pcX ps k).inl] else []) ≤ sizeI (pcX ps k).inl := by
        split
        · rw [sizeL_one]; omega
        · rw [sizeL]; omega
      have h2 : sizeL (if runP (pcX ps k) = true then [txtT 1 ⟨(repB (pcX ps k).ch (pcX ps k).n.toNat).toArray⟩] else []) ≤ 1 + (pcX ps k).n.toNat := by
        split
        · rename_i h
          rw [sizeL_one, sizeI_txt, repB_len (runP_size h)]; omega
        · rw [sizeL]; omega
      omega
    omega
theorem sumZ_unC (ps : List PcT) : ∀ k, k ≤ ps.length → sumZ (ps.map unC) k = sumZ ps k
  | 0, _ => rfl
  | k + 1, h => by
    show sumZ (ps.map unC) k + pcZ (pcX (ps.map unC) k) = _
    rw [sumZ_unC ps k (by omega), pcX_map ps k (by omega)]; rfl
theorem sumN_unC (ps : List PcT) : ∀ k, k ≤ ps.length → sumN (ps.map unC) k = sumN ps k
  | 0, _ => rfl
  | k + 1, h => by
    show sumN (ps.map unC) k + (if runP (pcX (ps.map unC) k) = true then (pcX (ps.map unC) k).n.toNat else 0) = _
    rw [sumN_unC ps k (by omega), pcX_map ps k (by omega)]; rfl
end Go.Pub
