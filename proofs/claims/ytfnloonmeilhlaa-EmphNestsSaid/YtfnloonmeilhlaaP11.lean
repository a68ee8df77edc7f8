/-
  Texts of the proof, put together (what this law reaches): EmYE, EmYG, EmYF, EmYH, EmYI, EmYJ, EmYK.
-/
import Derived.Test.YtfnloonmeilhlaaP10
import Derived.Test.YtfnloonmeilhlaaP04
import Derived.Test.YtfnloonmeilhlaaP05
import Derived.Deep.CutBlock
import Derived.Deep.CutRange
import Derived.Test.YtfnloonmeilhlaaP09
import Derived.Test.YtfnloonmeilhlaaP08
import Derived.ChangeKeysEq
set_option linter.unusedVariables false
set_option linter.unusedSimpArgs false
namespace Go.Pub
open Go.RowKit
theorem getD_sub {α : Type} (l : List α) (z : α) (i k j : Nat) (h : i + j < k) : ((l.take k).drop i).getD j z = l.getD (i + j) z := by
  rw [List.getD_eq_getElem?_getD, List.getD_eq_getElem?_getD, List.getElem?_drop, List.getElem?_take, if_pos h]
section
variable {w : World} {S : Nat → Prop} {s : List RE}
theorem ElsR.sub {b off c : Nat} (h : ElsR w S (.slice (some ⟨b, off, none⟩) s.length c) s) {i k : Nat} (hik : i ≤ k) (hk : k ≤ s.length) (hb : S b) (c' : Nat) : ElsR w S (.slice (some ⟨b, off + i * 12, none⟩) (k - i) c') ((s.take k).drop i) := by
  obtain ⟨A, c2, vs, e, hl, hr, hm⟩ := h
  injection e with e1 e2 e3
  subst e1
  have hlen : ((s.take k).drop i).length = k - i := by rw [List.length_drop, List.length_take]; omega
  have hvl : ((vs.take k).drop i).length = k - i := by rw [List.length_drop, List.length_take]; omega
  have hs : ∀ v ∈ vs, v.size = 12 := fun v hv => by
    obtain ⟨j, hj, rfl⟩ := List.mem_iff_getElem.1 hv
    have := (hr j (by omega)).size
    rwa [List.getD_eq_getElem?_getD, List.getElem?_eq_getElem hj] at this
  have hs' : ∀ v ∈ (vs.take k).drop i, v.size = 12 := fun v hv => hs v (List.mem_of_mem_take (List.mem_of_mem_drop hv))
  refine ⟨some ⟨b, off + i * 12, none⟩, c', (vs.take k).drop i, by rw [hlen], by rw [hvl, hlen], fun j hj => ?_, ?_⟩
  · rw [hlen] at hj
    unfold reX
    rw [getD_sub vs _ i k j (by omega), getD_sub s _ i k j (by omega)]
    exact hr (i + j) (by omega)
  · rw [hlen]
    have hfl : (((vs.take k).drop i).flatMap Array.toList).length = (k - i) * 12 := by
      have : ∀ l : List (Array Value), (∀ v ∈ l, v.size = 12) → (l.flatMap Array.toList).length = l.length * 12 := by
        intro l
        induction l with
        | nil => intro _; rfl
        | cons v l ih =>
          intro h
          rw [List.flatMap_cons, List.length_append, ih fun u hu => h u (List.mem_cons_of_mem _ hu), Array.length_toList, h v (by simp), List.length_cons]; omega
      rw [this _ hs', hvl]
    refine ⟨⟨hfl, by have := hm.1.2; omega⟩, fun hn => ⟨_, rfl, hb, fun j u hj => ?_⟩⟩
    have hjl := (List.getElem?_eq_some_iff.1 hj).1
    rw [hfl] at hjl
    have hd : j / 12 < k - i := by omega
    have hj2 : j = j / 12 * 12 + j % 12 := by omega
    have hj3 : i * 12 + j = (i + j / 12) * 12 + j % 12 := by omega
    rw [hj2, flatz_get 12 _ hs' (j / 12) (j % 12) (by omega) (by omega), getD_sub vs _ i k (j / 12) (by omega), ← flatz_get 12 vs hs (i + j / 12) (j % 12) (by omega) (by omega), ← hj3] at hj
    obtain ⟨b2, off2, e5, -, hc⟩ := hm.row (by omega) (by decide)
    injection e5 with e6
    injection e6 with e7 e8 e9
    subst e7
    subst e8
    have := hc _ _ hj
    unfold Addr.add
    by_cases h0 : j = 0
    · subst h0; rw [if_pos rfl]; simpa using this
    · rw [if_neg h0, ← this]
      show w.cell? ⟨b, off + i * 12 + j, none⟩ = w.cell? ⟨b, off + (i * 12 + j), none⟩
      rw [Nat.add_assoc]
end
end Go.Pub
namespace Go.Pub
def lsum : List RE → Nat
  | [] => 0
  | e :: s => e.left + 1 + lsum s
theorem lsum_app : ∀ a b : List RE, lsum (a ++ b) = lsum a + lsum b
  | [], b => by show lsum b = 0 + _; omega
  | e :: a, b => by show e.left + 1 + lsum (a ++ b) = e.left + 1 + lsum a + lsum b; rw [lsum_app a b]; omega
theorem lsum_len : ∀ s : List RE, s.length ≤ lsum s
  | [] => Nat.zero_le _
  | e :: s => by have := lsum_len s; show s.length + 1 ≤ e.left + 1 + lsum s; omega
theorem lsum_mem : ∀ {s : List RE} {e : RE}, e ∈ s → e.left + 1 ≤ lsum s
  | x :: s, e, h => by
    show _ ≤ x.left + 1 + lsum s
    rcases List.mem_cons.1 h with rfl | h
    · omega
    · have := lsum_mem h; omega
/-- A state that is small. -/
structure SolB (ps : List PcT) (x : SR) : Prop where
  sz : sizeL (x.s.map (toR ps)) ≤ 1000000
  ls : lsum x.s + x.prs.length + x.out.length ≤ 10000
  ps : ∀ e ∈ x.s, ∀ a, e.pos = some a → a < ps.length ∧ runP (pcX ps a) = true ∧ e.left ≤ (pcX ps a).n.toNat
theorem reX_get {s : List RE} {k : Nat} (h : k < s.length) : reX s k = s[k] := by
  unfold reX; rw [List.getD_eq_getElem?_getD, List.getElem?_eq_getElem h]; rfl
theorem reX_mem {s : List RE} {k : Nat} (h : k < s.length) : reX s k ∈ s := by rw [reX_get h]; exact List.getElem_mem h
theorem cut2 {s : List RE} {i k : Nat} (hik : i < k) (hk : k < s.length) : s = s.take i ++ (reX s i :: ((s.take k).drop (i + 1) ++ (reX s k :: s.drop (k + 1)))) := by
  have h1 : s.drop (i + 1) = (s.take k).drop (i + 1) ++ s.drop k := by
    conv => lhs; rw [← List.take_append_drop k s]
    rw [List.drop_append_of_le_length (by rw [List.length_take]; omega)]
  have h2 : s.drop k = reX s k :: s.drop (k + 1) := by rw [reX_get hk]; exact List.drop_eq_getElem_cons hk
  have h3 : s.drop i = reX s i :: s.drop (i + 1) := by rw [reX_get (by omega)]; exact List.drop_eq_getElem_cons (by omega)
  rw [← h2, ← h1, ← h3, List.take_append_drop]
theorem nR2_le {a b : Nat} (ha : 0 < a) (hb : 0 < b) : nR2 a b ≤ a ∧ nR2 a b ≤ b ∧ 1 ≤ nR2 a b ∧ nR2 a b ≤ 2 := by
  unfold nR2; split <;> omega
theorem sizeI_run {ps : List PcT} {e : RE} {a : Nat} (h : e.pos = some a) (hr : runP (pcX ps a) = true) : sizeI (toR ps e) = 1 + e.left := by
  unfold toR; rw [h]
  show sizeI (txtT 1 ⟨(repB (pcX ps a).ch e.left).toArray⟩) = _
  rw [sizeI_txt, repB_len (runP_size hr)]
theorem SolB.mt {ps : List PcT} {x : SR} {i k c a : Nat} (h : SolB ps x) (hik : i < k) (hk : k < x.s.length) (hp : (reX x.s k).pos = some c) (hi : (reX x.s i).pos = some a) (hl : 0 < (reX x.s i).left) (hl2 : 0 < (reX x.s k).left) : SolB ps (mtR ps x i k c) := by
  have hc := cut2 hik hk
  have pi := h.ps _ (reX_mem (show i < x.s.length by omega)) a hi
  have pk := h.ps _ (reX_mem hk) c hp
  obtain ⟨n1, n2, n3, n4⟩ := nR2_le hl hl2
  have hsz := h.sz
  have hls := h.ls
  have hps := h.ps
  rw [hc] at hsz hls hps
  rw [List.map_append, List.map_cons, List.map_append, List.map_cons, sizeL_app, sizeL, sizeL_app, sizeL, sizeI_run hi pi.2.1, sizeI_run hp pk.2.1] at hsz
  rw [lsum_app, lsum, lsum_app, lsum] at hls
  unfold mtR
  generalize nR2 (reX x.s i).left (reX x.s k).left = n at *
  generalize hA : x.s.take i = A at *
  generalize hB : (x.s.take k).drop (i + 1) = B at *
  generalize hR : x.s.drop (k + 1) = R at *
  generalize reX x.s i = ei at *
  generalize reX x.s k = ek at *
  refine ⟨?_, ?_, ?_⟩
  · show sizeL ((A ++ _).map (toR ps)) ≤ _
    rw [List.map_append, List.map_cons, List.map_cons, List.map_cons, sizeL_app, sizeL, sizeL, sizeL]
    rw [sizeI_run (e := ⟨ei.pos, ei.left - n, zeroT⟩) hi pi.2.1, sizeI_run (e := ⟨some c, ek.left - n, zeroT⟩) rfl pk.2.1]
    show _ + (_ + (sizeI (kidT _ (wrR ps B)) + _)) ≤ _
    rw [sizeI_kid]
    have hm : sizeL (wrR ps B) ≤ sizeL (B.map (toR ps)) := sizeL_merge _
    show _ + (1 + (ei.left - n) + (_ + (1 + (ek.left - n) + _))) ≤ _
    omega
  · show lsum (A ++ _) + (x.prs ++ _).length + (x.out ++ _).length ≤ _
    rw [lsum_app, lsum, lsum, lsum, List.length_append, List.length_append, List.length_singleton]
    have := List.length_filterMap_le (·.pos) B
    have := lsum_len B
    show _ + (ei.left - n + 1 + (0 + 1 + (ek.left - n + 1 + _))) + _ + _ ≤ _
    omega
  · intro e he b hb
    rcases List.mem_append.1 he with he | he
    · exact hps e (List.mem_append_left _ he) b hb
    · rcases List.mem_cons.1 he with rfl | he
      · obtain rfl : a = b := by
          have e1 := hi.symm.trans hb
          injection e1
        exact ⟨pi.1, pi.2.1, Nat.le_trans (Nat.sub_le _ _) pi.2.2⟩
      · rcases List.mem_cons.1 he with rfl | he
        · cases hb
        · rcases List.mem_cons.1 he with rfl | he
          · injection hb with hb; subst hb; exact ⟨pk.1, pk.2.1, Nat.le_trans (Nat.sub_le _ _) pk.2.2⟩
          · exact hps e (List.mem_append_right _ (List.mem_cons_of_mem _ (List.mem_append_right _ (List.mem_cons_of_mem _ he)))) b hb
theorem plc_spec {s : List RE} {c : Nat} (h : plcR s c < s.length) : (reX s (plcR s c)).pos = some c ∧ ∀ j, j < plcR s c → (reX s j).pos ≠ some c := by
  refine ⟨?_, fun j hj => ?_⟩
  · have hp := List.findIdx_getElem (p := fun e : RE => decide (e.pos = some c)) (w := h)
    rw [reX_get h]
    exact of_decide_eq_true hp
  · have := List.not_of_lt_findIdx (p := fun e : RE => decide (e.pos = some c)) (xs := s) hj
    rw [reX_get (by omega)]
    simpa using this
theorem plc_mt {ps : List PcT} {x : SR} {i c : Nat} (hk : plcR x.s c < x.s.length) (hik : i < plcR x.s c) : plcR (mtR ps x i (plcR x.s c) c).s c = i + 2 ∧ i + 2 < (mtR ps x i (plcR x.s c) c).s.length ∧ (reX (mtR ps x i (plcR x.s c) c).s (i + 2)).left = (reX x.s (plcR x.s c)).left - nR2 (reX x.s i).left (reX x.s (plcR x.s c)).left := by
  obtain ⟨h1, h2⟩ := plc_spec hk
  have hne : ∀ e ∈ x.s.take i, e.pos ≠ some c := fun e he => by
    obtain ⟨j, hj, rfl⟩ := List.mem_iff_getElem.1 he
    rw [List.length_take] at hj
    rw [List.getElem_take, ← reX_get (by omega)]
    exact h2 j (by omega)
  have hi := h2 i hik
  unfold mtR
  generalize plcR x.s c = k at *
  generalize nR2 (reX x.s i).left (reX x.s k).left = n at *
  have hl : (x.s.take i).length = i := by rw [List.length_take]; omega
  generalize x.s.take i = A at *
  generalize (reX x.s i) = ei at *
  generalize (reX x.s k).left = lk at *
  generalize hkd : kidT (kR2 (pcX ps c) n) (wrR ps ((x.s.take k).drop (i + 1))) = kd at *
  subst hl
  have e : A ++ ((⟨ei.pos, ei.left - n, zeroT⟩ : RE) :: (⟨none, 0, kd⟩ : RE) :: (⟨some c, lk - n, zeroT⟩ : RE) :: x.s.drop (k + 1)) = (A ++ [(⟨ei.pos, ei.left - n, zeroT⟩ : RE), ⟨none, 0, kd⟩]) ++ (⟨some c, lk - n, zeroT⟩ : RE) :: x.s.drop (k + 1) := by simp
  have hn2 : ∀ e ∈ A ++ [(⟨ei.pos, ei.left - n, zeroT⟩ : RE), ⟨none, 0, kd⟩], e.pos ≠ some c := by
    intro e he
    rcases List.mem_append.1 he with he | he
    · exact hne e he
    · rcases List.mem_cons.1 he with rfl | he
      · exact hi
      · rcases List.mem_cons.1 he with rfl | he
        · exact fun h => by cases h
        · cases he
  have hL : (A ++ [(⟨ei.pos, ei.left - n, zeroT⟩ : RE), ⟨none, 0, kd⟩]).length = A.length + 2 := by rw [List.length_append]; rfl
  dsimp only
  rw [e]
  refine ⟨by rw [plc_at hn2, hL], by rw [List.length_append, hL, List.length_cons]; omega, ?_⟩
  rw [← hL, reX_at]
theorem clR_stop {ps : List PcT} {c : Nat} {x : SR} (h : ¬ (plcR x.s c < x.s.length ∧ 0 < (reX x.s (plcR x.s c)).left)) : ∀ f, clR ps c f x = x
  | 0 => rfl
  | f + 1 => by rw [clR, if_neg h]
theorem clR_none {ps : List PcT} {c : Nat} {x : SR} (h : opnR ps x.s (plcR x.s c) c x.out (plcR x.s c) = none) : ∀ f, clR ps c f x = x
  | 0 => rfl
  | f + 1 => by rw [clR]; split <;> simp [h]
theorem clR_some {ps : List PcT} {c i : Nat} {x : SR} (h0 : plcR x.s c < x.s.length ∧ 0 < (reX x.s (plcR x.s c)).left) (h : opnR ps x.s (plcR x.s c) c x.out (plcR x.s c) = some i) (f : Nat) : clR ps c (f + 1) x = clR ps c f (mtR ps x i (plcR x.s c) c) := by
  rw [clR, if_pos h0, h]
theorem opnR_spec {ps : List PcT} {s : List RE} {k c : Nat} {out : List Nat} : ∀ {m i : Nat}, opnR ps s k c out m = some i → i < m ∧ ∃ a, (reX s i).pos = some a ∧ 0 < (reX s i).left
  | 0, _, h => by cases h
  | m + 1, i, h => by
    rw [opnR] at h
    split at h
    · next hg =>
      injection h with h
      subst h
      refine ⟨by omega, ?_⟩
      unfold goodR at hg
      cases hp : (reX s m).pos with
      | none => rw [hp] at hg; cases hg
      | some a =>
        rw [hp] at hg
        simp only [Bool.and_eq_true, decide_eq_true_eq] at hg
        exact ⟨a, rfl, hg.1⟩
    · obtain ⟨h1, h2⟩ := opnR_spec h
      exact ⟨by omega, h2⟩
/-- One match of a closer: the state stays small, and the closer has less left. -/
theorem mt_step {ps : List PcT} {x : SR} {i c f : Nat} (hB : SolB ps x) (h0 : plcR x.s c < x.s.length ∧ 0 < (reX x.s (plcR x.s c)).left) (h : opnR ps x.s (plcR x.s c) c x.out (plcR x.s c) = some i) (hf : (reX x.s (plcR x.s c)).left ≤ f) :
    SolB ps (mtR ps x i (plcR x.s c) c) ∧ plcR (mtR ps x i (plcR x.s c) c).s c = i + 2 ∧ i + 2 < (mtR ps x i (plcR x.s c) c).s.length ∧ (reX (mtR ps x i (plcR x.s c) c).s (i + 2)).left ≤ f - 1 ∧ clR ps c f x = clR ps c (f - 1) (mtR ps x i (plcR x.s c) c) := by
  obtain ⟨h1, a, h2, h3⟩ := opnR_spec h
  obtain ⟨p1, p2, p3⟩ := plc_mt (ps := ps) h0.1 h1
  refine ⟨hB.mt h1 h0.1 (plc_spec h0.1).1 h2 h3 h0.2, p1, p2, ?_, ?_⟩
  · rw [p3]
    have := nR2_le h3 h0.2
    omega
  · obtain ⟨f', rfl⟩ : ∃ f', f = f' + 1 := ⟨f - 1, by omega⟩
    rw [clR_some h0 h]; rfl
/-- The state of the beginning. -/
theorem SolB.start {ps : List PcT} (hl : ps.length ≤ 40) (hn : ∀ i, i < ps.length → (pcX ps i).n ≤ 40) (hs : sizeL (ps.map (·.inl)) ≤ 47481) : SolB ps ⟨futR ps 0 ps.length, [], []⟩ := by
  have key : ∀ m, m ≤ ps.length → sizeL ((futR ps 0 m).map (toR ps)) ≤ sizeL ((ps.map (·.inl)).take m) + 41 * m ∧ lsum (futR ps 0 m) ≤ 41 * m ∧ ∀ e ∈ futR ps 0 m, ∀ a, e.pos = some a → a < ps.length ∧ runP (pcX ps a) = true ∧ e.left ≤ (pcX ps a).n.toNat := by
    intro m
    induction m with
    | zero => intro _; exact ⟨by show sizeL [] ≤ _; rw [sizeL]; omega, Nat.le_refl _, fun e he => absurd he List.not_mem_nil⟩
    | succ m ih =>
      intro hm
      obtain ⟨i1, i2, i3⟩ := ih (by omega)
      have hml : m < (ps.map (·.inl)).length := by rw [List.length_map]; omega
      rw [futR_snoc, Nat.zero_add, List.map_append, sizeL_app, lsum_app, sizeL_take _ hml, List.getElem_map, ← pcX_get (by omega)]
      have hn := hn m (by omega)
      unfold refE
      split
      · next hr =>
        refine ⟨?_, ?_, ?_⟩
        · rw [List.map_singleton, sizeL, sizeL, sizeI_run (e := ⟨some m, (pcX ps m).n.toNat, zeroT⟩) rfl hr]
          show _ + (1 + (pcX ps m).n.toNat + 0) ≤ _
          omega
        · show lsum _ + ((pcX ps m).n.toNat + 1 + 0) ≤ _
          omega
        · intro e he a ha
          rcases List.mem_append.1 he with he | he
          · exact i3 e he a ha
          · obtain rfl := List.mem_singleton.1 he
            injection ha with ha; subst ha
            exact ⟨by omega, hr, Nat.le_refl _⟩
      · split
        · refine ⟨?_, ?_, ?_⟩
          · rw [List.map_singleton, sizeL, sizeL]
            show _ + (sizeI (pcX ps m).inl + 0) ≤ _
            omega
          · show lsum _ + (0 + 1 + 0) ≤ _
            omega
          · intro e he a ha
            rcases List.mem_append.1 he with he | he
            · exact i3 e he a ha
            · obtain rfl := List.mem_singleton.1 he
              cases ha
        · refine ⟨?_, ?_, ?_⟩
          · show _ + sizeL [] ≤ _
            rw [sizeL]; omega
          · show lsum _ + 0 ≤ _
            omega
          · intro e he a ha
            rw [List.append_nil] at he
            exact i3 e he a ha
  obtain ⟨k1, k2, k3⟩ := key ps.length (Nat.le_refl _)
  have ht : (ps.map (·.inl)).take ps.length = ps.map (·.inl) := List.take_of_length_le (by rw [List.length_map]; omega)
  rw [ht] at k1
  have k4 : lsum (futR ps 0 ps.length) + 0 + 0 ≤ 10000 := by omega
  exact ⟨by dsimp only; omega, k4, k3⟩
theorem sizeL_seg (l : List InT) (i k : Nat) : sizeL ((l.take k).drop i) ≤ sizeL l := by
  have h1 := sizeL_app (l.take k) (l.drop k)
  have h2 := sizeL_app ((l.take k).take i) ((l.take k).drop i)
  rw [List.take_append_drop] at h1 h2
  omega
end Go.Pub
namespace Go.Pub
def optI : Option Nat → Int
  | some i => (i : Nat)
  | none => -1
theorem opnR_step {ps : List PcT} {s : List RE} {k c : Nat} {out : List Nat} (m : Nat) : opnR ps s k c out (m + 1) = if goodR ps s k c out m = true then some m else opnR ps s k c out m := rfl
theorem goodR_none {ps : List PcT} {s : List RE} {k c : Nat} {out : List Nat} {i : Nat} (h : (reX s i).pos = none) : goodR ps s k c out i = false := by
  unfold goodR; rw [h]
theorem goodR_some {ps : List PcT} {s : List RE} {k c : Nat} {out : List Nat} {i a : Nat} (h : (reX s i).pos = some a) : goodR ps s k c out i = (decide (0 < (reX s i).left) && (!out.contains a && (fitsR (pcX ps a) (pcX ps c) && !(wrR ps ((s.take k).drop (i + 1))).isEmpty))) := by
  unfold goodR; rw [h]
end Go.Pub
namespace Go.Proofs.Ytfnloonmeilhlaa
open Go.RowKit Go.Pub
section
variable {P : Program} {ops : Array Oper} {Q : Exit → Act → World → Prop} {S : World → Prop} {fuel : Nat} {listed : Array Bool} {a : Act} {w : World}
/-- An operation that only reads is taken first; its slot is named. -/
theorem td (i d : Nat) (v : Value) {oi : Oper} (hi : ops[i]? = some oi) (hS : S w) (hy : ∀ w, S w → (execOp a.eval oi).run P w = .ok (.value v) w)
    (h : wpAnyH P .any ops Q S fuel (listed.setIfInBounds i true) (a.put (some d) v) w)
    (hs : Region.noSelect ops = true := by as_aux_lemma => kernel_rfl) (hf : Region.free .any ops listed i = true := by as_aux_lemma => kernel_rfl) (hr : (Region.ready .any ops listed).contains i = true := by as_aux_lemma => kernel_rfl)
    (hw : Region.wanted oi (yielded ops a.tmps) = true := by kernel_rfl) (hQ : ∀ c a w, Q (.panic c) (a.put oi.dst v) w → Q (.panic c) a w := by exact fun _ _ _ h => h) (hd : oi.dst = some d := by kernel_rfl) : wpAnyH P .any ops Q S (fuel + 1) listed a w :=
  wpAnyH_take hi hs hf hr hQ (Or.inl ⟨hw, hy⟩) hS (by rw [hd]; exact h)
/-- An operation whose guard says no is passed over. -/
theorem tdn (i d : Nat) {oi : Oper} (hi : ops[i]? = some oi) (hS : S w)
    (h : wpAnyH P .any ops Q S fuel (listed.setIfInBounds i true) (a.put (some d) undef) w)
    (hs : Region.noSelect ops = true := by as_aux_lemma => kernel_rfl) (hf : Region.free .any ops listed i = true := by as_aux_lemma => kernel_rfl) (hr : (Region.ready .any ops listed).contains i = true := by as_aux_lemma => kernel_rfl)
    (hw : Region.wanted oi (yielded ops a.tmps) = false := by kernel_rfl) (hQ : ∀ c a w, Q (.panic c) (a.put oi.dst undef) w → Q (.panic c) a w := by exact fun _ _ _ h => h) (hd : oi.dst = some d := by kernel_rfl) : wpAnyH P .any ops Q S (fuel + 1) listed a w :=
  wpAnyH_take hi hs hf hr hQ (Or.inr ⟨hw, rfl⟩) hS (by rw [hd]; exact h)
/-- A whole struct is loaded first. -/
theorem tdm (i d : Nat) (ty : TypeId) (x : Operand) (b o : Nat) (cs : List Value) (dd : TypeDesc) {oi : Oper} (hi : ops[i]? = some oi) (hS : S w)
    (ho : oi.op = .load ty x) (hr : ∀ w, S w → w.rangeAt b o cs) (hu : P.underlying ty = some dd) (hdr : dd.isRow = true) (hz : (P.info? ty).map (·.size) = some cs.length)
    (h : wpAnyH P .any ops Q S fuel (listed.setIfInBounds i true) (a.put (some d) (.agg cs.toArray)) w)
    (hs : Region.noSelect ops = true := by as_aux_lemma => kernel_rfl) (hf : Region.free .any ops listed i = true := by as_aux_lemma => kernel_rfl) (hrd : (Region.ready .any ops listed).contains i = true := by as_aux_lemma => kernel_rfl)
    (hx : a.eval x = .pointer (some ⟨b, o, none⟩) := by kernel_rfl) (hw : Region.wanted oi (yielded ops a.tmps) = true := by kernel_rfl) (hQ : ∀ c a w, Q (.panic c) (a.put oi.dst (.agg cs.toArray)) w → Q (.panic c) a w := by exact fun _ _ _ h => h) (hd : oi.dst = some d := by kernel_rfl) : wpAnyH P .any ops Q S (fuel + 1) listed a w :=
  wpAnyH_take hi hs hf hrd hQ (yieldsIf_load_mid hw ty x ho b o hx cs dd hr hu hdr hz) hS (by rw [hd]; exact h)
end
def endA : Ending → Option Addr
  | .returned (.slice A _ _) => A
  | _ => none
def endC : Ending → Nat
  | .returned (.slice _ _ c) => c
  | _ => 0
set_option maxHeartbeats 8000000 in
set_option maxRecDepth 100000 in
theorem r10_opener {L sv : Value} {ps : List PcT} {s : List RE} {S : Nat → Prop} {k c cA : Nat} {A : Option Addr} {out : List Nat} (w : World) (hS : ∀ g, S g → g < w.heap.size) (hL : PcsR w S L ps) (hE : ElsR w S sv s) (hO : ReadsS w S 1 A out.length (intsV out)) (hps : ∀ e ∈ s, ∀ a, e.pos = some a → a < ps.length ∧ runP (pcX ps a) = true) (hlf : ∀ e ∈ s, e.left ≤ 10000) (hln : s.length ≤ 100000) (hk : k < s.length) (hc : (reX s k).pos = some c) (hsz : ∀ i, sizeL (((s.take k).drop i).map (toR ps)) ≤ 1000000) (hcp : ∀ A n c, sv = .slice A n c → n ≤ c) :
    Calls Try.prog 44 #[L, sv, .int .i64 k, .slice A out.length cA] w fun e w' => e = .returned (.int .i64 (optI (opnR ps s k c out k))) ∧ Below w.heap.size w w' := by
  have HL := Lib.hid hL
  have HE := Lib.hid hE
  have HSS := Lib.hid hS
  have HOO := Lib.hid hO
  obtain ⟨A0, c0, vs0, hL0, -, -, hm0⟩ := id hL
  subst hL0
  obtain ⟨A1, c1, vs1, hE0, -, -, hm1⟩ := id hE
  subst hE0
  clear hm0 hm1
  have HR : Hid (∀ R, opnR ps s k c out k = R → opnR ps s k c out k = R) := Lib.hid fun _ h => h
  generalize hRR : opnR ps s k c out k = R at *
  have HSTEP := Lib.hid fun m => opnR_step (ps := ps) (s := s) (k := k) (c := c) (out := out) m
  have HN := Lib.hid fun i (h : (reX s i).pos = none) => goodR_none (ps := ps) (k := k) (c := c) (out := out) h
  have H0 : Hid (opnR ps s k c out k = R) := Lib.hid hRR
  have HB0 : Hid (Below w.heap.size w w) := Lib.hid (Below.refl _ w)
  have HPS := Lib.hid hps
  have HLF := Lib.hid hlf
  have HSZ := Lib.hid hsz
  have HCP := Lib.hid hcp
  have HC := Lib.hid hc
  clear hRR HR hL hE hO hS hps hlf hsz hcp hc
  go_enter Try.func44, Try.ntmps44
  go_wp2_with fail
  go_loopw [9] (fun v9 wr => ∃ m : Nat, m ≤ k ∧ v9 = .int .i64 ((m : Int) - 1) ∧ Hid (opnR ps s k c out m = R) ∧ Hid (Below w.heap.size w wr)) (fun v9 _ => (intOf v9 + 1).toNat)
  case atStart => exact ⟨k, Nat.le_refl _, rfl, H0, HB0⟩
  case round =>
    clear H0 HB0
    obtain ⟨m, hm, rfl, HI, HBw⟩ := hrel
    cases m with
    | zero =>
      have HRn : Hid (R = none) := Lib.hid HI.out.symm
      go_wp2_with fail
      go_ret
      exact ⟨by rw [HRn.out]; rfl, HBw.out⟩
    | succ i =>
      have hi1 : ((i + 1 : Nat) : Int) - 1 = (i : Int) := by omega
      rw [hi1]
      clear hi1
      have hLr : ElsR wr S (.slice A1 s.length c1) s := HE.out.keep (fun g hg => HBw.out.block g (HSS.out g hg)) fun _ h => h
      obtain ⟨b, off, c', e, hb, hat⟩ := hLr.opn (by omega)
      obtain ⟨x0, x1, x2, x3, x4, x5, x6, x7, x8, x9, -, hrg, -⟩ := hat i (by omega)
      have hSb := hb
      have hb := HSS.out b hb
      injection e with e1 e2 e3
      subst e1
      subst e3
      have k0 : wr.cell? ⟨b, off + i * 12, none⟩ = some (.int .i64 (posI (reX s i))) := hrg 0 _ rfl
      have k1 : wr.cell? ⟨b, off + i * 12 + 1, none⟩ = some (.int .i64 ((reX s i).left : Nat)) := hrg 1 _ rfl
      have hii : (i : Int) < (s.length : Int) := by omega
      have hi00 : (0 : Int) ≤ (i : Int) := by omega
      have hge : decide ((i : Int) ≥ 0) = true := decide_eq_true (by omega)
      have hatk := Lib.hid (hat k hk)
      clear hLr hat hrg
      cases hp : (reX s i).pos with
      | none =>
        have HN1 : Hid (opnR ps s k c out i = R) := Lib.hid (by have := HI.out; rw [HSTEP.out, if_neg (by rw [HN.out i hp]; decide)] at this; exact this)
        have hpo : posI (reX s i) = -1 := by unfold posI; rw [hp]
        rw [hpo] at k0
        clear hp hpo HI
        go_wp2_with fail
        go_region
        all_goals
          go_wp2_with fail
          go_roundw
          case rel => exact ⟨i, by omega, by go_num, HN1, Lib.hid HBw.out.drew⟩
          case measure => simp [intOf] <;> omega
      | some a =>
        have hpo : posI (reX s i) = (a : Nat) := by unfold posI; rw [hp]
        rw [hpo] at k0
        have ha0 : decide ((a : Int) ≥ 0) = true := decide_eq_true (by omega)
        by_cases hlf0 : (reX s i).left = 0
        · have HN1 : Hid (opnR ps s k c out i = R) := Lib.hid (by have := HI.out; rw [HSTEP.out, goodR_some hp, hlf0] at this; exact this)
          rw [hlf0] at k1
          clear hp hpo HI hlf0
          go_wp2_with fail
          go_region
          all_goals
            go_wp2_with fail
            go_roundw
            case rel => exact ⟨i, by omega, by go_num, HN1, Lib.hid HBw.out.drew⟩
            case measure => simp [intOf] <;> omega
        · have HE0 : Hid (Below w.heap.size w wr) := HBw
          have hbl : b < w.heap.size := hb
          have KK : Hid (∀ W', Below w.heap.size w W' → ∀ j v, wr.cell? ⟨b, j, none⟩ = some v → W'.cell? ⟨b, j, none⟩ = some v) := Lib.hid fun W' hW j v hj => (hW.cell (p := ⟨b, j, none⟩) hb).trans ((HBw.out.cell (p := ⟨b, j, none⟩) hb).symm.trans hj)
          have KE0 : Hid (∀ W', Below w.heap.size w W' → W'.cell? ⟨b, off + i * 12, none⟩ = some (.int .i64 (a : Nat))) := Lib.hid fun W' hW => KK.out W' hW _ _ k0
          have hra := HPS.out _ (reX_mem (show i < s.length by omega)) a hp
          have hrc := HPS.out _ (reX_mem hk) c HC.out
          have hcap := HCP.out _ _ _ rfl
          have HG : Hid (goodR ps s k c out i = (decide (0 < (reX s i).left) && (!out.contains a && (fitsR (pcX ps a) (pcX ps c) && !(wrR ps ((s.take k).drop (i + 1))).isEmpty)))) := Lib.hid (goodR_some hp)
          have HWR : Hid (∀ W', Below w.heap.size w W' → Calls Try.prog 28 #[.slice A0 ps.length c0, .slice (some ⟨b, off + (i + 1) * 12, none⟩) (k - (i + 1)) (c1 - (i + 1))] W' fun e w' => e = .returned (.slice (endA e) (wrR ps ((s.take k).drop (i + 1))).length (endC e)) ∧ Below W'.heap.size W' w') := Lib.hid fun W' hW => by
            refine (r10_written (S := S) W' (fun g hg => Nat.lt_of_lt_of_le (HSS.out g hg) hW.size) (HL.out.keep (fun g hg => hW.block g (HSS.out g hg)) fun _ h => h) ((HE.out.keep (fun g hg => hW.block g (HSS.out g hg)) fun _ h => h).sub (show i + 1 ≤ k by omega) (by omega) hSb _) (fun e he => HPS.out e (List.mem_of_mem_take (List.mem_of_mem_drop he))) (fun e he => HLF.out e (List.mem_of_mem_take (List.mem_of_mem_drop he))) (by rw [List.length_drop, List.length_take]; omega) (HSZ.out _)).mono ?_
            rintro e w' ⟨Ae, ce, vse, rfl, -, -, hb'⟩
            exact ⟨rfl, hb'⟩
          obtain ⟨b', off', c', e', hb', hat'⟩ := HL.out.opn (show 0 < ps.length by have := hra.1; omega)
          injection e' with e1 e2 e3
          subst e1
          subst e3
          have hSb' := HSS.out b' hb'
          obtain ⟨u0, u1, u2, u3, u4, u5, u6, u7, u8, u9, -, hra1, -⟩ := hat' a hra.1
          obtain ⟨v0, v1, v2, v3, v4, v5, v6, v7, v8, v9, -, hrc1, -⟩ := hat' c hrc.1
          obtain ⟨y0, y1, y2, y3, y4, y5, y6, y7, y8, y9, -, hrk, -⟩ := hatk.out
          have k2 : wr.cell? ⟨b, off + k * 12, none⟩ = some (.int .i64 (c : Nat)) := (hrk 0 _ rfl).trans (by unfold posI; rw [HC.out])
          have KK0 : Hid (∀ W', Below w.heap.size w W' → W'.cell? ⟨b, off + k * 12, none⟩ = some (.int .i64 (c : Nat))) := Lib.hid fun W' hW => KK.out W' hW _ _ k2
          obtain ⟨nna, nua⟩ : 1 ≤ (pcX ps a).n ∧ (pcX ps a).n ≤ 262144 := by obtain ⟨-, p1, p2, -⟩ := runP_spec hra.2; exact ⟨p1, p2⟩
          obtain ⟨nnc, nuc⟩ : 1 ≤ (pcX ps c).n ∧ (pcX ps c).n ≤ 262144 := by obtain ⟨-, p1, p2, -⟩ := runP_spec hrc.2; exact ⟨p1, p2⟩
          have hap : (a : Int) < (ps.length : Int) := by have := hra.1; omega
          have hcp' : (c : Int) < (ps.length : Int) := by have := hrc.1; omega
          have ha00 : (0 : Int) ≤ (a : Int) := by omega
          have hc00 : (0 : Int) ≤ (c : Int) := by omega
          have hks : (k : Int) < (s.length : Int) := by omega
          have hk00 : (0 : Int) ≤ (k : Int) := by omega
          generalize hct : out.contains a = ct at *
          generalize hwl : wrR ps ((s.take k).drop (i + 1)) = wl at *
          have hne : decide (0 < wl.length) = !wl.isEmpty := by cases wl <;> simp
          generalize hnw : wl.length = nw at *
          generalize (!wl.isEmpty) = ne at *
          have HG0 := HG.out
          rw [fitsR_v] at HG0
          have HG := Lib.hid HG0
          clear HG0
          generalize pcX ps a = P at *
          generalize pcX ps c = Q at *
          obtain ⟨kda, ila, cha, na', opa, cla, ima, bga, nda⟩ := P
          obtain ⟨kdc, ilc, chc, nc', opc, clc, imc, bgc, ndc⟩ := Q
          dsimp only at *
          obtain ⟨na, rfl⟩ : ∃ m : Nat, na' = m := ⟨na'.toNat, by omega⟩
          obtain ⟨nc, rfl⟩ : ∃ m : Nat, nc' = m := ⟨nc'.toNat, by omega⟩
          have HG0 := HG.out
          simp only [Int.toNat_natCast] at HG0
          have HG := Lib.hid HG0
          clear HG0
          have KPA : Hid (∀ W', Below w.heap.size w W' → W'.rangeAt b' (off' + a * 18) [.int .i64 kda, u0, u1, u2, u3, u4, u5, u6, u7, u8, u9, .string cha, .int .i64 (na : Nat), .bool opa, .bool cla, .bool ima, .int .i64 bga, .int .i64 nda]) := Lib.hid fun W' hW j v hj => (hW.cell (p := ⟨b', off' + a * 18 + j, none⟩) hSb').trans (hra1 j v hj)
          have KPC : Hid (∀ W', Below w.heap.size w W' → W'.rangeAt b' (off' + c * 18) [.int .i64 kdc, v0, v1, v2, v3, v4, v5, v6, v7, v8, v9, .string chc, .int .i64 (nc : Nat), .bool opc, .bool clc, .bool imc, .int .i64 bgc, .int .i64 ndc]) := Lib.hid fun W' hW j v hj => (hW.cell (p := ⟨b', off' + c * 18 + j, none⟩) hSb').trans (hrc1 j v hj)
          have HF := Lib.hid fun W' => r10_fits kda kdc bga bgc nda ndc na nc u0 u1 u2 u3 u4 u5 u6 u7 u8 u9 v0 v1 v2 v3 v4 v5 v6 v7 v8 v9 cha chc opa cla ima opc clc imc W' (by omega) (by omega)
          generalize fitsV opa cla opc cha chc na nc = ft at *
          generalize hlf1 : (reX s i).left = lf at *
          have KE1 : Hid (∀ W', Below w.heap.size w W' → W'.cell? ⟨b, off + i * 12 + 1, none⟩ = some (.int .i64 (lf : Nat))) := Lib.hid fun W' hW => KK.out W' hW _ _ k1
          have hlp : decide ((lf : Int) > 0) = true := decide_eq_true (by omega)
          have hlp2 : 0 < lf := by omega
          have HH : Hid (∀ W', Below w.heap.size w W' → Calls Try.prog 42 #[.slice A out.length cA, .int .i64 a] W' fun e w' => e = .returned (.bool ct) ∧ W' = w') := Lib.hid fun W' hW => by rw [← hct]; exact r10_has a W' (HOO.out.keep (fun g hg => hW.block g (HSS.out g hg)) fun _ h => h)
          have hl0 : (0 : Int) ≤ (i : Int) + 1 := by omega
          have hl1 : (i : Int) + 1 ≤ (k : Int) := by omega
          have hl2 : (k : Int) ≤ (c1 : Int) := by omega
          have hw1 : IntKind.i64.wrap ((i : Int) + 1) = (i : Int) + 1 := IntWalk.i64_in _ (by omega)
          have HSL : Hid (∀ W' : World, Below w.heap.size w W' → ((i : Int) + 1).toNat = i + 1 ∧ ¬ c1 = i + 1) := Lib.hid fun W' _ => ⟨by omega, by omega⟩
          clear HPS HLF HSZ HCP HC hp hra hrc hcap hat' hra1 hrc1 hrk k2 nna nua nnc nuc hct hwl hnw hlf1 hpo k0 k1 hlf0 KK
          -- WALK
          go_wp2_with fail
          refine wp_region_held_drew (S := fun W' => Below w.heap.size w W') (by kernel_rfl) HBw.out.drew (fun hHeld => ?_)
          refine td 0 16 (.slice (some ⟨b, off, none⟩) s.length c1) rfl hHeld (fun W' hSw => ?_) ?_
          · go_simp
          refine td 1 17 (.int .i64 i) rfl hHeld (fun W' hSw => ?_) ?_
          · go_simp
          refine td 2 18 (.pointer (some ⟨b, off + i * 12, none⟩)) rfl hHeld (fun W' hSw => ?_) ?_
          · go_simp
          refine td 3 19 (.pointer (some ⟨b, off + i * 12, none⟩)) rfl hHeld (fun W' hSw => ?_) ?_
          · go_simp
          refine td 4 20 (.int .i64 (a : Nat)) rfl hHeld (fun W' hSw => ?_) ?_
          · have := KE0.out W' hSw
            go_simp
          refine td 5 21 (.bool true) rfl hHeld (fun W' hSw => ?_) ?_
          · go_simp
          refine td 6 22 (.bool true) rfl hHeld (fun W' hSw => ?_) ?_
          · go_simp
          refine td 7 23 (.slice (some ⟨b, off, none⟩) s.length c1) rfl hHeld (fun W' hSw => ?_) ?_
          · go_simp
          refine td 8 24 (.int .i64 i) rfl hHeld (fun W' hSw => ?_) ?_
          · go_simp
          refine td 9 25 (.pointer (some ⟨b, off + i * 12, none⟩)) rfl hHeld (fun W' hSw => ?_) ?_
          · go_simp
          refine td 10 26 (.pointer (some ⟨b, off + i * 12 + 1, none⟩)) rfl hHeld (fun W' hSw => ?_) ?_
          · go_simp
          refine td 11 27 (.int .i64 (lf : Nat)) rfl hHeld (fun W' hSw => ?_) ?_
          · have := KE1.out W' hSw
            go_simp
          refine td 12 28 (.bool true) rfl hHeld (fun W' hSw => ?_) ?_
          · go_simp
          refine td 13 29 (.bool true) rfl hHeld (fun W' hSw => ?_) ?_
          · go_simp
          refine td 14 30 (.bool true) rfl hHeld (fun W' hSw => ?_) ?_
          · go_simp
          refine td 15 31 (.slice A out.length cA) rfl hHeld (fun W' hSw => ?_) ?_
          · go_simp
          refine td 16 32 (.slice (some ⟨b, off, none⟩) s.length c1) rfl hHeld (fun W' hSw => ?_) ?_
          · go_simp
          refine td 17 33 (.int .i64 i) rfl hHeld (fun W' hSw => ?_) ?_
          · go_simp
          refine td 18 34 (.pointer (some ⟨b, off + i * 12, none⟩)) rfl hHeld (fun W' hSw => ?_) ?_
          · go_simp
          refine td 19 35 (.pointer (some ⟨b, off + i * 12, none⟩)) rfl hHeld (fun W' hSw => ?_) ?_
          · go_simp
          refine td 20 36 (.int .i64 (a : Nat)) rfl hHeld (fun W' hSw => ?_) ?_
          · have := KE0.out W' hSw
            go_simp
          refine rd1 21 rfl (fun K hK => ?_)
          go_simp
          ((with_reducible refine (HH.out _ HBw.out.drew).mono ?_))
          rintro e W1 ⟨rfl, rfl⟩
          go_simp
          refine hK.out _ _ HBw.out.drew (fun hHeld => ?_)
          clear hK K
          refine td 22 38 (.bool (!ct)) rfl hHeld (fun W' hSw => ?_) ?_
          · go_simp
          refine td 23 39 (.bool (!ct)) rfl hHeld (fun W' hSw => ?_) ?_
          · go_simp
          refine td 24 40 (.bool (!ct)) rfl hHeld (fun W' hSw => ?_) ?_
          · go_simp
          cases ct with
          | true =>
            have HN1 : Hid (opnR ps s k c out i = R) := Lib.hid (by have := HI.out; rw [HSTEP.out, HG.out] at this; simpa using this)
            refine tdn 25 41 rfl hHeld ?_
            refine tdn 26 42 rfl hHeld ?_
            refine tdn 27 43 rfl hHeld ?_
            refine tdn 28 44 rfl hHeld ?_
            refine tdn 29 45 rfl hHeld ?_
            refine tdn 30 46 rfl hHeld ?_
            refine tdn 31 47 rfl hHeld ?_
            refine tdn 32 48 rfl hHeld ?_
            refine tdn 33 49 rfl hHeld ?_
            refine tdn 34 50 rfl hHeld ?_
            refine tdn 35 51 rfl hHeld ?_
            refine tdn 36 52 rfl hHeld ?_
            refine tdn 37 53 rfl hHeld ?_
            refine tdn 38 54 rfl hHeld ?_
            refine tdn 39 55 rfl hHeld ?_
            refine tdn 40 56 rfl hHeld ?_
            refine tdn 41 57 rfl hHeld ?_
            refine td 42 58 (.bool false) rfl hHeld (fun W' hSw => ?_) ?_
            · go_simp
            refine td 43 59 (.bool false) rfl hHeld (fun W' hSw => ?_) ?_
            · go_simp
            refine tdn 44 60 rfl hHeld ?_
            refine tdn 45 61 rfl hHeld ?_
            refine tdn 46 62 rfl hHeld ?_
            refine tdn 47 63 rfl hHeld ?_
            refine tdn 48 64 rfl hHeld ?_
            refine tdn 49 65 rfl hHeld ?_
            refine tdn 50 66 rfl hHeld ?_
            refine tdn 51 67 rfl hHeld ?_
            refine tdn 52 68 rfl hHeld ?_
            refine td 53 69 (.bool false) rfl hHeld (fun W' hSw => ?_) ?_
            · go_simp
            simp only [Act.put, List.setIfInBounds_toArray, List.set_cons_zero, List.set_cons_succ]
            refine wpAnyH_done (by kernel_rfl) ?_ _
            go_wp2_with fail
            go_roundw
            case rel => exact ⟨i, by omega, by go_num, HN1, Lib.hid (HBw.out.drew)⟩
            case measure => simp [intOf] <;> omega
          | false =>
            refine td 25 41 (.slice (some ⟨b', off', none⟩) ps.length c0) rfl hHeld (fun W' hSw => ?_) ?_
            · go_simp
            refine td 26 42 (.slice (some ⟨b, off, none⟩) s.length c1) rfl hHeld (fun W' hSw => ?_) ?_
            · go_simp
            refine td 27 43 (.int .i64 i) rfl hHeld (fun W' hSw => ?_) ?_
            · go_simp
            refine td 28 44 (.pointer (some ⟨b, off + i * 12, none⟩)) rfl hHeld (fun W' hSw => ?_) ?_
            · go_simp
            refine td 29 45 (.pointer (some ⟨b, off + i * 12, none⟩)) rfl hHeld (fun W' hSw => ?_) ?_
            · go_simp
            refine td 30 46 (.int .i64 (a : Nat)) rfl hHeld (fun W' hSw => ?_) ?_
            · have := KE0.out W' hSw
              go_simp
            refine td 31 47 (.pointer (some ⟨b', off' + a * 18, none⟩)) rfl hHeld (fun W' hSw => ?_) ?_
            · go_simp
            refine tdm 32 48 39 (.tmp 47) b' (off' + a * 18) [.int .i64 kda, u0, u1, u2, u3, u4, u5, u6, u7, u8, u9, .string cha, .int .i64 (na : Nat), .bool opa, .bool cla, .bool ima, .int .i64 bga, .int .i64 nda] _ rfl hHeld rfl KPA.out Try.underlying39 rfl pcE_size ?_
            refine td 33 49 (.slice (some ⟨b', off', none⟩) ps.length c0) rfl hHeld (fun W' hSw => ?_) ?_
            · go_simp
            refine td 34 50 (.slice (some ⟨b, off, none⟩) s.length c1) rfl hHeld (fun W' hSw => ?_) ?_
            · go_simp
            refine td 35 51 (.int .i64 k) rfl hHeld (fun W' hSw => ?_) ?_
            · go_simp
            refine td 36 52 (.pointer (some ⟨b, off + k * 12, none⟩)) rfl hHeld (fun W' hSw => ?_) ?_
            · go_simp
            refine td 37 53 (.pointer (some ⟨b, off + k * 12, none⟩)) rfl hHeld (fun W' hSw => ?_) ?_
            · go_simp
            refine td 38 54 (.int .i64 (c : Nat)) rfl hHeld (fun W' hSw => ?_) ?_
            · have := KK0.out W' hSw
              go_simp
            refine td 39 55 (.pointer (some ⟨b', off' + c * 18, none⟩)) rfl hHeld (fun W' hSw => ?_) ?_
            · go_simp
            refine tdm 40 56 39 (.tmp 55) b' (off' + c * 18) [.int .i64 kdc, v0, v1, v2, v3, v4, v5, v6, v7, v8, v9, .string chc, .int .i64 (nc : Nat), .bool opc, .bool clc, .bool imc, .int .i64 bgc, .int .i64 ndc] _ rfl hHeld rfl KPC.out Try.underlying39 rfl pcE_size ?_
            refine rd1 41 rfl (fun K hK => ?_)
            go_simp
            ((with_reducible refine (HF.out _).mono ?_))
            rintro e W1 ⟨rfl, b1⟩
            have B1 : Below w.heap.size w W1 := HBw.out.drew.trans (b1.mono HBw.out.drew.size)
            go_simp
            refine hK.out _ _ B1 (fun hHeld => ?_)
            clear hK K b1
            refine td 42 58 (.bool ft) rfl hHeld (fun W' hSw => ?_) ?_
            · go_simp
            refine td 43 59 (.bool ft) rfl hHeld (fun W' hSw => ?_) ?_
            · go_simp
            cases ft with
            | false =>
              have HN1 : Hid (opnR ps s k c out i = R) := Lib.hid (by have := HI.out; rw [HSTEP.out, HG.out] at this; simpa using this)
              refine tdn 44 60 rfl hHeld ?_
              refine tdn 45 61 rfl hHeld ?_
              refine tdn 46 62 rfl hHeld ?_
              refine tdn 47 63 rfl hHeld ?_
              refine tdn 48 64 rfl hHeld ?_
              refine tdn 49 65 rfl hHeld ?_
              refine tdn 50 66 rfl hHeld ?_
              refine tdn 51 67 rfl hHeld ?_
              refine tdn 52 68 rfl hHeld ?_
              refine td 53 69 (.bool false) rfl hHeld (fun W' hSw => ?_) ?_
              · go_simp
              simp only [Act.put, List.setIfInBounds_toArray, List.set_cons_zero, List.set_cons_succ]
              refine wpAnyH_done (by kernel_rfl) ?_ _
              go_wp2_with fail
              go_roundw
              case rel => exact ⟨i, by omega, by go_num, HN1, Lib.hid (B1)⟩
              case measure => simp [intOf] <;> omega
            | true =>
              refine td 44 60 (.slice (some ⟨b', off', none⟩) ps.length c0) rfl hHeld (fun W' hSw => ?_) ?_
              · go_simp
              refine td 45 61 (.slice (some ⟨b, off, none⟩) s.length c1) rfl hHeld (fun W' hSw => ?_) ?_
              · go_simp
              refine td 46 62 (.int .i64 i) rfl hHeld (fun W' hSw => ?_) ?_
              · go_simp
              refine td 47 63 (.int .i64 ((i : Int) + 1)) rfl hHeld (fun W' hSw => ?_) ?_
              · go_simp
              refine td 48 64 (.int .i64 k) rfl hHeld (fun W' hSw => ?_) ?_
              · go_simp
              refine td 49 65 (.slice (some ⟨b, off + (i + 1) * 12, none⟩) (k - (i + 1)) (c1 - (i + 1))) rfl hHeld (fun W' hSw => ?_) ?_
              · have := HSL.out W' hSw
                go_simp
              refine rd1 50 rfl (fun K hK => ?_)
              go_simp
              ((with_reducible refine (HWR.out _ B1).mono ?_))
              rintro e W2 ⟨he, b2⟩
              generalize endA e = eA at he
              generalize endC e = eC at he
              subst he
              have B2 : Below w.heap.size w W2 := B1.trans (b2.mono B1.size)
              go_simp
              refine hK.out _ _ B2 (fun hHeld => ?_)
              clear hK K b2
              refine td 51 67 (.int .i64 (nw : Nat)) rfl hHeld (fun W' hSw => ?_) ?_
              · go_simp
              refine td 52 68 (.bool ne) rfl hHeld (fun W' hSw => ?_) ?_
              · go_simp
              refine td 53 69 (.bool ne) rfl hHeld (fun W' hSw => ?_) ?_
              · go_simp
              cases ne with
              | false =>
                have HN1 : Hid (opnR ps s k c out i = R) := Lib.hid (by have := HI.out; rw [HSTEP.out, HG.out] at this; simpa using this)
                simp only [Act.put, List.setIfInBounds_toArray, List.set_cons_zero, List.set_cons_succ]
                refine wpAnyH_done (by kernel_rfl) ?_ _
                go_wp2_with fail
                go_roundw
                case rel => exact ⟨i, by omega, by go_num, HN1, Lib.hid (B2)⟩
                case measure => simp [intOf] <;> omega
              | true =>
                have HN1 : Hid (R = some i) := Lib.hid (by have := HI.out; rw [HSTEP.out, HG.out] at this; simpa [hlp2] using this.symm)
                simp only [Act.put, List.setIfInBounds_toArray, List.set_cons_zero, List.set_cons_succ]
                refine wpAnyH_done (by kernel_rfl) ?_ _
                go_wp2_with fail
                go_ret
                exact ⟨by rw [HN1.out]; rfl, B2⟩

end Go.Proofs.Ytfnloonmeilhlaa
namespace Go.Proofs.Ytfnloonmeilhlaa
open Go.RowKit Go.Pub
theorem el_fill3 (p1 l1 p3 l3 k0 k1 k2 k3 k4 k5 k6 k7 k8 k9 : Value) : Instr.fill (fun i => some (i * 12, 12)) ((Array.range (3 * 12)).map ((Value.agg #[.int .i64 0, .int .i64 0, .int .i64 0, .string ⟨#[]⟩, .string ⟨#[]⟩, .string ⟨#[]⟩, .string ⟨#[]⟩, .slice none 0 0, .slice none 0 0, .slice none 0 0, .slice none 0 0, .slice none 0 0]).cells[· % (Value.agg #[.int .i64 0, .int .i64 0, .int .i64 0, .string ⟨#[]⟩, .string ⟨#[]⟩, .string ⟨#[]⟩, .string ⟨#[]⟩, .slice none 0 0, .slice none 0 0, .slice none 0 0, .slice none 0 0, .slice none 0 0]).cells.size]!))
    [(0, .agg #[p1, l1, .int .i64 0, .string ⟨#[]⟩, .string ⟨#[]⟩, .string ⟨#[]⟩, .string ⟨#[]⟩, .slice none 0 0, .slice none 0 0, .slice none 0 0, .slice none 0 0, .slice none 0 0]), (1, .agg #[.int .i64 (-1), .int .i64 0, k0, k1, k2, k3, k4, k5, k6, k7, k8, k9]), (2, .agg #[p3, l3, .int .i64 0, .string ⟨#[]⟩, .string ⟨#[]⟩, .string ⟨#[]⟩, .string ⟨#[]⟩, .slice none 0 0, .slice none 0 0, .slice none 0 0, .slice none 0 0, .slice none 0 0])] =
    some #[p1, l1, .int .i64 0, .string ⟨#[]⟩, .string ⟨#[]⟩, .string ⟨#[]⟩, .string ⟨#[]⟩, .slice none 0 0, .slice none 0 0, .slice none 0 0, .slice none 0 0, .slice none 0 0, .int .i64 (-1), .int .i64 0, k0, k1, k2, k3, k4, k5, k6, k7, k8, k9, p3, l3, .int .i64 0, .string ⟨#[]⟩, .string ⟨#[]⟩, .string ⟨#[]⟩, .string ⟨#[]⟩, .slice none 0 0, .slice none 0 0, .slice none 0 0, .slice none 0 0, .slice none 0 0] := by kernel_rfl
def el3 (p1 l1 p3 l3 k0 k1 k2 k3 k4 k5 k6 k7 k8 k9 : Value) : Array Value := #[p1, l1, .int .i64 0, .string ⟨#[]⟩, .string ⟨#[]⟩, .string ⟨#[]⟩, .string ⟨#[]⟩, .slice none 0 0, .slice none 0 0, .slice none 0 0, .slice none 0 0, .slice none 0 0, .int .i64 (-1), .int .i64 0, k0, k1, k2, k3, k4, k5, k6, k7, k8, k9, p3, l3, .int .i64 0, .string ⟨#[]⟩, .string ⟨#[]⟩, .string ⟨#[]⟩, .string ⟨#[]⟩, .slice none 0 0, .slice none 0 0, .slice none 0 0, .slice none 0 0, .slice none 0 0]
theorem step_elSl3 {ops : Array Oper} {o : Oper} {a : Act} {w : World} {K : Act → World → Prop} {Q : Exit → Act → World → Prop} {E : Prop} (hgd : o.guard = none) (x y z : Operand) (ho : o.op = .buildSlice 59 3 #[(0, x), (1, y), (2, z)])
    (p1 l1 p3 l3 k0 k1 k2 k3 k4 k5 k6 k7 k8 k9 : Value)
    (hx : a.eval x = .agg #[p1, l1, .int .i64 0, .string ⟨#[]⟩, .string ⟨#[]⟩, .string ⟨#[]⟩, .string ⟨#[]⟩, .slice none 0 0, .slice none 0 0, .slice none 0 0, .slice none 0 0, .slice none 0 0])
    (hy : a.eval y = .agg #[.int .i64 (-1), .int .i64 0, k0, k1, k2, k3, k4, k5, k6, k7, k8, k9])
    (hz : a.eval z = .agg #[p3, l3, .int .i64 0, .string ⟨#[]⟩, .string ⟨#[]⟩, .string ⟨#[]⟩, .string ⟨#[]⟩, .slice none 0 0, .slice none 0 0, .slice none 0 0, .slice none 0 0, .slice none 0 0])
    (h : K (a.put o.dst (.slice (some ⟨w.heap.size, 0, none⟩) 3 3)) (w.alloc (.cells (el3 p1 l1 p3 l3 k0 k1 k2 k3 k4 k5 k6 k7 k8 k9) 96))) :
    if Region.wanted o (yielded ops a.tmps) = true then Oper.wp Try.prog o a w K Q else E := by
  have hw : Region.wanted o (yielded ops a.tmps) = true := by simp [Region.wanted, hgd]
  rw [if_pos hw]
  obtain ⟨i0, hi0, hz0, hz1, hz2⟩ := info_parts el_info
  refine wp_buildSlice 59 96 3 _ ho _ i0 _ Try.underlying59 hi0 hz0 (by rw [hz1]; decide) (by rw [hz1]; decide) ?_ h
  rw [hz1]
  have e : (#[((0 : Nat), x), (1, y), (2, z)].map fun (q : Nat × Operand) => (q.1, a.eval q.2)).toList = [(0, a.eval x), (1, a.eval y), (2, a.eval z)] := by simp
  rw [hx, hy, hz] at e
  show Instr.fill _ _ (#[((0 : Nat), x), (1, y), (2, z)].map fun (q : Nat × Operand) => (q.1, a.eval q.2)).toList = _
  rw [e]
  exact el_fill3 p1 l1 p3 l3 k0 k1 k2 k3 k4 k5 k6 k7 k8 k9
theorem inK_repS {w : World} {S : Nat → Prop} {c : Nat} {A : Option Addr} {vs : List (Array Value)} {l : List InT} (k : Int) (h : RepIs w S vs l) (hr : ReadsS w S 10 A l.length (vs.flatMap Array.toList)) : RepI w S (inK k A l.length c) (kidT k l) :=
  .mk k ⟨#[]⟩ ⟨#[]⟩ ⟨#[]⟩ noAt [] [] l none none none none A 0 0 0 0 c vs ReadsS.none_ ReadsS.none_ ReadsS.none_ ReadsS.none_ h hr
/-- What the elements may lie in: all but the blocks of the two growing rows. -/
def PSet (vP vO : Value) (wr : World) (g : Nat) : Prop := g < wr.heap.size ∧ vP.ownBlock ≠ some g ∧ vO.ownBlock ≠ some g
/-- The state in memory. -/
structure SoW (w0 : World) (x : SR) (vS vP vO : Value) (wr : World) : Prop where
  bel : Below w0.heap.size w0 wr
  els : ElsR wr (PSet vP vO wr) vS x.s
  cap : ∀ A n c, vS = .slice A n c → n ≤ c
  prs : wr.ownsRow w0.heap.size 30 3 vP x.prs.length (trips x.prs)
  out : wr.ownsRow w0.heap.size 3 1 vO x.out.length (intsV x.out)
section
variable {w0 wr W W2 : World} {x : SR} {vS vP vO : Value}
theorem PSet.below {g : Nat} (hb : Below wr.heap.size wr W) (h : PSet vP vO wr g) : PSet vP vO W g := ⟨Nat.lt_of_lt_of_le h.1 hb.size, h.2⟩
theorem SoW.new (h : SoW w0 x vS vP vO wr) {g : Nat} (hg : NewG wr W g) : PSet vP vO W g :=
  ⟨hg.2, fun e => by have := (h.prs.lt g e).2; have := hg.1; omega, fun e => by have := (h.out.lt g e).2; have := hg.1; omega⟩
theorem SoW.low (h : SoW w0 x vS vP vO wr) {g : Nat} (hg : g < w0.heap.size) : PSet vP vO wr g :=
  ⟨Nat.lt_of_lt_of_le hg h.bel.size, fun e => by have := (h.prs.lt g e).1; omega, fun e => by have := (h.out.lt g e).1; omega⟩
theorem SoW.below (h : SoW w0 x vS vP vO wr) (hb : Below wr.heap.size wr W) : SoW w0 x vS vP vO W :=
  ⟨h.bel.trans (hb.mono h.bel.size), h.els.keep (fun g hg => hb.block g hg.1) (fun g hg => hg.below hb), h.cap, own_below h.prs hb, own_below h.out hb⟩
theorem SoW.pushO {a g cap H : Nat} (h : SoW w0 x vS vP vO wr) (hown : W2.ownsRow w0.heap.size 3 1 (.slice (some ⟨g, 0, none⟩) (x.out.length + 1) cap) (x.out.length + 1) (intsV x.out ++ [.int .i64 a])) (hgrow : wr.grownBy W2 vO.ownBlock) (hlies : vO.ownBlock = some g ∨ g = H) (hH : wr.heap.size ≤ H) :
    SoW w0 { x with out := x.out ++ [a] } vS vP (.slice (some ⟨g, 0, none⟩) (x.out.length + 1) cap) W2 := by
  refine ⟨h.bel.grown hgrow h.bel.size fun k hk => (h.out.lt k hk).1, h.els.keep (fun g hg => hgrow.block g hg.1 (fun e => hg.2.2 e.symm)) (fun k hk => ⟨Nat.lt_of_lt_of_le hk.1 hgrow.size, hk.2.1, fun e => ?_⟩), h.cap, h.prs.kept hgrow (own_apart h.prs h.out (by decide)), ?_⟩
  · have e' : g = k := by simpa [Value.ownBlock] using e
    subst e'
    rcases hlies with h1 | h1
    · exact hk.2.2 h1
    · have := hk.1; omega
  · show World.ownsRow _ _ _ _ _ (x.out ++ [a]).length (intsV (x.out ++ [a]))
    rw [List.length_append, List.length_singleton]
    unfold intsV
    rw [List.map_append]
    exact hown
theorem SoW.pushP {y : Nat × Nat × Nat} {g cap H : Nat} (h : SoW w0 x vS vP vO wr) (hown : W2.ownsRow w0.heap.size 30 3 (.slice (some ⟨g, 0, none⟩) (x.prs.length + 1) cap) (x.prs.length + 1) (trips x.prs ++ [.int .i64 y.1, .int .i64 y.2.1, .int .i64 y.2.2])) (hgrow : wr.grownBy W2 vP.ownBlock) (hlies : vP.ownBlock = some g ∨ g = H) (hH : wr.heap.size ≤ H) :
    SoW w0 { x with prs := x.prs ++ [y] } vS (.slice (some ⟨g, 0, none⟩) (x.prs.length + 1) cap) vO W2 ∧ ∀ k, PSet vP vO wr k → PSet (.slice (some ⟨g, 0, none⟩) (x.prs.length + 1) cap) vO W2 k ∧ W2.heap[k]? = wr.heap[k]? := by
  have hin : ∀ k, PSet vP vO wr k → PSet (.slice (some ⟨g, 0, none⟩) (x.prs.length + 1) cap) vO W2 k ∧ W2.heap[k]? = wr.heap[k]? := fun k hk => by
    refine ⟨⟨Nat.lt_of_lt_of_le hk.1 hgrow.size, fun e => ?_, hk.2.2⟩, hgrow.block k hk.1 (fun e => hk.2.1 e.symm)⟩
    have e' : g = k := by simpa [Value.ownBlock] using e
    subst e'
    rcases hlies with h1 | h1
    · exact hk.2.1 h1
    · have := hk.1; omega
  refine ⟨⟨h.bel.grown hgrow h.bel.size fun k hk => (h.prs.lt k hk).1, h.els.keep (fun g hg => (hin g hg).2) (fun k hk => (hin k hk).1), h.cap, ?_, h.out.kept hgrow (own_apart h.out h.prs (by decide))⟩, hin⟩
  show World.ownsRow _ _ _ _ _ (x.prs ++ [y]).length (trips (x.prs ++ [y]))
  rw [List.length_append, List.length_singleton, trips_snoc]
  exact hown
/-- Elements are put behind others. -/
theorem OwE.app {w : World} {S : Nat → Prop} {s s2 : List RE} {v : Value} {vs vs2 : List (Array Value)} (h1 : vs.length = s.length) (h2 : ∀ j, j < s.length → RepEl w S (vs.getD j #[]) (reX s j)) (g1 : vs2.length = s2.length) (g2 : ∀ j, j < s2.length → RepEl w S (vs2.getD j #[]) (reX s2 j))
    (h3 : W.ownsRow w.heap.size 96 12 v (s.length + s2.length) (vs.flatMap Array.toList ++ vs2.flatMap Array.toList)) : OwE w S (s ++ s2) v W := by
  refine ⟨vs ++ vs2, by simp [h1, g1], fun j hj => ?_, by rw [List.flatMap_append, List.length_append]; exact h3⟩
  rw [List.length_append] at hj
  rcases Nat.lt_or_ge j s.length with hlt | hge
  · have e1 : (vs ++ vs2).getD j #[] = vs.getD j #[] := by rw [List.getD_eq_getElem?_getD, List.getElem?_append_left (by omega), ← List.getD_eq_getElem?_getD]
    have e2 : reX (s ++ s2) j = reX s j := by unfold reX; rw [List.getD_eq_getElem?_getD, List.getElem?_append_left hlt, ← List.getD_eq_getElem?_getD]
    rw [e1, e2]; exact h2 j hlt
  · have e1 : (vs ++ vs2).getD j #[] = vs2.getD (j - s.length) #[] := by rw [List.getD_eq_getElem?_getD, List.getElem?_append_right (by omega), h1, ← List.getD_eq_getElem?_getD]
    have e2 : reX (s ++ s2) j = reX s2 (j - s.length) := by unfold reX; rw [List.getD_eq_getElem?_getD, List.getElem?_append_right hge, ← List.getD_eq_getElem?_getD]
    rw [e1, e2]; exact g2 _ (by omega)
/-- The next state's elements. -/
theorem SoW.next {s' : List RE} {v : Value} (h : SoW w0 x vS vP vO wr) (ho : OwE wr (PSet vP vO wr) s' v W) (hb : Below wr.heap.size wr W) : SoW w0 { x with s := s' } v vP vO W := by
  obtain ⟨vs, h1, h2, h3⟩ := ho
  have h' := h.below hb
  have hc : ∀ A n c, v = .slice A n c → n ≤ c := fun A n c e => by
    subst e
    rcases h3.2 with ⟨e, _⟩ | ⟨g', cap', cur, e, _, _, h1, h2, _⟩
    · injection e with e1 e2 e3; omega
    · injection e with e1 e2 e3; omega
  obtain ⟨A, c, e, -, -⟩ := own_form h3
  subst e
  exact ⟨h'.bel, ⟨A, c, vs, rfl, h1, fun j hj => (h2 j hj).keep (fun g hg => hb.block g hg.1) fun g hg => hg.below hb, (ReadsS.of_own h3).keep (fun _ _ => rfl) fun g hg => h.new hg⟩, hc, h'.prs, h'.out⟩
/-- A part of the elements, for an append. -/
theorem ElsR.row {w : World} {S : Nat → Prop} {A : Option Addr} {n c : Nat} {s : List RE} (h : ElsR w S (.slice A n c) s) : n = s.length ∧ ∃ vs : List (Array Value), vs.length = s.length ∧ (∀ j, j < s.length → RepEl w S (vs.getD j #[]) (reX s j)) ∧ ReadsS w S 12 A n (vs.flatMap Array.toList) ∧ ∀ u ∈ vs.flatMap Array.toList, u.oneCell' = true := by
  obtain ⟨A', c', vs, e, h1, h2, h3⟩ := h
  injection e with e1 e2 e3
  subst e1 e2
  refine ⟨rfl, vs, h1, h2, h3, fun u hu => ?_⟩
  obtain ⟨r, hr, hu⟩ := List.mem_flatMap.1 hu
  obtain ⟨j, hj, rfl⟩ := List.mem_iff_getElem.1 hr
  obtain ⟨r, hr, e⟩ := h2 j (by omega)
  rw [List.getD_eq_getElem?_getD, List.getElem?_eq_getElem hj] at e
  rw [show vs[j] = elW r (reX s j) from e] at hu
  unfold elW at hu
  rw [Array.toList_append] at hu
  rcases List.mem_append.1 hu with hu | hu
  · simp only [List.mem_cons, List.not_mem_nil, or_false] at hu
    rcases hu with rfl | rfl <;> rfl
  · exact hr.one u hu
end
end Go.Proofs.Ytfnloonmeilhlaa
namespace Go.Pub
theorem solR_skip {ps : List PcT} {c : Nat} (h : ¬ (runP (pcX ps c) = true ∧ (pcX ps c).clo = true ∧ ¬ (solR ps c).out.contains c = true)) : solR ps (c + 1) = solR ps c := by
  rw [solR, if_neg h]
theorem solR_go {ps : List PcT} {c : Nat} (h : runP (pcX ps c) = true ∧ (pcX ps c).clo = true ∧ ¬ (solR ps c).out.contains c = true) : solR ps (c + 1) = clR ps c (pcX ps c).n.toNat (solR ps c) := by
  rw [solR, if_pos h]
def plcI (s : List RE) (c : Nat) : Int := if plcR s c < s.length then (plcR s c : Nat) else -1
/-- What holds among the matches of a closer. -/
structure ClS (ps : List PcT) (c : Nat) (R : SR) (x : SR) : Prop where
  sol : SolB ps x
  clo : ∃ f, clR ps c f x = R ∧ (plcR x.s c < x.s.length → (reX x.s (plcR x.s c)).left ≤ f)
theorem ClS.start {ps : List PcT} {c : Nat} (h : SolB ps (solR ps c)) (hg : runP (pcX ps c) = true ∧ (pcX ps c).clo = true ∧ ¬ (solR ps c).out.contains c = true) : ClS ps c (solR ps (c + 1)) (solR ps c) :=
  ⟨h, _, (solR_go hg).symm, fun hk => by
    have := (h.ps _ (reX_mem hk) c (plc_spec hk).1).2.2
    exact this⟩
theorem ClS.stop {ps : List PcT} {c : Nat} {R x : SR} (h : ClS ps c R x) (hs : ¬ (plcR x.s c < x.s.length ∧ 0 < (reX x.s (plcR x.s c)).left)) : x = R := by
  obtain ⟨f, hf, -⟩ := h.clo
  rw [← hf, clR_stop hs]
theorem ClS.none_ {ps : List PcT} {c : Nat} {R x : SR} (h : ClS ps c R x) (hs : opnR ps x.s (plcR x.s c) c x.out (plcR x.s c) = none) : x = R := by
  obtain ⟨f, hf, -⟩ := h.clo
  rw [← hf, clR_none hs]
theorem ClS.mt {ps : List PcT} {c i : Nat} {R x : SR} (h : ClS ps c R x) (h0 : plcR x.s c < x.s.length ∧ 0 < (reX x.s (plcR x.s c)).left) (hs : opnR ps x.s (plcR x.s c) c x.out (plcR x.s c) = some i) : ClS ps c R (mtR ps x i (plcR x.s c) c) := by
  obtain ⟨f, hf, hl⟩ := h.clo
  obtain ⟨m1, m2, m3, m4, m5⟩ := mt_step h.sol h0 hs (hl h0.1)
  exact ⟨m1, f - 1, by rw [← hf, m5], fun _ => by rw [m2]; exact m4⟩
end Go.Pub
namespace Go.Proofs.Ytfnloonmeilhlaa
open Go.RowKit Go.Pub
def lenV : Value → Nat
  | .slice _ n _ => n
  | _ => 0
theorem SoW.lenP {w0 w : World} {x : SR} {vS vP vO : Value} (h : SoW w0 x vS vP vO w) : lenV vP = x.prs.length := by
  obtain ⟨A, c, e, -, -⟩ := own_form h.prs
  rw [e]; rfl
def SolP (w : World) (x : SR) (e : Ending) (w' : World) : Prop := ∃ vS vP vO, e = .returned (.tuple #[vS, vP]) ∧ SoW w x vS vP vO w'
set_option maxHeartbeats 8000000 in
set_option maxRecDepth 100000 in
theorem r10_solve {L : Value} {ps : List PcT} (w : World) (hL : PcsR w (fun g => g < w.heap.size) L ps) (hl : ps.length ≤ 40) (hn : ∀ i, i < ps.length → (pcX ps i).n ≤ 40) (hs : sizeL (ps.map (·.inl)) ≤ 47481) : Calls Try.prog 27 #[L] w (SolP w (solR ps ps.length)) := by
  obtain ⟨A0, c0, vs0, hL0, -⟩ := id hL
  subst hL0
  have HL := Lib.hid hL
  have HST := Lib.hid (r10_state w hL (by omega))
  have HS0 := Lib.hid (SolB.start hl hn hs)
  have HRB : Hid (∀ p : PcT, runP p = runBit p.kind p.ch p.n) := Lib.hid fun _ => rfl
  clear hL hn hs
  go_enter Try.func27, Try.ntmps27
  go_wp2_with fail
  ((with_reducible refine HST.out.mono ?_))
  rintro e W1 ⟨v, rfl, o1, b1⟩
  have H0 : Hid (SoW w (solR ps 0) v (.slice none 0 0) (.slice none 0 0) W1) := Lib.hid (by
    obtain ⟨A, c, e, -, -⟩ := own_form o1.choose_spec.2.2
    refine ⟨b1, (o1.els b1).keep (fun _ _ => rfl) (fun g hg => ⟨hg, by simp [Value.ownBlock], by simp [Value.ownBlock]⟩), fun A n c e => ?_, World.ownsRow_nil _ _ _ _, World.ownsRow_nil _ _ _ _⟩
    rcases o1.choose_spec.2.2.2 with ⟨e', _⟩ | ⟨g', cap', cur, e', _, _, h1, h2, _⟩
    · rw [e] at e'; injection e' with e1 e2 e3; omega
    · rw [e] at e'; injection e' with e1 e2 e3; omega)
  have HS1 : Hid (SolB ps (solR ps 0)) := HS0
  clear o1 b1 HST HS0
  go_wp2_with fail
  go_loopw [4, 5, 6, 7] (fun v4 v5 v6 v7 wr => ∃ c : Nat, c ≤ ps.length ∧ v7 = .int .i64 c ∧ Hid (SolB ps (solR ps c)) ∧ Hid (SoW w (solR ps c) v4 v5 v6 wr)) (fun _ _ _ v7 _ => ps.length - (intOf v7).toNat)
  case atStart => exact ⟨0, Nat.zero_le _, rfl, HS1, H0⟩
  case round =>
    clear H0 HS1
    obtain ⟨c, hc, rfl, HSB, HSW⟩ := hrel
    obtain ⟨AP, cP, hvP, -, -⟩ := own_form HSW.out.prs
    obtain ⟨AO, cO, hvO, -, -⟩ := own_form HSW.out.out
    obtain ⟨AS, cS, vsS, hvS, -⟩ := id HSW.out.els
    subst hvP hvO hvS
    by_cases hlt : c < ps.length
    · obtain ⟨b, off, c', e, hb, hat⟩ := HL.out.opn (by omega)
      injection e with e1 e2 e3
      subst e1
      subst e3
      have hb : b < w.heap.size := hb
      obtain ⟨x0, x1, x2, x3, x4, x5, x6, x7, x8, x9, -, hrg, -⟩ := hat c hlt
      have HRG := Lib.hid hrg
      have HGO := Lib.hid (ClS.start (c := c) HSB.out)
      have HSK := Lib.hid (solR_skip (ps := ps) (c := c))
      have HRR := Lib.hid (HRB.out (pcX ps c))
      have hcc : (c : Int) < (ps.length : Int) := by omega
      have hc00 : (0 : Int) ≤ (c : Int) := by omega
      clear hat hrg
      generalize hQ : pcX ps c = Q at *
      obtain ⟨kd, il, ch, n, op, cl, im, bg, nd⟩ := Q
      dsimp only at *
      have HHQ := Lib.hid hQ
      clear hQ
      have HRG0 : Hid (∀ W, Below w.heap.size w W → W.rangeAt b (off + c * 18) [.int .i64 kd, x0, x1, x2, x3, x4, x5, x6, x7, x8, x9, .string ch, .int .i64 n, .bool op, .bool cl, .bool im, .int .i64 bg, .int .i64 nd]) := Lib.hid fun W hW j u hj => (hW.cell (p := ⟨b, off + c * 18 + j, none⟩) hb).trans (HRG.out j u hj)
      have HRG1 := Lib.hid (HRG0.out _ HSW.out.bel)
      have HV := Lib.hid (r10_run kd n x0 x1 x2 x3 x4 x5 x6 x7 x8 x9 ch op cl im bg nd wr)
      have HHAS : Hid (∀ W, Below wr.heap.size wr W → Calls Try.prog 42 #[.slice AO (solR ps c).out.length cO, .int .i64 c] W fun e w' => e = .returned (.bool ((solR ps c).out.contains c)) ∧ W = w') := Lib.hid fun W hW => r10_has c W (ReadsS.of_own (HSW.out.below hW).out)
      generalize hhs : (solR ps c).out.contains c = hs at *
      have HHS := Lib.hid hhs
      clear hhs
      go_upto_region 7 with fail
      go_cut [41] from 23 to 41 (fun s41 wx => s41 = .bool (!(runBit kd ch n) || (!cl || hs)) ∧ Below wr.heap.size wr wx)
      case first =>
        clear HGO HSK HRR HHS HSB
        go_wp2_with (refine wpList_load_mid rfl 39 (.tmp 25) rfl b (off + c * 18) rfl _ _ HRG1.out Try.underlying39 rfl pc18 ?_)
        ((with_reducible refine HV.out.mono ?_))
        rintro e W2 ⟨rfl, b2⟩
        have HB2 := Lib.hid b2
        have k4 : W2.cell? ⟨b, off + c * 18 + 14, none⟩ = some (.bool cl) := HRG0.out W2 (HSW.out.below b2).bel 14 _ rfl
        have HHAS2 := Lib.hid (HHAS.out W2 b2)
        clear b2 HV HRG1 HHAS HRG0 HSW
        cases hr : runBit kd ch n with
        | false =>
          go_wp2_with fail
          go_meet
          exact ⟨by rw [hr]; rfl, HB2.out⟩
        | true =>
          cases cl with
          | false =>
            go_wp2_with fail
            go_meet
            exact ⟨by rw [hr]; rfl, HB2.out⟩
          | true =>
            go_wp2_with fail
            ((with_reducible refine HHAS2.out.mono ?_))
            rintro e W3 ⟨rfl, rfl⟩
            go_wp2_with fail
            go_meet
            exact ⟨by rw [hr]; cases hs <;> rfl, HB2.out⟩
      case rest =>
      obtain ⟨rfl, b2⟩ := hcut
      rename World => W2
      have HSW2 := Lib.hid (HSW.out.below b2)
      clear b2 HV HRG1 HHAS
      cases hsk : (!(runBit kd ch n) || (!cl || hs)) with
      | true =>
        have HEQ : Hid (solR ps (c + 1) = solR ps c) := Lib.hid (HSK.out (fun h => by
          have h1 := h.1
          have h2 : cl = true := h.2.1
          rw [HRR.out] at h1
          have h3 : hs = false := by have := h.2.2; cases hs with
            | true => exact absurd rfl this
            | false => rfl
          rw [h1, h2, h3] at hsk; cases hsk))
        have HB3 : Hid (SolB ps (solR ps (c + 1))) := Lib.hid (by rw [HEQ.out]; exact HSB.out)
        have HW3 : Hid (SoW w (solR ps (c + 1)) (.slice AS (solR ps c).s.length cS) (.slice AP (solR ps c).prs.length cP) (.slice AO (solR ps c).out.length cO) W2) := Lib.hid (by rw [HEQ.out]; exact HSW2.out)
        clear hsk
        go_wp2_with fail
        go_roundw
        case rel => exact ⟨c + 1, by omega, by go_num, HB3, HW3⟩
        case measure => simp [intOf]; omega
      | false =>
            have hr : runBit kd ch n = true := by cases h : runBit kd ch n with
              | true => rfl
              | false => rw [h] at hsk; cases hsk
            have hcl : cl = true := by cases cl with
              | true => rfl
              | false => rw [hr] at hsk; cases hsk
            have hs0 : hs = false := by cases hs with
              | false => rfl
              | true => rw [hr, hcl] at hsk; cases hsk
            subst hcl hs0
            have hrun := hr
            rw [← HRR.out] at hrun
            have HRUN := Lib.hid hrun
            clear hsk
            have HC0 := Lib.hid (HGO.out ⟨hrun, rfl, by decide⟩)
            have HPL := Lib.hid fun (W : World) (x : SR) (v : Value) (S : Nat → Prop) (h : ElsR W S v x.s) => r10_place c W h
            have HPL1 : Hid (Calls Try.prog 43 #[.slice AS (solR ps c).s.length cS, .int .i64 c] W2 fun e w' => e = .returned (.int .i64 (plcI (solR ps c).s c)) ∧ W2 = w') := Lib.hid (HPL.out _ _ _ _ HSW2.out.els)
            clear hr hrun
            generalize hR1 : solR ps (c + 1) = R1 at *
            have HR1 := Lib.hid hR1
            clear hR1
            generalize solR ps c = R0 at *
            go_wp2_with fail
            ((with_reducible refine HPL1.out.mono ?_))
            rintro e W3 ⟨rfl, rfl⟩
            clear HPL1 HGO HSK HRR HHS HSB HSW
            go_wp2_with fail
            go_loopw [4, 5, 6, 8] (fun v4 v5 v6 v8 wr => ∃ x : SR, v8 = .int .i64 (plcI x.s c) ∧ Hid (ClS ps c R1 x) ∧ Hid (SoW w x v4 v5 v6 wr)) (fun _ v5 _ _ _ => 10001 - lenV v5)
            case atStart => exact ⟨R0, rfl, HC0, HSW2⟩
            case round =>
              clear HC0 HSW2
              obtain ⟨x, rfl, HCL, HSX⟩ := hrel
              rename World => wr2
              obtain ⟨AP2, cP2, hvP, -, -⟩ := own_form HSX.out.prs
              obtain ⟨AO2, cO2, hvO, -, -⟩ := own_form HSX.out.out
              obtain ⟨AS2, cS2, vsS2, hvS, -⟩ := id HSX.out.els
              subst hvP hvO hvS
              have HLE := HSX.out.lenP
              have hsl : x.s.length ≤ 10000 := by have := lsum_len x.s; have := HCL.out.sol.ls; omega
              by_cases hpl : plcR x.s c < x.s.length
              · have hI : plcI x.s c = (plcR x.s c : Nat) := by unfold plcI; rw [if_pos hpl]
                rw [hI]
                have HPS := Lib.hid (plc_spec hpl)
                have HSTP := Lib.hid HCL.out.stop
                have HNO := Lib.hid HCL.out.none_
                have HMT := Lib.hid fun i => HCL.out.mt (i := i)
                have HX := Lib.hid fun i (h : i < plcR x.s c) => cut2 (s := x.s) (i := i) h hpl
                have HMTD : Hid (∀ i, mtR ps x i (plcR x.s c) c = mtR ps x i (plcR x.s c) c) := Lib.hid fun _ => rfl
                have HOPN := Lib.hid fun (W : World) (hW : SoW w x (.slice AS2 x.s.length cS2) (.slice AP2 x.prs.length cP2) (.slice AO2 x.out.length cO2) W) => r10_opener (L := .slice (some ⟨b, off, none⟩) ps.length c0) (S := fun g => g < W.heap.size) (cA := cO2) (c := c) W (fun g hg => hg) (HL.out.keep (fun g hg => hW.bel.block g hg) fun g hg => (hW.low hg).1) (hW.els.keep (fun _ _ => rfl) fun g hg => hg.1) ((ReadsS.of_own hW.out).keep (fun _ _ => rfl) fun g hg => hg.2) (fun e he a ha => ⟨(HCL.out.sol.ps e he a ha).1, (HCL.out.sol.ps e he a ha).2.1⟩) (fun e he => by have := lsum_mem he; have := HCL.out.sol.ls; omega) (by have := lsum_len x.s; have := HCL.out.sol.ls; omega) hpl HPS.out.1 (fun i => by rw [List.map_drop, List.map_take]; exact Nat.le_trans (sizeL_seg _ _ _) HCL.out.sol.sz) hW.cap
                generalize hk : plcR x.s c = k at *
                have HK := Lib.hid hk
                clear hk hI
                have hks : (k : Int) < (x.s.length : Int) := by omega
                have hk00 : (0 : Int) ≤ (k : Int) := by omega
                have hge : decide ((k : Int) ≥ 0) = true := decide_eq_true (by omega)
                obtain ⟨b2, off2, c2, e, hb2, hat2⟩ := HSX.out.els.opn (by omega)
                injection e with e1 e2 e3
                subst e1
                subst e3
                obtain ⟨y0, y1, y2, y3, y4, y5, y6, y7, y8, y9, -, hrg2, -⟩ := hat2 k hpl
                have j1 : wr2.cell? ⟨b2, off2 + k * 12 + 1, none⟩ = some (.int .i64 ((reX x.s k).left : Nat)) := hrg2 1 _ rfl
                clear hat2 hrg2
                by_cases hlf : (reX x.s k).left = 0
                · have HST2 := Lib.hid (HSTP.out (fun h => by have := h.2; omega))
                  have hlf2 : decide (((reX x.s k).left : Int) > 0) = false := decide_eq_false (by omega)
                  rw [hlf] at j1
                  have HB3 : Hid (SolB ps (solR ps (c + 1))) := Lib.hid (by rw [HR1.out, ← HST2.out]; exact HCL.out.sol)
                  have HW3 : Hid (SoW w (solR ps (c + 1)) (.slice (some ⟨b2, off2, none⟩) x.s.length cS2) (.slice AP2 x.prs.length cP2) (.slice AO2 x.out.length cO2) wr2) := Lib.hid (by rw [HR1.out, ← HST2.out]; exact HSX.out)
                  clear hlf hlf2 HST2
                  go_wp2_with fail
                  all_goals
                    go_roundw
                    case rel => exact ⟨c + 1, by omega, by go_num, HB3, HW3⟩
                    case measure => simp [intOf]; omega
                · have hlf2 : decide (((reX x.s k).left : Int) > 0) = true := decide_eq_true (by omega)
                  have hlf3 : decide (0 < (reX x.s k).left) = true := decide_eq_true (by omega)
                  have hlf4 : 0 < (reX x.s k).left := by omega
                  have HOP2 := Lib.hid (HOPN.out _ HSX.out)
                  generalize hlk : (reX x.s k).left = lk at *
                  have HLK := Lib.hid hlk
                  clear hlk HOPN
                  cases hop : opnR ps x.s k c x.out k with
                  | none =>
                    have HST2 := Lib.hid (HNO.out hop)
                    rw [hop] at HOP2
                    have HB3 : Hid (SolB ps (solR ps (c + 1))) := Lib.hid (by rw [HR1.out, ← HST2.out]; exact HCL.out.sol)
                    have HW3 : Hid (∀ W, Below wr2.heap.size wr2 W → SoW w (solR ps (c + 1)) (.slice (some ⟨b2, off2, none⟩) x.s.length cS2) (.slice AP2 x.prs.length cP2) (.slice AO2 x.out.length cO2) W) := Lib.hid (fun W hW => by rw [HR1.out, ← HST2.out]; exact HSX.out.below hW)
                    clear hop HST2 hlf HSTP HNO HMT HX
                    go_wp2_with fail
                    ((with_reducible refine HOP2.out.mono ?_))
                    rintro e W4 ⟨rfl, b4⟩
                    have HW4 := Lib.hid (HW3.out _ b4)
                    clear b4 HW3 HOP2
                    unfold optI
                    go_wp2_with fail
                    go_roundw
                    case rel => exact ⟨c + 1, by omega, by go_num, HB3, HW4⟩
                    case measure => simp [intOf]; omega
                  | some i =>
                    rw [hop] at HOP2
                    obtain ⟨hik, a, hpa, hla⟩ := opnR_spec hop
                    have HM2 := Lib.hid (HMT.out i ⟨hpl, by omega⟩ hop)
                    clear hop HSTP HNO HMT
                    go_wp2_with fail
                    ((with_reducible refine HOP2.out.mono ?_))
                    rintro e W4 ⟨rfl, b4⟩
                    have HW4 := Lib.hid (HSX.out.below b4)
                    clear b4 HOP2 HSX
                    unfold optI
                    have hps := HCL.out.sol.ps
                    have hXI := HX.out i hik
                    have hkk := HK.out
                    have hik' : (i : Int) < (k : Int) := by omega
                    have his : (i : Int) < (x.s.length : Int) := by omega
                    have hi00 : (0 : Int) ≤ (i : Int) := by omega
                    have hdi : decide ((i : Int) < 0) = false := decide_eq_false (by omega)
                    obtain ⟨b3, off3, c3, e, hb3, hat3⟩ := HW4.out.els.opn (by omega)
                    injection e with e1 e2 e3
                    injection e1 with e1
                    injection e1 with e4 e5
                    subst e4 e5 e3
                    obtain ⟨y0, y1, y2, y3, y4, y5, y6, y7, y8, y9, -, hri, -⟩ := hat3 i (by omega)
                    obtain ⟨z0, z1, z2, z3, z4, z5, z6, z7, z8, z9, -, hrk, -⟩ := hat3 k hpl
                    have j2 : W4.cell? ⟨b2, off2 + i * 12 + 1, none⟩ = some (.int .i64 ((reX x.s i).left : Nat)) := hri 1 _ rfl
                    have j3 : W4.cell? ⟨b2, off2 + k * 12 + 1, none⟩ = some (.int .i64 (lk : Nat)) := by rw [← HLK.out]; exact hrk 1 _ rfl
                    clear hat3 hri hrk hb3 j1
                    generalize hli : (reX x.s i).left = li at *
                    have HLI := Lib.hid hli
                    have HHN := Lib.hid (show nR2 li lk = if 2 ≤ li ∧ 2 ≤ lk then 2 else 1 from rfl)
                    have HXI := Lib.hid hXI
                    have HPP := Lib.hid hps
                    clear hli hXI hps hkk
                    generalize hN : nR2 li lk = N at *
                    have HNN := Lib.hid hN
                    clear hN
                    go_upto_region 13 with fail
                    go_cut [75] from 62 to 75 (fun s75 wx => s75 = .bool (decide (N = 2)) ∧ W4 = wx)
                    case first =>
                      by_cases h1 : 2 ≤ li
                      · have d1 : decide ((li : Int) ≥ 2) = true := decide_eq_true (by omega)
                        by_cases h2 : 2 ≤ lk
                        · have d2 : decide ((lk : Int) ≥ 2) = true := decide_eq_true (by omega)
                          have HN' : Hid (N = 2) := Lib.hid (by rw [HHN.out, if_pos ⟨h1, h2⟩])
                          go_wp2_with fail
                          go_meet
                          exact ⟨by rw [HN'.out]; rfl, rfl⟩
                        · have d2 : decide ((lk : Int) ≥ 2) = false := decide_eq_false (by omega)
                          have HN' : Hid (N = 1) := Lib.hid (by rw [HHN.out, if_neg (by omega)])
                          go_wp2_with fail
                          go_meet
                          exact ⟨by rw [HN'.out]; rfl, rfl⟩
                      · have d1 : decide ((li : Int) ≥ 2) = false := decide_eq_false (by omega)
                        have HN' : Hid (N = 1) := Lib.hid (by rw [HHN.out, if_neg (by omega)])
                        go_wp2_with fail
                        go_meet
                        exact ⟨by rw [HN'.out]; rfl, rfl⟩
                    case rest =>
                    obtain ⟨rfl, rfl⟩ := hcut
                    go_upto_if 75 with fail
                    go_cut [10] from 75 to 75 (fun s10 wx => s10 = .int .i64 (N : Nat) ∧ W4 = wx)
                    case first =>
                      by_cases h1 : N = 2
                      · have d1 : decide (N = 2) = true := decide_eq_true h1
                        have HN' := Lib.hid h1
                        clear h1
                        go_wp2_with fail
                        go_meet
                        exact ⟨by rw [HN'.out]; rfl, rfl⟩
                      · have d1 : decide (N = 2) = false := decide_eq_false h1
                        have hN : N = 1 := by
                          have := HHN.out
                          split at this <;> omega
                        have HN' := Lib.hid hN
                        clear hN
                        go_wp2_with fail
                        go_meet
                        exact ⟨by rw [HN'.out]; rfl, rfl⟩
                    case rest =>
                    obtain ⟨rfl, rfl⟩ := hcut
                    have hN1 : 1 ≤ N ∧ N ≤ 2 ∧ N ≤ li ∧ N ≤ lk := by rw [HHN.out]; split <;> omega
                    obtain ⟨KK, hKK⟩ : ∃ KK, KK = kR2 (pcX ps c) N := ⟨_, rfl⟩
                    have HKK : Hid (KK = if ch.toList = [126] then 8 else if N = 2 then 7 else 6) := Lib.hid (by rw [hKK, HHQ.out]; rfl)
                    have HKK2 := Lib.hid hKK
                    clear hKK
                    have k2 : W4.cell? ⟨b, off + c * 18 + 11, none⟩ = some (.string ch) := HRG0.out W4 HW4.out.bel 11 _ rfl
                    go_upto_if 77 with fail
                    go_cut [11] from 76 to 77 (fun s11 wx => s11 = .int .i64 (if N = 2 then 7 else 6) ∧ W4 = wx)
                    case first =>
                      by_cases h1 : N = 2
                      · have d1 : ((N : Int) == 2) = true := beq_iff_eq.2 (by omega)
                        have d0 : (if N = 2 then (7 : Int) else 6) = 7 := if_pos h1
                        have D0 := Lib.hid d0
                        clear h1 d0
                        go_wp2_with fail
                        go_meet
                        exact ⟨by rw [D0.out], rfl⟩
                      · have d1 : ((N : Int) == 2) = false := beq_eq_false_iff_ne.2 (by omega)
                        have d0 : (if N = 2 then (7 : Int) else 6) = 6 := if_neg h1
                        have D0 := Lib.hid d0
                        clear h1 d0
                        go_wp2_with fail
                        go_meet
                        exact ⟨by rw [D0.out], rfl⟩
                    case rest =>
                    obtain ⟨rfl, rfl⟩ := hcut
                    generalize hkr : (if N = 2 then (7 : Int) else 6) = KR at *
                    have HKR := Lib.hid hkr
                    clear hkr
                    obtain ⟨tb, htb⟩ : ∃ tb, (ch.toList == [126]) = tb := ⟨_, rfl⟩
                    go_upto_if 83 with fail
                    go_cut [11] from 78 to 83 (fun s11 wx => s11 = .int .i64 KK ∧ W4 = wx)
                    case first =>
                      cases tb with
                      | true =>
                        have HF : Hid (KK = 8) := Lib.hid (by rw [HKK.out, if_pos (beq_iff_eq.1 htb)])
                        clear htb
                        go_wp2_with fail
                        go_meet
                        exact ⟨by rw [HF.out], rfl⟩
                      | false =>
                        have HF : Hid (KK = KR) := Lib.hid (by rw [HKK.out, if_neg (fun h => by rw [beq_iff_eq.2 h] at htb; cases htb), ← HKR.out])
                        clear htb
                        go_wp2_with fail
                        go_meet
                        exact ⟨by rw [HF.out], rfl⟩
                    case rest =>
                    obtain ⟨rfl, rfl⟩ := hcut
                    clear HKK HKR HHN k2 htb
                    have HWO : Hid (SoW w { x with out := x.out ++ ((x.s.take (i + 1)).drop (i + 1)).filterMap (·.pos) } (.slice (some ⟨b2, off2, none⟩) x.s.length cS2) (.slice AP2 x.prs.length cP2) (.slice AO2 x.out.length cO2) W4) := Lib.hid (by
                      have e0 : (x.s.take (i + 1)).drop (i + 1) = [] := List.drop_eq_nil_of_le (by rw [List.length_take]; omega)
                      rw [e0, List.filterMap_nil, List.append_nil]; exact HW4.out)
                    go_wp2_with fail
                    go_loopw [6, 12] (fun v6 v12 wq => ∃ j : Nat, i + 1 ≤ j ∧ j ≤ k ∧ v12 = .int .i64 j ∧ Hid (SoW w { x with out := x.out ++ ((x.s.take j).drop (i + 1)).filterMap (·.pos) } (.slice (some ⟨b2, off2, none⟩) x.s.length cS2) (.slice AP2 x.prs.length cP2) v6 wq)) (fun _ v12 _ => k - (intOf v12).toNat)
                    case atStart => exact ⟨i + 1, Nat.le_refl _, by omega, by go_num, HWO⟩
                    case round =>
                      clear HWO
                      obtain ⟨j, hj1, hj2, rfl, HWJ⟩ := hrel
                      rename World => wj
                      obtain ⟨AJ, cJ, hvJ, -, -⟩ := own_form HWJ.out.out
                      subst hvJ
                      by_cases hjk : j < k
                      · obtain ⟨b4, off4, c4, e, hb4, hat4⟩ := HWJ.out.els.opn (show 0 < x.s.length by omega)
                        injection e with e1 e2 e3
                        injection e1 with e1
                        injection e1 with e4 e5
                        subst e4 e5 e3
                        obtain ⟨y0, y1, y2, y3, y4, y5, y6, y7, y8, y9, -, hrj, -⟩ := hat4 j (show j < x.s.length by omega)
                        have q0 : wj.cell? ⟨b2, off2 + j * 12, none⟩ = some (.int .i64 (posI (reX x.s j))) := hrj 0 _ rfl
                        have hjs : (j : Int) < (x.s.length : Int) := by omega
                        have hj00 : (0 : Int) ≤ (j : Int) := by omega
                        have hjk' : (j : Int) < (k : Int) := by omega
                        have hstep : (x.s.take (j + 1)).drop (i + 1) = (x.s.take j).drop (i + 1) ++ [reX x.s j] := by
                          rw [List.take_add_one, List.getElem?_eq_getElem (show j < x.s.length by omega), List.drop_append_of_le_length (by rw [List.length_take]; omega), reX_get (show j < x.s.length by omega)]; rfl
                        clear hat4 hrj hb4
                        cases hpj : (reX x.s j).pos with
                        | none =>
                          have hpo : posI (reX x.s j) = -1 := by unfold posI; rw [hpj]
                          rw [hpo] at q0
                          have HWJ2 : Hid (SoW w { x with out := x.out ++ ((x.s.take (j + 1)).drop (i + 1)).filterMap (·.pos) } (.slice (some ⟨b2, off2, none⟩) x.s.length cS2) (.slice AP2 x.prs.length cP2) (.slice AJ (x.out ++ ((x.s.take j).drop (i + 1)).filterMap (·.pos)).length cJ) wj) := Lib.hid (by
                            have e0 : ([reX x.s j] : List RE).filterMap (·.pos) = [] := by rw [List.filterMap_cons, hpj]; rfl
                            rw [hstep, List.filterMap_append, e0, List.append_nil]; exact HWJ.out)
                          clear hstep hpo hpj
                          go_wp2_with fail
                          go_roundw
                          case rel => exact ⟨j + 1, by omega, by omega, by go_num, HWJ2⟩
                          case measure => simp [intOf]; omega
                        | some aj =>
                          have hpo : posI (reX x.s j) = (aj : Nat) := by unfold posI; rw [hpj]
                          rw [hpo] at q0
                          have hdj : decide ((aj : Int) ≥ 0) = true := decide_eq_true (by omega)
                          have hol : (x.out ++ ((x.s.take j).drop (i + 1)).filterMap (·.pos)).length ≤ 100000 := by
                            have h1 := List.length_filterMap_le (·.pos) ((x.s.take j).drop (i + 1))
                            have h2 := lsum_len x.s
                            have h3 := HCL.out.sol.ls
                            rw [List.length_drop, List.length_take] at h1
                            rw [List.length_append]; omega
                          have e0 : x.out ++ ((x.s.take (j + 1)).drop (i + 1)).filterMap (·.pos) = (x.out ++ ((x.s.take j).drop (i + 1)).filterMap (·.pos)) ++ [aj] := by
                            have e1 : ([reX x.s j] : List RE).filterMap (·.pos) = [aj] := by rw [List.filterMap_cons, hpj]; rfl
                            rw [hstep, List.filterMap_append, e1, List.append_assoc]
                          obtain ⟨i0, hi0, hz0, hz1, hz2⟩ := info_parts int_info
                          have hAl : Below wj.heap.size wj (wj.alloc (.cells #[.int .i64 aj] 3)) := (Below.refl _ wj).alloc (Nat.le_refl _) _
                          have HWA := Lib.hid (HWJ.out.below hAl)
                          have E0 := Lib.hid e0
                          clear hstep hpo hpj hAl e0
                          generalize hoo : x.out ++ ((x.s.take j).drop (i + 1)).filterMap (·.pos) = oo at *
                          have HPU : Hid (∀ (W7 : World) (g7 cap7 : Nat), W7.ownsRow w.heap.size 3 1 (.slice (some ⟨g7, 0, none⟩) (oo.length + 1) cap7) (oo.length + 1) (intsV oo ++ [.int .i64 aj]) → (wj.alloc (.cells #[.int .i64 aj] 3)).grownBy W7 (Value.slice AJ oo.length cJ).ownBlock → ((Value.slice AJ oo.length cJ).ownBlock = some g7 ∨ g7 = wj.heap.size + 1) → SoW w { x with out := x.out ++ ((x.s.take (j + 1)).drop (i + 1)).filterMap (·.pos) } (.slice (some ⟨b2, off2, none⟩) x.s.length cS2) (.slice AP2 x.prs.length cP2) (.slice (some ⟨g7, 0, none⟩) (oo.length + 1) cap7) W7) := Lib.hid fun W7 g7 cap7 h1 h2 h3 => by
                            have := HWA.out.pushO (a := aj) (g := g7) (cap := cap7) (H := wj.heap.size + 1) h1 h2 h3 (by rw [World.size_alloc]; exact Nat.le_refl _)
                            rw [E0.out]; exact this
                          have HOUT : Hid ((wj.alloc (.cells #[.int .i64 aj] 3)).ownsRow w.heap.size 3 1 (.slice AJ oo.length cJ) oo.length (intsV oo)) := Lib.hid HWA.out.out
                          have hwz : w.heap.size ≤ wj.heap.size := HWJ.out.bel.size
                          go_wp2_with (at_builtin; refine wpList_append_lies _ rfl _ _ 64 rfl w.heap.size 3 i0 _ 1 8 Try.underlying64 hi0 hz0 hz1 hz2 rfl (by decide) _ _ _ rfl HOUT.out ⟨wj.heap.size, 0, none⟩ 1 1 [.int .i64 aj] rfl rfl ?c1 ?c2 (by decide) ?c3 ?c4 ?c5 (wj.heap.size + 1) ?c6 ?_)
                          try case c1 => exact World.news_of_block (t := 3) (fr := (0, 0)) (heap_alloc_new wj _)
                          try case c2 => simp [Value.oneCell']
                          try case c3 => unfold maxLen; omega
                          try case c4 => omega
                          try case c5 => first | omega | (simp; omega)
                          try case c6 => simp
                          intro g7 cap7 W7 hown hgrow hlies hlt7
                          have HW7 := Lib.hid (HPU.out W7 g7 cap7 hown hgrow hlies)
                          clear hown hgrow hlies hlt7 HPU HOUT HWA
                          go_wp2_with fail
                          go_roundw
                          case rel => exact ⟨j + 1, by omega, by omega, by go_num, HW7⟩
                          case measure => simp [intOf]; omega
                      · obtain rfl : j = k := by omega
                        have HB := Lib.hid (show ∀ W', SoW w { x with out := x.out ++ ((x.s.take j).drop (i + 1)).filterMap (·.pos) } (.slice (some ⟨b2, off2, none⟩) x.s.length cS2) (.slice AP2 x.prs.length cP2) (.slice AJ (x.out ++ ((x.s.take j).drop (i + 1)).filterMap (·.pos)).length cJ) W' → Calls Try.prog 28 #[.slice (some ⟨b, off, none⟩) ps.length c0, .slice (some ⟨b2, off2 + (i + 1) * 12, none⟩) (j - (i + 1)) (cS2 - (i + 1))] W' (WrP (PSet (.slice AP2 x.prs.length cP2) (.slice AJ (x.out ++ ((x.s.take j).drop (i + 1)).filterMap (·.pos)).length cJ) W') (wrR ps ((x.s.take j).drop (i + 1))) W') from fun W' hW => r10_written W' (fun g hg => hg.1) (HL.out.keep (fun g hg => hW.bel.block g hg) fun g hg => hW.low hg) ((show ElsR W' _ (.slice (some ⟨b2, off2, none⟩) x.s.length cS2) x.s from hW.els).sub (show i + 1 ≤ j by omega) (show j ≤ x.s.length by omega) (by
                            obtain ⟨bb, ob, cb, eb, hbb, -⟩ := (show ElsR W' _ (.slice (some ⟨b2, off2, none⟩) x.s.length cS2) x.s from hW.els).opn (show 0 < x.s.length by omega)
                            injection eb with eb
                            injection eb with eb
                            injection eb with e7 e8
                            subst e7
                            exact hbb) _) (fun e he a ha => ⟨(HPP.out e (List.mem_of_mem_take (List.mem_of_mem_drop he)) a ha).1, (HPP.out e (List.mem_of_mem_take (List.mem_of_mem_drop he)) a ha).2.1⟩) (fun e he => by have := lsum_mem (List.mem_of_mem_take (List.mem_of_mem_drop he)); have := HCL.out.sol.ls; omega) (by rw [List.length_drop, List.length_take]; omega) (by rw [List.map_drop, List.map_take]; exact Nat.le_trans (sizeL_seg _ _ _) HCL.out.sol.sz))
                        have HB2 := Lib.hid (HB.out _ HWJ.out)
                        have hl0 : (0 : Int) ≤ (i : Int) + 1 := by omega
                        have hl1 : (i : Int) + 1 ≤ (j : Int) := by omega
                        have hcS := HWJ.out.cap _ _ _ rfl
                        have hl2 : (j : Int) ≤ (cS2 : Int) := by omega
                        have hw1 : IntKind.i64.wrap ((i : Int) + 1) = (i : Int) + 1 := IntWalk.i64_in _ (by omega)
                        have ht1 : ((i : Int) + 1).toNat = i + 1 := by omega
                        have ht2 : ¬ cS2 = i + 1 := by omega
                        clear HB
                        have HMTR : Hid (mtR ps x i j c = ⟨x.s.take i ++ (⟨some a, li - N, zeroT⟩ :: ⟨none, 0, kidT KK (wrR ps ((x.s.take j).drop (i + 1)))⟩ :: ⟨some c, lk - N, zeroT⟩ :: x.s.drop (j + 1)), x.prs ++ [(a, c, N)], x.out ++ ((x.s.take j).drop (i + 1)).filterMap (·.pos)⟩) := Lib.hid (by
                          unfold mtR; rw [hpa, HLI.out, HLK.out, HNN.out, ← HKK2.out]; rfl)
                        generalize (x.s.take j).drop (i + 1) = B at *
                        generalize x.out ++ B.filterMap (·.pos) = oo at *
                        generalize wrR ps B = WB at *
                        have hzj : w.heap.size ≤ wj.heap.size := HWJ.out.bel.size
                        clear HXI HX HPL HPS
                        go_wp2_with fail
                        ((with_reducible refine HB2.out.mono ?_))
                        rintro e W5 ⟨A5, n5, vs5, rfl, r5, o5, b5⟩
                        have HW5 := Lib.hid (HWJ.out.below b5)
                        have r5' : RepIs W5 (PSet (.slice AP2 x.prs.length cP2) (.slice AJ oo.length cJ) W5) vs5 WB := r5.keep (fun _ _ => rfl) fun g hg => by
                          rcases hg with hg | hg
                          · exact hg.below b5
                          · exact HWJ.out.new hg
                        have o5' : ReadsS W5 (PSet (.slice AP2 x.prs.length cP2) (.slice AJ oo.length cJ) W5) 10 A5 WB.length (vs5.flatMap Array.toList) := o5.keep (fun _ _ => rfl) fun g hg => HWJ.out.new hg
                        have HK5 : Hid (RepI W5 (PSet (.slice AP2 x.prs.length cP2) (.slice AJ oo.length cJ) W5) (inK KK A5 WB.length n5) (kidT KK WB)) := Lib.hid (inK_repS KK r5' o5')
                        clear r5 o5 b5 HB2 r5' o5'
                        have HB6 : Hid (Below W5.heap.size W5 (W5.alloc (.cells (inK KK A5 WB.length n5) 37))) := Lib.hid ((Below.refl _ W5).alloc (Nat.le_refl _) _)
                        have HX6 : Hid (Blk (W5.alloc (.cells (inK KK A5 WB.length n5) 37)) W5.heap.size 37 (inK KK A5 WB.length n5)) := Lib.hid (Blk.new W5 _ _)
                        have hone := inK_one KK A5 WB.length n5
                        have hz6 : (W5.alloc (.cells (inK KK A5 WB.length n5) 37)).heap.size = W5.heap.size + 1 := World.size_alloc _ _
                        have HONE := Lib.hid hone
                        clear hone
                        generalize hW6 : W5.alloc (.cells (inK KK A5 WB.length n5) 37) = W6 at *
                        have HW6E := Lib.hid hW6
                        have HW6 := Lib.hid (HW5.out.below HB6.out)
                        have HK6 := Lib.hid (HK5.out.keep (fun g hg => HB6.out.block g hg.1) fun g hg => hg.below HB6.out)
                        obtain ⟨b6, off6, c6, e, hb6, hat6⟩ := HW6.out.els.opn (show 0 < x.s.length by omega)
                        injection e with e1 e2 e3
                        injection e1 with e1
                        injection e1 with e4 e5
                        subst e4 e5 e3
                        obtain ⟨y0, y1, y2, y3, y4, y5, y6, y7, y8, y9, -, hri, -⟩ := hat6 i (show i < x.s.length by omega)
                        obtain ⟨z0, z1, z2, z3, z4, z5, z6, z7, z8, z9, -, hrk, -⟩ := hat6 j hpl
                        have q0 : W6.cell? ⟨b2, off2 + i * 12, none⟩ = some (.int .i64 (a : Nat)) := (hri 0 _ rfl).trans (by show some (Value.int .i64 (posI (reX x.s i))) = _; unfold posI; rw [hpa])
                        have q1 : W6.cell? ⟨b2, off2 + i * 12 + 1, none⟩ = some (.int .i64 (li : Nat)) := (hri 1 _ rfl).trans (by show some (Value.int .i64 ((reX x.s i).left : Nat)) = _; rw [HLI.out])
                        have q3 : W6.cell? ⟨b2, off2 + j * 12 + 1, none⟩ = some (.int .i64 (lk : Nat)) := (hrk 1 _ rfl).trans (by show some (Value.int .i64 ((reX x.s j).left : Nat)) = _; rw [HLK.out])
                        clear hat6 hri hrk hW6 HB6 HW5 HK5
                        have hlib : li ≤ 10000 ∧ lk ≤ 10000 := by
                          have h1 := lsum_mem (reX_mem (show i < x.s.length by omega))
                          have h2 := lsum_mem (reX_mem hpl)
                          rw [HLI.out] at h1
                          rw [HLK.out] at h2
                          have := HCL.out.sol.ls
                          omega
                        have hprl : x.prs.length ≤ 10000 := by have := HCL.out.sol.ls; omega
                        obtain ⟨i0, hi0, hz0, hz1, hz2⟩ := info_parts trip_info
                        have hAl : Below W6.heap.size W6 (W6.alloc (.cells #[.int .i64 a, .int .i64 c, .int .i64 N] 30)) := (Below.refl _ W6).alloc (Nat.le_refl _) _
                        have HWA := Lib.hid (HW6.out.below hAl)
                        have HPU : Hid (∀ (W7 : World) (g7 cap7 : Nat), W7.ownsRow w.heap.size 30 3 (.slice (some ⟨g7, 0, none⟩) (x.prs.length + 1) cap7) (x.prs.length + 1) (trips x.prs ++ [.int .i64 a, .int .i64 c, .int .i64 N]) → (W6.alloc (.cells #[.int .i64 a, .int .i64 c, .int .i64 N] 30)).grownBy W7 (Value.slice AP2 x.prs.length cP2).ownBlock → ((Value.slice AP2 x.prs.length cP2).ownBlock = some g7 ∨ g7 = W6.heap.size + 1) →
                            SoW w ⟨x.s, x.prs ++ [(a, c, N)], oo⟩ (.slice (some ⟨b2, off2, none⟩) x.s.length cS2) (.slice (some ⟨g7, 0, none⟩) (x.prs.length + 1) cap7) (.slice AJ oo.length cJ) W7 ∧ RepI W7 (PSet (.slice (some ⟨g7, 0, none⟩) (x.prs.length + 1) cap7) (.slice AJ oo.length cJ) W7) (inK KK A5 WB.length n5) (kidT KK WB) ∧ Blk W7 W5.heap.size 37 (inK KK A5 WB.length n5) ∧
                            W7.cell? ⟨b2, off2 + i * 12, none⟩ = some (.int .i64 (a : Nat)) ∧ W7.cell? ⟨b2, off2 + i * 12 + 1, none⟩ = some (.int .i64 (li : Nat)) ∧ W7.cell? ⟨b2, off2 + j * 12 + 1, none⟩ = some (.int .i64 (lk : Nat)) ∧ b2 < W7.heap.size) := Lib.hid fun W7 g7 cap7 h1 h2 h3 => by
                          obtain ⟨p1, p2⟩ := HWA.out.pushP (y := (a, c, N)) (g := g7) (cap := cap7) (H := W6.heap.size + 1) h1 h2 h3 (by rw [World.size_alloc]; exact Nat.le_refl _)
                          have hin : ∀ k, PSet (.slice AP2 x.prs.length cP2) (.slice AJ oo.length cJ) W6 k → W7.heap[k]? = W6.heap[k]? := fun k hk => (p2 k (hk.below hAl)).2.trans (hAl.block k hk.1)
                          have hb7 := hin b2 hb6
                          refine ⟨p1, HK6.out.keep hin (fun k hk => (p2 k (hk.below hAl)).1), ?_, (World.cell?_of_block (a := ⟨b2, off2 + i * 12, none⟩) hb7).trans q0, (World.cell?_of_block (a := ⟨b2, off2 + i * 12 + 1, none⟩) hb7).trans q1, (World.cell?_of_block (a := ⟨b2, off2 + j * 12 + 1, none⟩) hb7).trans q3, Nat.lt_of_lt_of_le hb6.1 (Nat.le_trans hAl.size h2.size)⟩
                          have hne : (Value.slice AP2 x.prs.length cP2).ownBlock ≠ some W5.heap.size := own_blk HW6.out.prs HX6.out (by decide)
                          unfold Blk
                          rw [h2.block W5.heap.size (by rw [World.size_alloc]; omega) (fun e => hne e.symm), hAl.block W5.heap.size (by omega)]
                          exact HX6.out
                        have HPRS : Hid ((W6.alloc (.cells #[.int .i64 a, .int .i64 c, .int .i64 N] 30)).ownsRow w.heap.size 30 3 (.slice AP2 x.prs.length cP2) x.prs.length (trips x.prs)) := Lib.hid HWA.out.prs
                        have hwz : w.heap.size ≤ W6.heap.size := HW6.out.bel.size
                        clear hAl HWA hz6 HCL
                        go_wp2_with (first | (refine wpList_store_row rfl 37 (.tmp 13) (.tmp 113) rfl W5.heap.size (inK KK A5 WB.length n5) rfl rfl 37 _ (Blk.new W5 _ _) inl_size (by rfl) HONE.out ?_; rw [World.setRow_alloc_new]; rw [HW6E.out]) | (at_builtin; refine wpList_append_lies _ rfl _ _ 28 rfl w.heap.size 30 i0 _ 3 24 Try.underlying28 hi0 hz0 hz1 hz2 rfl (by decide) _ _ _ rfl HPRS.out ⟨W6.heap.size, 0, none⟩ 1 1 [.int .i64 a, .int .i64 c, .int .i64 N] rfl rfl ?d1 ?d2 (by decide) ?d3 ?d4 ?d5 (W6.heap.size + 1) ?d6 ?_))
                        try case d1 => exact World.news_of_block (t := 30) (fr := (0, 0)) (heap_alloc_new W6 _)
                        try case d2 => simp [Value.oneCell']
                        try case d3 => unfold maxLen; omega
                        try case d4 => omega
                        try case d5 => first | omega | (simp; omega)
                        try case d6 => simp
                        intro g7 cap7 W7 hown hgrow hlies hlt7
                        obtain ⟨p1, p2, p3, p4, p5, p6, p7⟩ := HPU.out W7 g7 cap7 hown hgrow hlies
                        have HW7 := Lib.hid p1
                        have HK7 := Lib.hid p2
                        have HX7 := Lib.hid p3
                        clear p1 p2 p3 hown hgrow hlies hlt7 HPU HPRS HONE HW6E HX6 HK6 HW6 q0 q1 q3 hi0 hz0 hz1 hz2
                        obtain ⟨l1, hl1e⟩ : ∃ l1, l1 = li - N := ⟨_, rfl⟩
                        obtain ⟨l3, hl3e⟩ : ∃ l3, l3 = lk - N := ⟨_, rfl⟩
                        rw [← hl1e, ← hl3e] at HMTR
                        have hw2 : IntKind.i64.wrap ((li : Int) - (N : Int)) = (l1 : Int) := by rw [IntWalk.i64_in _ (by omega)]; omega
                        have hw3 : IntKind.i64.wrap ((lk : Int) - (N : Int)) = (l3 : Int) := by rw [IntWalk.i64_in _ (by omega)]; omega
                        clear hl1e hl3e
                        have hw4 : IntKind.i64.wrap ((j : Int) + 1) = (j : Int) + 1 := IntWalk.i64_in _ (by omega)
                        have hw5 : ((j : Int) + 1).toNat = j + 1 := by omega
                        obtain ⟨i0, hi0, hz0, hz1, hz2⟩ := info_parts el_info
                        have hE7 := (show ElsR W7 (PSet (.slice (some ⟨g7, 0, none⟩) (x.prs.length + 1) cap7) (.slice AJ oo.length cJ) W7) (.slice (some ⟨b2, off2, none⟩) x.s.length cS2) x.s from HW7.out.els)
                        have hSb : PSet (.slice (some ⟨g7, 0, none⟩) (x.prs.length + 1) cap7) (.slice AJ oo.length cJ) W7 b2 := by
                          obtain ⟨bb, ob, cb, eb, hbb, -⟩ := hE7.opn (show 0 < x.s.length by omega)
                          injection eb with eb
                          injection eb with eb
                          injection eb with e7 e8
                          subst e7
                          exact hbb
                        obtain ⟨hn1', vsA, vA1, vA2, vA3, vA4⟩ := ElsR.row (hE7.sub (show 0 ≤ i by omega) (show i ≤ x.s.length by omega) hSb cS2)
                        rw [List.drop_zero] at vA1 vA2
                        have HA := Lib.hid (And.intro vA1 (And.intro vA2 vA4))
                        have HA3 := Lib.hid vA3
                        have hi1 : ((x.s.take i).drop 0).length = i := by rw [List.drop_zero, List.length_take]; omega
                        have hcS0 : ¬ cS2 = 0 := by omega
                        have hiS : (i : Int) ≤ (cS2 : Int) := by omega
                        have hb7 := p7
                        have r0 := p4
                        have r1 := p5
                        have r3 := p6
                        clear hE7 vA1 vA2 vA3 vA4 p4 p5 p6 p7 hn1'
                        go_wp2_with (at_builtin; refine wpList_append_own _ rfl _ _ 59 rfl W7.heap.size 96 i0 _ 12 208 Try.underlying59 hi0 hz0 hz1 hz2 rfl (by decide) _ _ _ rfl (World.ownsRow_nil _ _ _ _) ⟨b2, off2, none⟩ i cS2 (vsA.flatMap Array.toList) rfl ?f1 ?f2 ?f3 ?f4 ?f5 ?f6 ?_)
                        case f1 => have := HA3.out.1.1; simpa using this
                        case f2 =>
                          intro j' u hj'
                          have hne0 : 0 < i - 0 := by
                            have h1 := HA3.out.1.1
                            have h2 := (List.getElem?_eq_some_iff.1 hj').1
                            rw [h1] at h2; omega
                          obtain ⟨ad', e', -, hc'⟩ := HA3.out.2 hne0
                          injection e' with e'
                          subst e'
                          have := hc' j' u hj'
                          simpa using this
                        case f3 => exact HA.out.2.2
                        case f4 => unfold maxLen; omega
                        case f5 => omega
                        case f6 => omega
                        intro v8 W8 hown8 hgrow8 hnil8
                        obtain ⟨A8, c8, hv8, -, -⟩ := own_form hown8
                        subst hv8
                        have hl8 : (x.s.take i).length = i := by rw [List.length_take]; omega
                        have b8 : Below W7.heap.size W7 W8 := (Below.refl _ W7).grown hgrow8 (Nat.le_refl _) (fun k hk => by simp [Value.ownBlock] at hk)
                        have hE7b := (show ElsR W7 (PSet (.slice (some ⟨g7, 0, none⟩) (x.prs.length + 1) cap7) (.slice AJ oo.length cJ) W7) (.slice (some ⟨b2, off2, none⟩) x.s.length cS2) x.s from HW7.out.els)
                        obtain ⟨hn2', vsC, vC1, vC2, vC3, vC4⟩ := ElsR.row (hE7b.sub (show j + 1 ≤ x.s.length by omega) (Nat.le_refl x.s.length) hSb cS2)
                        rw [List.take_length] at vC1 vC2
                        have HEND : Hid (∀ (vv : Value) (WE : World), WE.ownsRow W7.heap.size 96 12 vv (i + 3 + (x.s.length - (j + 1))) (vsA.flatMap Array.toList ++ ((el3 (.int .i64 a) (.int .i64 (l1 : Nat)) (.int .i64 c) (.int .i64 (l3 : Nat)) (.int .i64 KK) (.string ⟨#[]⟩) (.string ⟨#[]⟩) (.string ⟨#[]⟩) (.string ⟨#[]⟩) (.slice none 0 0) (.slice none 0 0) (.slice none 0 0) (.slice none 0 0) (.slice A5 WB.length n5)).toList ++ vsC.flatMap Array.toList)) → Below W7.heap.size W7 WE → SoW w (mtR ps x i j c) vv (.slice (some ⟨g7, 0, none⟩) (x.prs.length + 1) cap7) (.slice AJ oo.length cJ) WE) := Lib.hid fun vv WE h1 h2 => by
                          rw [HMTR.out]
                          refine HW7.out.next (OwE.app (s := x.s.take i) (s2 := (⟨some a, l1, zeroT⟩ : RE) :: (⟨none, 0, kidT KK WB⟩ : RE) :: (⟨some c, l3, zeroT⟩ : RE) :: x.s.drop (j + 1)) (vs := vsA) (vs2 := elW #[.int .i64 0, .string ⟨#[]⟩, .string ⟨#[]⟩, .string ⟨#[]⟩, .string ⟨#[]⟩, .slice none 0 0, .slice none 0 0, .slice none 0 0, .slice none 0 0, .slice none 0 0] (⟨some a, l1, zeroT⟩ : RE) :: elW (inK KK A5 WB.length n5) (⟨none, 0, kidT KK WB⟩ : RE) :: elW #[.int .i64 0, .string ⟨#[]⟩, .string ⟨#[]⟩, .string ⟨#[]⟩, .string ⟨#[]⟩, .slice none 0 0, .slice none 0 0, .slice none 0 0, .slice none 0 0, .slice none 0 0] (⟨some c, l3, zeroT⟩ : RE) :: vsC) HA.out.1 HA.out.2.1 (by simp [vC1]) (fun q hq => ?_) ?_) h2
                          · match q, hq with
                            | 0, _ => exact ⟨_, RepI.zero _ _, rfl⟩
                            | 1, _ => exact ⟨_, HK7.out, rfl⟩
                            | 2, _ => exact ⟨_, RepI.zero _ _, rfl⟩
                            | q + 3, hq => exact vC2 q (by simpa using hq)
                          · have e1 : (x.s.take i).length + ((⟨some a, l1, zeroT⟩ : RE) :: (⟨none, 0, kidT KK WB⟩ : RE) :: (⟨some c, l3, zeroT⟩ : RE) :: x.s.drop (j + 1)).length = i + 3 + (x.s.length - (j + 1)) := by
                              rw [List.length_cons, List.length_cons, List.length_cons, List.length_drop, hl8]; omega
                            rw [e1, List.flatMap_cons, List.flatMap_cons, List.flatMap_cons]
                            exact h1
                        have HC3 := Lib.hid vC3
                        have HC4 := Lib.hid vC4
                        clear hE7b vC1 vC2 vC3 vC4 hn2'
                        have HO8 := Lib.hid hown8
                        have HB8 := Lib.hid b8
                        have KA : Hid (∀ W', Below W7.heap.size W7 W' → W'.cell? ⟨b2, off2 + i * 12, none⟩ = some (.int .i64 (a : Nat))) := Lib.hid fun W' hW => (hW.cell (p := ⟨b2, off2 + i * 12, none⟩) hb7).trans r0
                        have KB : Hid (∀ W', Below W7.heap.size W7 W' → W'.cell? ⟨b2, off2 + i * 12 + 1, none⟩ = some (.int .i64 (li : Nat))) := Lib.hid fun W' hW => (hW.cell (p := ⟨b2, off2 + i * 12 + 1, none⟩) hb7).trans r1
                        have KC : Hid (∀ W', Below W7.heap.size W7 W' → W'.cell? ⟨b2, off2 + j * 12 + 1, none⟩ = some (.int .i64 (lk : Nat))) := Lib.hid fun W' hW => (hW.cell (p := ⟨b2, off2 + j * 12 + 1, none⟩) hb7).trans r3
                        have KX : Hid (∀ W', Below W7.heap.size W7 W' → W'.rangeAt W5.heap.size 0 [.int .i64 KK, .string ⟨#[]⟩, .string ⟨#[]⟩, .string ⟨#[]⟩, .string ⟨#[]⟩, .slice none 0 0, .slice none 0 0, .slice none 0 0, .slice none 0 0, .slice A5 WB.length n5]) := Lib.hid fun W' hW j' u hj' => by
                          have hb' := HX7.out
                          unfold Blk at hb'
                          have hlt5 : W5.heap.size < W7.heap.size := (Array.getElem?_eq_some_iff.1 hb').1
                          have := cell_of_row W' W5.heap.size j' _ _ (0, 0) ((hW.block _ hlt5).trans hb')
                          rw [Nat.zero_add, this]
                          simpa [inK] using hj'
                        clear hown8 hgrow8 hnil8 b8 r0 r1 r3
                        go_wp2_with fail
                        refine wp_region_held_drew (S := fun W' => Below W7.heap.size W7 W') (by kernel_rfl) HB8.out.drew (fun hHeld => ?_)
                        refine td 0 130 (.slice A8 i c8) rfl hHeld (fun W' hSw => ?_) ?_
                        · go_simp
                        refine td 1 131 (.slice (some ⟨b2, off2, none⟩) x.s.length cS2) rfl hHeld (fun W' hSw => ?_) ?_
                        · go_simp
                        refine td 2 132 (.int .i64 i) rfl hHeld (fun W' hSw => ?_) ?_
                        · go_simp
                        refine td 3 133 (.pointer (some ⟨b2, off2 + i * 12, none⟩)) rfl hHeld (fun W' hSw => ?_) ?_
                        · go_simp
                        refine td 4 134 (.pointer (some ⟨b2, off2 + i * 12, none⟩)) rfl hHeld (fun W' hSw => ?_) ?_
                        · go_simp
                        refine td 5 135 (.int .i64 (a : Nat)) rfl hHeld (fun W' hSw => ?_) ?_
                        · have := KA.out W' hSw
                          go_simp
                        refine td 6 136 (.slice (some ⟨b2, off2, none⟩) x.s.length cS2) rfl hHeld (fun W' hSw => ?_) ?_
                        · go_simp
                        refine td 7 137 (.int .i64 i) rfl hHeld (fun W' hSw => ?_) ?_
                        · go_simp
                        refine td 8 138 (.pointer (some ⟨b2, off2 + i * 12, none⟩)) rfl hHeld (fun W' hSw => ?_) ?_
                        · go_simp
                        refine td 9 139 (.pointer (some ⟨b2, off2 + i * 12 + 1, none⟩)) rfl hHeld (fun W' hSw => ?_) ?_
                        · go_simp
                        refine td 10 140 (.int .i64 (li : Nat)) rfl hHeld (fun W' hSw => ?_) ?_
                        · have := KB.out W' hSw
                          go_simp
                        refine td 11 141 (.int .i64 (N : Nat)) rfl hHeld (fun W' hSw => ?_) ?_
                        · go_simp
                        refine td 12 142 (.int .i64 (l1 : Nat)) rfl hHeld (fun W' hSw => ?_) ?_
                        · go_simp
                        refine td 13 143 (.agg #[.int .i64 (a : Nat), .int .i64 (l1 : Nat), .int .i64 0, .string ⟨#[]⟩, .string ⟨#[]⟩, .string ⟨#[]⟩, .string ⟨#[]⟩, .slice none 0 0, .slice none 0 0, .slice none 0 0, .slice none 0 0, .slice none 0 0]) rfl hHeld (fun W' hSw => ?_) ?_
                        · go_simp
                        refine tdm 14 144 37 (.tmp 13) W5.heap.size 0 [.int .i64 KK, .string ⟨#[]⟩, .string ⟨#[]⟩, .string ⟨#[]⟩, .string ⟨#[]⟩, .slice none 0 0, .slice none 0 0, .slice none 0 0, .slice none 0 0, .slice A5 WB.length n5] _ rfl hHeld rfl KX.out Try.underlying37 rfl inl_size ?_
                        refine td 15 145 (.agg #[.int .i64 (-1), .int .i64 0, .int .i64 KK, .string ⟨#[]⟩, .string ⟨#[]⟩, .string ⟨#[]⟩, .string ⟨#[]⟩, .slice none 0 0, .slice none 0 0, .slice none 0 0, .slice none 0 0, .slice A5 WB.length n5]) rfl hHeld (fun W' hSw => ?_) ?_
                        · go_simp
                        refine td 16 146 (.int .i64 (c : Nat)) rfl hHeld (fun W' hSw => ?_) ?_
                        · go_simp
                        refine td 17 147 (.slice (some ⟨b2, off2, none⟩) x.s.length cS2) rfl hHeld (fun W' hSw => ?_) ?_
                        · go_simp
                        refine td 18 148 (.int .i64 j) rfl hHeld (fun W' hSw => ?_) ?_
                        · go_simp
                        refine td 19 149 (.pointer (some ⟨b2, off2 + j * 12, none⟩)) rfl hHeld (fun W' hSw => ?_) ?_
                        · go_simp
                        refine td 20 150 (.pointer (some ⟨b2, off2 + j * 12 + 1, none⟩)) rfl hHeld (fun W' hSw => ?_) ?_
                        · go_simp
                        refine td 21 151 (.int .i64 (lk : Nat)) rfl hHeld (fun W' hSw => ?_) ?_
                        · have := KC.out W' hSw
                          go_simp
                        refine td 22 152 (.int .i64 (N : Nat)) rfl hHeld (fun W' hSw => ?_) ?_
                        · go_simp
                        refine td 23 153 (.int .i64 (l3 : Nat)) rfl hHeld (fun W' hSw => ?_) ?_
                        · go_simp
                        refine td 24 154 (.agg #[.int .i64 (c : Nat), .int .i64 (l3 : Nat), .int .i64 0, .string ⟨#[]⟩, .string ⟨#[]⟩, .string ⟨#[]⟩, .string ⟨#[]⟩, .slice none 0 0, .slice none 0 0, .slice none 0 0, .slice none 0 0, .slice none 0 0]) rfl hHeld (fun W' hSw => ?_) ?_
                        · go_simp
                        refine rd1 25 rfl (fun K hK => ?_)
                        refine step_elSl3 rfl (.tmp 143) (.tmp 145) (.tmp 154) rfl (.int .i64 (a : Nat)) (.int .i64 (l1 : Nat)) (.int .i64 (c : Nat)) (.int .i64 (l3 : Nat)) (.int .i64 KK) (.string ⟨#[]⟩) (.string ⟨#[]⟩) (.string ⟨#[]⟩) (.string ⟨#[]⟩) (.slice none 0 0) (.slice none 0 0) (.slice none 0 0) (.slice none 0 0) (.slice A5 WB.length n5) (by kernel_rfl) (by kernel_rfl) (by kernel_rfl) ?_
                        have B9 : Below W7.heap.size W7 (W8.drew.alloc (.cells (el3 (.int .i64 a) (.int .i64 (l1 : Nat)) (.int .i64 c) (.int .i64 (l3 : Nat)) (.int .i64 KK) (.string ⟨#[]⟩) (.string ⟨#[]⟩) (.string ⟨#[]⟩) (.string ⟨#[]⟩) (.slice none 0 0) (.slice none 0 0) (.slice none 0 0) (.slice none 0 0) (.slice A5 WB.length n5)) 96)) := HB8.out.drew.alloc HB8.out.size _
                        have B98 : Below W8.heap.size W8 (W8.drew.alloc (.cells (el3 (.int .i64 a) (.int .i64 (l1 : Nat)) (.int .i64 c) (.int .i64 (l3 : Nat)) (.int .i64 KK) (.string ⟨#[]⟩) (.string ⟨#[]⟩) (.string ⟨#[]⟩) (.string ⟨#[]⟩) (.slice none 0 0) (.slice none 0 0) (.slice none 0 0) (.slice none 0 0) (.slice A5 WB.length n5)) 96)) := (Below.refl _ W8).drew.alloc (Nat.le_refl _) _
                        have HO9 := Lib.hid (own_below HO8.out B98)
                        have HNW := Lib.hid (World.news_of_block (t := 96) (fr := (0, 0)) (heap_alloc_new W8.drew (.cells (el3 (.int .i64 a) (.int .i64 (l1 : Nat)) (.int .i64 c) (.int .i64 (l3 : Nat)) (.int .i64 KK) (.string ⟨#[]⟩) (.string ⟨#[]⟩) (.string ⟨#[]⟩) (.string ⟨#[]⟩) (.slice none 0 0) (.slice none 0 0) (.slice none 0 0) (.slice none 0 0) (.slice A5 WB.length n5)) 96)))
                        have hz9 : (W8.drew.alloc (.cells (el3 (.int .i64 a) (.int .i64 (l1 : Nat)) (.int .i64 c) (.int .i64 (l3 : Nat)) (.int .i64 KK) (.string ⟨#[]⟩) (.string ⟨#[]⟩) (.string ⟨#[]⟩) (.string ⟨#[]⟩) (.slice none 0 0) (.slice none 0 0) (.slice none 0 0) (.slice none 0 0) (.slice A5 WB.length n5)) 96)).heap.size = W8.heap.size + 1 := World.size_alloc _ _
                        refine hK.out _ _ B9 (fun hHeld => ?_)
                        clear hK K
                        generalize hW9 : W8.drew.alloc (.cells (el3 (.int .i64 a) (.int .i64 (l1 : Nat)) (.int .i64 c) (.int .i64 (l3 : Nat)) (.int .i64 KK) (.string ⟨#[]⟩) (.string ⟨#[]⟩) (.string ⟨#[]⟩) (.string ⟨#[]⟩) (.slice none 0 0) (.slice none 0 0) (.slice none 0 0) (.slice none 0 0) (.slice A5 WB.length n5)) 96) = W9 at *
                        have hb79 : W7.heap.size ≤ W9.heap.size := B9.size
                        refine rd1 26 rfl (fun K hK => ?_)
                        refine step_append_lies _ rfl (.tmp 130) (.tmp 155) 59 rfl W7.heap.size 96 i0 _ 12 208 Try.underlying59 hi0 hz0 hz1 hz2 rfl (by decide) _ _ _ (by kernel_rfl) HO9.out ⟨W8.heap.size, 0, none⟩ 3 3 (el3 (.int .i64 a) (.int .i64 (l1 : Nat)) (.int .i64 c) (.int .i64 (l3 : Nat)) (.int .i64 KK) (.string ⟨#[]⟩) (.string ⟨#[]⟩) (.string ⟨#[]⟩) (.string ⟨#[]⟩) (.slice none 0 0) (.slice none 0 0) (.slice none 0 0) (.slice none 0 0) (.slice A5 WB.length n5)).toList (by kernel_rfl) rfl ?g1 ?g2 (by decide) ?g3 ?g4 ?g5 (W8.heap.size + 1) hz9 ?_
                        case g1 => exact HNW.out
                        case g2 => simp [el3, Value.oneCell']
                        case g3 => unfold maxLen; omega
                        case g4 => omega
                        case g5 => exact hb79
                        intro gA cA' WA hown9 hgrow9 hlies9 hlt9
                        have B10 : Below W7.heap.size W7 WA := B9.grown hgrow9 hb79 (fun k hk => (HO9.out.lt k hk).1)
                        have HO10 := Lib.hid hown9
                        have HB10 := Lib.hid B10
                        clear hown9 hgrow9 hlies9 hlt9 HO9 HNW B9 B98 HB8 HO8 hz9
                        refine hK.out _ _ B10 (fun hHeld => ?_)
                        clear hK K
                        refine rd1 27 rfl (fun K hK => ?_)
                        go_simp
                        refine hK.out _ _ B10 (fun hHeld => ?_)
                        clear hK K
                        try simp only [Act.put, List.setIfInBounds_toArray, List.set_cons_zero, List.set_cons_succ]
                        refine wpAnyH_done (by kernel_rfl) ?_ _
                        have hjS : (j : Int) + 1 ≤ (x.s.length : Int) := by omega
                        have hj01 : (0 : Int) ≤ (j : Int) + 1 := by omega
                        clear hHeld B10 hb79 hW9
                        by_cases hcz : cS2 = j + 1
                        · go_wp2_with (at_builtin; refine wpList_append_own _ rfl _ _ 59 rfl W7.heap.size 96 i0 _ 12 208 Try.underlying59 hi0 hz0 hz1 hz2 rfl (by decide) _ _ _ rfl HO10.out ⟨b2, off2, none⟩ (x.s.length - (j + 1)) _ (vsC.flatMap Array.toList) rfl ?h1 ?h2 ?h3 ?h4 ?h5 ?h6 ?_)
                          case h1 => exact HC3.out.1.1
                          case h2 =>
                            intro j' u hj'
                            have h1 := HC3.out.1.1
                            have h2 := (List.getElem?_eq_some_iff.1 hj').1
                            rw [h1] at h2; omega
                          case h3 => exact HC4.out
                          case h4 => unfold maxLen; omega
                          case h5 => omega
                          case h6 => exact HB10.out.size
                          intro v11 W11 hown11 hgrow11 hnil11
                          obtain ⟨A11, c11, hv11, -, -⟩ := own_form hown11
                          subst hv11
                          have HSO := Lib.hid (HEND.out _ _ hown11 (HB10.out.grown hgrow11 HB10.out.size (fun k hk => (HO10.out.lt k hk).1)))
                          have HPLN : Hid (Calls Try.prog 43 #[.slice A11 (i + 3 + (x.s.length - (j + 1))) c11, .int .i64 c] W11 fun e w' => e = .returned (.int .i64 (plcI (mtR ps x i j c).s c)) ∧ W11 = w') := Lib.hid (r10_place c W11 HSO.out.els)
                          generalize mtR ps x i j c = X9 at *
                          clear hown11 hgrow11 hnil11 HEND HMTR HO10 HC3 HC4 HB10 HA HA3 HK7 HX7 HW7 hi0 hz0 hz1 hz2 KA KB KC KX
                          go_wp2_with fail
                          ((with_reducible refine HPLN.out.mono ?_))
                          rintro e W12 ⟨rfl, rfl⟩
                          go_wp2_with fail
                          go_roundw
                          case rel => exact ⟨X9, rfl, HM2, HSO⟩
                          case measure => simp only [lenV]; omega
                        · go_wp2_with (at_builtin; refine wpList_append_own _ rfl _ _ 59 rfl W7.heap.size 96 i0 _ 12 208 Try.underlying59 hi0 hz0 hz1 hz2 rfl (by decide) _ _ _ rfl HO10.out ⟨b2, off2 + (j + 1) * 12, none⟩ (x.s.length - (j + 1)) (cS2 - (j + 1)) (vsC.flatMap Array.toList) rfl ?k1 ?k2 ?k3 ?k4 ?k5 ?k6 ?_)
                          case k1 => exact HC3.out.1.1
                          case k2 =>
                            intro j' u hj'
                            have h1 := HC3.out.1.1
                            have h2 := (List.getElem?_eq_some_iff.1 hj').1
                            obtain ⟨ad', e', -, hc'⟩ := HC3.out.2 (by rw [h1] at h2; omega)
                            injection e' with e'
                            subst e'
                            exact (HB10.out.cell (by rw [block_of_add]; exact hb7)).trans (hc' j' u hj')
                          case k3 => exact HC4.out
                          case k4 => unfold maxLen; omega
                          case k5 => omega
                          case k6 => exact HB10.out.size
                          intro v11 W11 hown11 hgrow11 hnil11
                          obtain ⟨A11, c11, hv11, -, -⟩ := own_form hown11
                          subst hv11
                          have HSO := Lib.hid (HEND.out _ _ hown11 (HB10.out.grown hgrow11 HB10.out.size (fun k hk => (HO10.out.lt k hk).1)))
                          have HPLN : Hid (Calls Try.prog 43 #[.slice A11 (i + 3 + (x.s.length - (j + 1))) c11, .int .i64 c] W11 fun e w' => e = .returned (.int .i64 (plcI (mtR ps x i j c).s c)) ∧ W11 = w') := Lib.hid (r10_place c W11 HSO.out.els)
                          generalize mtR ps x i j c = X9 at *
                          clear hown11 hgrow11 hnil11 HEND HMTR HO10 HC3 HC4 HB10 HA HA3 HK7 HX7 HW7 hi0 hz0 hz1 hz2 KA KB KC KX
                          go_wp2_with fail
                          ((with_reducible refine HPLN.out.mono ?_))
                          rintro e W12 ⟨rfl, rfl⟩
                          go_wp2_with fail
                          go_roundw
                          case rel => exact ⟨X9, rfl, HM2, HSO⟩
                          case measure => simp only [lenV]; omega
              · have hI : plcI x.s c = -1 := by unfold plcI; rw [if_neg hpl]
                rw [hI]
                obtain rfl : x = R1 := HCL.out.stop (fun h => hpl h.1)
                have HB3 : Hid (SolB ps (solR ps (c + 1))) := Lib.hid (by rw [HR1.out]; exact HCL.out.sol)
                have HW3 : Hid (SoW w (solR ps (c + 1)) (.slice AS2 x.s.length cS2) (.slice AP2 x.prs.length cP2) (.slice AO2 x.out.length cO2) wr2) := Lib.hid (by rw [HR1.out]; exact HSX.out)
                clear hI hpl HLE
                go_wp2_with fail
                go_roundw
                case rel => exact ⟨c + 1, by omega, by go_num, HB3, HW3⟩
                case measure => simp [intOf]; omega
    · obtain rfl : c = ps.length := by omega
      go_wp2_with fail
      go_ret2
      exact ⟨_, _, _, rfl, HSW.out⟩

end Go.Proofs.Ytfnloonmeilhlaa
namespace Go.Pub
theorem SolB.all {ps : List PcT} (hl : ps.length ≤ 40) (hn : ∀ i, i < ps.length → (pcX ps i).n ≤ 40) (hs : sizeL (ps.map (·.inl)) ≤ 47481) : ∀ c, SolB ps (solR ps c)
  | 0 => SolB.start hl hn hs
  | c + 1 => by
    have ih := SolB.all hl hn hs c
    have key : ∀ (f : Nat) (x : SR), SolB ps x → SolB ps (clR ps c f x) := by
      intro f
      induction f with
      | zero => intro x h; exact h
      | succ f ihf =>
        intro x h
        rw [clR]
        split
        · next h0 =>
          split
          · exact h
          · next i hi =>
            obtain ⟨h1, a, h2, h3⟩ := opnR_spec hi
            exact ihf _ (h.mt h1 h0.1 (plc_spec h0.1).1 h2 h3 h0.2)
        · exact h
    rw [solR]
    split
    · exact key _ _ ih
    · exact ih
end Go.Pub
namespace Go.Proofs.Ytfnloonmeilhlaa
open Go.RowKit Go.Pub
set_option maxHeartbeats 4000000 in
set_option maxRecDepth 100000 in
theorem r10_Pairs {L : Value} {ps : List PcT} (w : World) (hL : PcsR w (fun g => g < w.heap.size) L ps) (hl : ps.length ≤ 40) (hn : ∀ i, i < ps.length → (pcX ps i).n ≤ 40) (hs : sizeL (ps.map (·.inl)) ≤ 47481) :
    Calls Try.prog 15 #[L] w (PrsP (solR ps ps.length).prs w) := by
  have HS := Lib.hid (r10_solve w hL hl hn hs)
  obtain ⟨A0, c0, vs0, hL0, -⟩ := id hL
  subst hL0
  clear hL hn hs
  go_enter Try.func15, Try.ntmps15
  go_wp2_with fail
  ((with_reducible refine HS.out.mono ?_))
  rintro e w1 ⟨vS, vP, vO, rfl, h⟩
  have HW := Lib.hid h
  obtain ⟨AP, cP, hvP, -, -⟩ := own_form h.prs
  obtain ⟨AS, cS, vsS, hvS, -⟩ := id h.els
  subst hvP hvS
  clear h HS
  generalize solR ps ps.length = X at *
  go_wp2_with fail
  go_ret
  exact ⟨AP, cP, rfl, (ReadsS.of_own HW.out.prs).keep (fun _ _ => rfl) fun g hg => hg, HW.out.bel⟩

set_option maxHeartbeats 4000000 in
set_option maxRecDepth 100000 in
theorem r10_Nest {L : Value} {ps : List PcT} (w : World) (hL : PcsR w (fun g => g < w.heap.size) L ps) (hl : ps.length ≤ 40) (hn : ∀ i, i < ps.length → (pcX ps i).n ≤ 40) (hs : sizeL (ps.map (·.inl)) ≤ 47481) :
    Calls Try.prog 13 #[L] w fun e w' => ∃ A c vs, e = .returned (.slice A (nestR ps).length c) ∧ RepIs w' (fun g => g < w'.heap.size) vs (nestR ps) ∧ ReadsS w' (fun g => g < w'.heap.size) 10 A (nestR ps).length (vs.flatMap Array.toList) ∧ Below w.heap.size w w' := by
  have HS := Lib.hid (r10_solve w hL hl hn hs)
  have HWR := Lib.hid fun (W : World) (vS vP vO : Value) (h : SoW w (solR ps ps.length) vS vP vO W) => r10_written W (fun g hg => hg.1) (hL.keep (S' := PSet vP vO W) (fun g hg => h.bel.block g hg) fun g hg => h.low hg) h.els (fun e he a ha => ⟨((SolB.all hl hn hs ps.length).ps e he a ha).1, ((SolB.all hl hn hs ps.length).ps e he a ha).2.1⟩) (fun e he => by have := lsum_mem he; have := (SolB.all hl hn hs ps.length).ls; omega) (by have := lsum_len (solR ps ps.length).s; have := (SolB.all hl hn hs ps.length).ls; omega) (SolB.all hl hn hs ps.length).sz
  have HNR : Hid (wrR ps (solR ps ps.length).s = nestR ps) := Lib.hid rfl
  obtain ⟨A0, c0, vs0, hL0, -⟩ := id hL
  subst hL0
  clear hL hn hs
  generalize nestR ps = NR at *
  go_enter Try.func13, Try.ntmps13
  go_wp2_with fail
  ((with_reducible refine HS.out.mono ?_))
  rintro e w1 ⟨vS, vP, vO, rfl, h⟩
  have HW := Lib.hid h
  have HW2 := Lib.hid (HWR.out w1 vS vP vO h)
  obtain ⟨AP, cP, hvP, -, -⟩ := own_form h.prs
  obtain ⟨AS, cS, vsS, hvS, -⟩ := id h.els
  subst hvP hvS
  rw [HNR.out] at HW2
  clear h HS HWR HNR
  generalize solR ps ps.length = X at *
  go_wp2_with fail
  ((with_reducible refine HW2.out.mono ?_))
  rintro e w2 ⟨A5, n5, vs5, rfl, r5, o5, b5⟩
  have HF : Hid (RepIs w2 (fun g => g < w2.heap.size) vs5 NR ∧ ReadsS w2 (fun g => g < w2.heap.size) 10 A5 NR.length (vs5.flatMap Array.toList) ∧ Below w.heap.size w w2) := Lib.hid ⟨r5.keep (fun _ _ => rfl) fun g hg => by
    rcases hg with hg | hg
    · exact Nat.lt_of_lt_of_le hg.1 b5.size
    · exact hg.2, o5.keep (fun _ _ => rfl) fun g hg => hg.2, HW.out.bel.trans (b5.mono HW.out.bel.size)⟩
  clear r5 o5 b5 HW2
  go_wp2_with fail
  go_ret
  exact ⟨A5, n5, vs5, rfl, HF.out.1, HF.out.2.1, HF.out.2.2⟩

end Go.Proofs.Ytfnloonmeilhlaa
namespace Go.Proofs.Ytfnloonmeilhlaa
open Go.RowKit Go.Pub
theorem trip_same (a b c : Int) (W : World) : (binOp .neq 30 (.agg #[.int .i64 a, .int .i64 b, .int .i64 c]) (.agg #[.int .i64 a, .int .i64 b, .int .i64 c])).run Try.prog W = .ok (.bool false) W := by
  obtain ⟨i0, hi0, -⟩ := info_parts int_info
  have p0 : ∀ W, (part 3 #[.int .i64 a, .int .i64 b, .int .i64 c] (0 * Try.prog.cellsOf 3)).run Try.prog W = .ok (.int .i64 a) W := fun W => by kernel_rfl
  have p1 : ∀ W, (part 3 #[.int .i64 a, .int .i64 b, .int .i64 c] (1 * Try.prog.cellsOf 3)).run Try.prog W = .ok (.int .i64 b) W := fun W => by kernel_rfl
  have p2 : ∀ W, (part 3 #[.int .i64 a, .int .i64 b, .int .i64 c] (2 * Try.prog.cellsOf 3)).run Try.prog W = .ok (.int .i64 c) W := fun W => by kernel_rfl
  have he : ∀ x W, (Op.equalIn 9999 3 (.int .i64 x) (.int .i64 x)).run Try.prog W = .ok true W := fun x W => by
    rw [run_equalIn_int W 9998 _ .i64 _ x x Try.underlying3, beq_self_eq_true]
  rw [run_neq_struct, run_equalIn_array W 9999 _ _ Try.underlying30 hi0]
  simp only [List.range, List.range.loop, Op.eqItems, Sem.run_bind, p0, p1, p2, he, Result.andThen_ok, Bool.not_true, Bool.false_eq_true, if_false, Sem.run_pure, Bool.not_true]
set_option maxHeartbeats 8000000 in
set_option maxRecDepth 100000 in
theorem law10_pairs {L : Value} {ps : List PcT} (w : World) (hL : PcsR w (fun g => g < w.heap.size) L ps) (ho : OkPs ps) : Calls Try.prog 4 #[L] w (BoolP true w) := by
  have HF := Lib.hid (t_few w hL (fun _ h => h) ho)
  obtain ⟨A0, c0, vs0, hL0, -⟩ := id hL
  subst hL0
  cases hf : fewP ps with
  | false =>
    rw [hf] at HF
    clear hL ho hf
    go_enter Try.func4, Try.ntmps4
    go_wp2_with fail
    ((with_reducible refine HF.out.mono ?_))
    rintro e w1 ⟨rfl, b1⟩
    have HB1 := Lib.hid b1
    clear b1 HF
    go_wp2_with fail
    ((with_reducible refine (l_awake w1).mono ?_))
    rintro e w2 ⟨rfl, b2⟩
    have HB2 := Lib.hid (HB1.out.trans (b2.mono HB1.out.size))
    clear b2
    go_wp2_with fail
    go_ret
    exact ⟨rfl, HB2.out⟩
  | true =>
    rw [hf] at HF
    obtain ⟨f1, f2, f3⟩ := few_sums hf
    obtain ⟨g1, g2, g3⟩ := few_bd hf
    have HPR := Lib.hid fun (W : World) (hb : Below w.heap.size w W) => e_PairsB W (hL.keep (fun g hg => hb.block g hg) fun g hg => Nat.lt_of_lt_of_le hg hb.size) (by omega) (by omega)
    have HRR := Lib.hid fun (W : World) (hb : Below w.heap.size w W) => r10_Pairs W (hL.keep (fun g hg => hb.block g hg) fun g hg => Nat.lt_of_lt_of_le hg hb.size) g1 (fun i hi => (g2 i hi).2) g3
    rw [(ref_eq ps).1] at HRR
    clear hL ho hf g2 g3
    generalize (matchA ps).prs = prs at *
    go_enter Try.func4, Try.ntmps4
    go_wp2_with fail
    ((with_reducible refine HF.out.mono ?_))
    rintro e w1 ⟨rfl, b1⟩
    have HP1 := Lib.hid (HPR.out w1 b1)
    have HB1 := Lib.hid b1
    clear b1 HF HPR
    go_wp2_with fail
    ((with_reducible refine HP1.out.mono ?_))
    rintro e w2 ⟨A2, c2, rfl, hr, b2⟩
    have HR := Lib.hid hr
    have HB2 := Lib.hid (HB1.out.trans (b2.mono HB1.out.size))
    have HP2 := Lib.hid (HRR.out w2 HB2.out)
    have hpl : prs.length ≤ 9223372036854775807 := by have := hr.1.2; unfold maxLen at this; omega
    clear hr b2 HP1 HRR
    go_wp2_with fail
    ((with_reducible refine HP2.out.mono ?_))
    rintro e w3 ⟨A3, c3, rfl, hr3, b3⟩
    have HR3 := Lib.hid hr3
    have HR2 := Lib.hid (HR.out.keep (w' := w3) (S' := fun g => g < w3.heap.size) (fun g hg => b3.block g hg.2) fun g hg => Nat.lt_of_lt_of_le hg.2 b3.size)
    have HB3 := Lib.hid (HB2.out.trans (b3.mono HB2.out.size))
    clear hr3 b3 HP2 HR
    go_wp2_with fail
    go_loopw [5] (fun v5 wr => ∃ i : Nat, i ≤ prs.length ∧ v5 = .int .i64 i ∧ Hid (Below w3.heap.size w3 wr)) (fun v5 _ => prs.length - (intOf v5).toNat)
    case atStart => exact ⟨0, Nat.zero_le _, rfl, Lib.hid (Below.refl _ _)⟩
    case round =>
      obtain ⟨i, hi, rfl, HBw⟩ := hrel
      by_cases hlt : i < prs.length
      · obtain ⟨b, off, rfl, hb, k0, k1, k2⟩ := trips_cell HR2.out i hlt
        obtain ⟨b', off', rfl, hb', l0, l1, l2⟩ := trips_cell HR3.out i hlt
        have hbw := HBw.out
        have hb : b < w3.heap.size := hb
        have hb' := hb'.2
        generalize hp1 : prs[i].1 = p1 at *
        generalize hp2 : prs[i].2.1 = p2 at *
        generalize hp3 : prs[i].2.2 = p3 at *
        clear hp1 hp2 hp3
        have c0 : wr.cell? ⟨b, off + i * 3, none⟩ = some (.int .i64 p1) := (hbw.cell (p := ⟨b, off + i * 3, none⟩) hb).trans k0
        have c1 : wr.cell? ⟨b, off + i * 3 + 1, none⟩ = some (.int .i64 p2) := (hbw.cell (p := ⟨b, off + i * 3 + 1, none⟩) hb).trans k1
        have c2 : wr.cell? ⟨b, off + i * 3 + 2, none⟩ = some (.int .i64 p3) := (hbw.cell (p := ⟨b, off + i * 3 + 2, none⟩) hb).trans k2
        have d0 : wr.cell? ⟨b', off' + i * 3, none⟩ = some (.int .i64 p1) := (hbw.cell (p := ⟨b', off' + i * 3, none⟩) hb').trans l0
        have d1 : wr.cell? ⟨b', off' + i * 3 + 1, none⟩ = some (.int .i64 p2) := (hbw.cell (p := ⟨b', off' + i * 3 + 1, none⟩) hb').trans l1
        have d2 : wr.cell? ⟨b', off' + i * 3 + 2, none⟩ = some (.int .i64 p3) := (hbw.cell (p := ⟨b', off' + i * 3 + 2, none⟩) hb').trans l2
        have hii : (i : Int) < (prs.length : Int) := by omega
        have hi00 : (0 : Int) ≤ (i : Int) := by omega
        have hts := trip_same p1 p2 p3
        clear k0 k1 k2 l0 l1 l2 hbw
        go_wp2_with fail
        go_region
        all_goals
          go_wp2_with fail
          go_roundw
          case rel => exact ⟨i + 1, by omega, by go_num, Lib.hid HBw.out.drew⟩
          case measure => simp [intOf]; omega
      · obtain rfl : i = prs.length := by omega
        go_wp2_with fail
        ((with_reducible refine (l_awake wr).mono ?_))
        rintro e w4 ⟨rfl, b4⟩
        have HB4 := Lib.hid ((HB3.out.trans (HBw.out.mono HB3.out.size)).trans (b4.mono (HB3.out.trans (HBw.out.mono HB3.out.size)).size))
        clear b4
        go_wp2_with fail
        go_ret
        exact ⟨rfl, HB4.out⟩

end Go.Proofs.Ytfnloonmeilhlaa
