/-
  Texts of the proof, put together (what this law reaches): Row, EmRA, EmSA, EmCA, EmPB, EmSB, EmSC, EmSD.
-/
import Derived.Below
import Derived.ChangeSame
import Derived.ProofKit
import Derived.Test.YtfnloonmeilhlaaP04
import Derived.ChangeArms
import Derived.Deep.Slices
import Derived.DataReads
import Derived.OpenShut
import Derived.KernelRfl
import Derived.Test.YtfnloonmeilhlaaP06
import Derived.Test.YtfnloonmeilhlaaP07
import Derived.Test.YtfnloonmeilhlaaP08
set_option linter.unusedVariables false
set_option linter.unusedSimpArgs false
namespace Go.Pub
open Go.RowKit Go.WideShapes Go.ChangeShapes
section
variable {H : Type} {enc : TypeId × Value → H} {P : Program}
theorem post_of_below {f : Func} {s : ChangeSpec} {apart fresh handsOn again : Bool} {W W' : World} {args : Array Value} {v : Value} {ds gs : List (DataW H)} {before pa pv : List MemPlace}
    (hW : DataW.Whole enc P f.params.toList s.vars apart W args.toList ds gs before)
    (hres : ∀ (b : Nat) (sp : Nat → Bool) (hd : Bool), DataW.TrodAll enc P W' b sp hd f.resultTypes.toList (v.resultList f.resultTypes.size) (s.fn H (ds ++ gs)).results [])
    (hargs : ∀ sp : Nat → Bool, (∀ p ∈ before, sp p.block = true) → DataW.TrodAll enc P W' 0 sp true f.params.toList args.toList (s.fn H (ds ++ gs)).args pa)
    (hvars : ∀ sp : Nat → Bool, (∀ p ∈ before, sp p.block = true) → DataW.TrodVars enc P W' sp s.vars (s.fn H (ds ++ gs)).vars pv)
    (hps : before = pa ++ pv) (hb : Below W.heap.size W W')
    (hok : ∀ (j : Nat) (t : TypeId) (r : Value), f.resultTypes[j]? = some t → (v.resultList f.resultTypes.size)[j]? = some r → Value.okWide P W' .any 0 t r) :
    s.post enc P f apart fresh handsOn again W args v W' := by
  have hlt : ∀ p ∈ before, p.block < W.heap.size := fun p hp => hW.lt p hp
  have hold : ∀ p ∈ before, (fun b => decide (b < W.heap.size)) p.block = true := fun p hp => by simpa using hlt p hp
  refine ⟨ds, gs, before, [], pa, pv, hW, hres _ _ _, hargs _ hold, hvars _ hold, World.keptBut_mono (fun p hp => ⟨hp, ?_⟩) (hb.frame (· ∈ before)), fun _ => ?_⟩
  · rw [hps, List.mem_append] at hp
    exact Or.inr hp
  · obtain ⟨_, _, _, _, _, hz, hn⟩ := hW
    refine ⟨hok, _, _, ([] ++ pa) ++ pv, ⟨[] ++ pa, pv, trodAll_append (hargs _ (fun _ _ => rfl)) (hres _ _ _), hvars _ (fun _ _ => rfl), rfl, ?_, ?_⟩, ?_⟩
    · intro b off hp
      have hin : MemPlace.cell b off ∈ before := by rw [hps]; simpa using hp
      rw [hb.frozen (hlt _ hin)]
      exact hz b off hin
    · intro ha
      have := hn ha
      rw [hps] at this
      simpa using this
    · intro p hp _
      rw [hps]
      simpa using hp
end
end Go.Pub
namespace Go.Pub
open Go.ChangeShapes Go.WideShapes Go.RowKit
def OkA (a : AttrL) : Prop := a.id.size ≤ reachBytes ∧ (∀ s ∈ a.cl, s.size ≤ reachBytes) ∧ ∀ x ∈ a.pr, x.1.size ≤ reachBytes ∧ x.2.size ≤ reachBytes
mutual
/-- No string is longer than memory. -/
def okI : InT → Prop
  | .mk _ t d ti a ar c kids => (t.size ≤ reachBytes ∧ d.size ≤ reachBytes ∧ ti.size ≤ reachBytes) ∧ OkA a ∧ (∀ s ∈ ar, s.size ≤ reachBytes) ∧ (∀ x ∈ c, x.key.size ≤ reachBytes ∧ x.pre.size ≤ reachBytes ∧ x.suf.size ≤ reachBytes) ∧ okL kids
def okL : List InT → Prop
  | [] => True
  | x :: l => okI x ∧ okL l
end
theorem okL_of : ∀ (l : List InT), (∀ x ∈ l, okI x) → okL l
  | [], _ => by rw [okL]; trivial
  | x :: l, h => by rw [okL]; exact ⟨h x (by simp), okL_of l fun y hy => h y (List.mem_cons_of_mem _ hy)⟩
theorem okL_mem : ∀ (l : List InT), okL l → ∀ x ∈ l, okI x
  | x :: l, h, y, hy => by
    rw [okL] at h
    rcases List.mem_cons.1 hy with rfl | hy
    · exact h.1
    · exact okL_mem l h.2 y hy
theorem len2 {α : Type} {cs : List α} (h : cs.length = 2) : ∃ a0 a1, cs = [a0, a1] := by
  obtain ⟨a0, cs, rfl⟩ := List.exists_cons_of_length_eq_add_one h
  have h := Nat.succ.inj h
  obtain ⟨a1, cs, rfl⟩ := List.exists_cons_of_length_eq_add_one h
  have h := Nat.succ.inj h
  obtain rfl := List.eq_nil_of_length_eq_zero h
  exact ⟨_, _, rfl⟩
theorem len3 {α : Type} {cs : List α} (h : cs.length = 3) : ∃ a0 a1 a2, cs = [a0, a1, a2] := by
  obtain ⟨a0, cs, rfl⟩ := List.exists_cons_of_length_eq_add_one h
  have h := Nat.succ.inj h
  obtain ⟨a1, cs, rfl⟩ := List.exists_cons_of_length_eq_add_one h
  have h := Nat.succ.inj h
  obtain ⟨a2, cs, rfl⟩ := List.exists_cons_of_length_eq_add_one h
  have h := Nat.succ.inj h
  obtain rfl := List.eq_nil_of_length_eq_zero h
  exact ⟨_, _, _, rfl⟩
theorem len4 {α : Type} {cs : List α} (h : cs.length = 4) : ∃ a0 a1 a2 a3, cs = [a0, a1, a2, a3] := by
  obtain ⟨a0, cs, rfl⟩ := List.exists_cons_of_length_eq_add_one h
  have h := Nat.succ.inj h
  obtain ⟨a1, cs, rfl⟩ := List.exists_cons_of_length_eq_add_one h
  have h := Nat.succ.inj h
  obtain ⟨a2, cs, rfl⟩ := List.exists_cons_of_length_eq_add_one h
  have h := Nat.succ.inj h
  obtain ⟨a3, cs, rfl⟩ := List.exists_cons_of_length_eq_add_one h
  have h := Nat.succ.inj h
  obtain rfl := List.eq_nil_of_length_eq_zero h
  exact ⟨_, _, _, _, rfl⟩
theorem len10 {α : Type} {cs : List α} (h : cs.length = 10) : ∃ a0 a1 a2 a3 a4 a5 a6 a7 a8 a9, cs = [a0, a1, a2, a3, a4, a5, a6, a7, a8, a9] := by
  obtain ⟨a0, cs, rfl⟩ := List.exists_cons_of_length_eq_add_one h
  have h := Nat.succ.inj h
  obtain ⟨a1, cs, rfl⟩ := List.exists_cons_of_length_eq_add_one h
  have h := Nat.succ.inj h
  obtain ⟨a2, cs, rfl⟩ := List.exists_cons_of_length_eq_add_one h
  have h := Nat.succ.inj h
  obtain ⟨a3, cs, rfl⟩ := List.exists_cons_of_length_eq_add_one h
  have h := Nat.succ.inj h
  obtain ⟨a4, cs, rfl⟩ := List.exists_cons_of_length_eq_add_one h
  have h := Nat.succ.inj h
  obtain ⟨a5, cs, rfl⟩ := List.exists_cons_of_length_eq_add_one h
  have h := Nat.succ.inj h
  obtain ⟨a6, cs, rfl⟩ := List.exists_cons_of_length_eq_add_one h
  have h := Nat.succ.inj h
  obtain ⟨a7, cs, rfl⟩ := List.exists_cons_of_length_eq_add_one h
  have h := Nat.succ.inj h
  obtain ⟨a8, cs, rfl⟩ := List.exists_cons_of_length_eq_add_one h
  have h := Nat.succ.inj h
  obtain ⟨a9, cs, rfl⟩ := List.exists_cons_of_length_eq_add_one h
  have h := Nat.succ.inj h
  obtain rfl := List.eq_nil_of_length_eq_zero h
  exact ⟨_, _, _, _, _, _, _, _, _, _, rfl⟩
theorem len18 {α : Type} {cs : List α} (h : cs.length = 18) : ∃ a0 a1 a2 a3 a4 a5 a6 a7 a8 a9 a10 a11 a12 a13 a14 a15 a16 a17, cs = [a0, a1, a2, a3, a4, a5, a6, a7, a8, a9, a10, a11, a12, a13, a14, a15, a16, a17] := by
  obtain ⟨a0, cs, rfl⟩ := List.exists_cons_of_length_eq_add_one h
  have h := Nat.succ.inj h
  obtain ⟨a1, cs, rfl⟩ := List.exists_cons_of_length_eq_add_one h
  have h := Nat.succ.inj h
  obtain ⟨a2, cs, rfl⟩ := List.exists_cons_of_length_eq_add_one h
  have h := Nat.succ.inj h
  obtain ⟨a3, cs, rfl⟩ := List.exists_cons_of_length_eq_add_one h
  have h := Nat.succ.inj h
  obtain ⟨a4, cs, rfl⟩ := List.exists_cons_of_length_eq_add_one h
  have h := Nat.succ.inj h
  obtain ⟨a5, cs, rfl⟩ := List.exists_cons_of_length_eq_add_one h
  have h := Nat.succ.inj h
  obtain ⟨a6, cs, rfl⟩ := List.exists_cons_of_length_eq_add_one h
  have h := Nat.succ.inj h
  obtain ⟨a7, cs, rfl⟩ := List.exists_cons_of_length_eq_add_one h
  have h := Nat.succ.inj h
  obtain ⟨a8, cs, rfl⟩ := List.exists_cons_of_length_eq_add_one h
  have h := Nat.succ.inj h
  obtain ⟨a9, cs, rfl⟩ := List.exists_cons_of_length_eq_add_one h
  have h := Nat.succ.inj h
  obtain ⟨a10, cs, rfl⟩ := List.exists_cons_of_length_eq_add_one h
  have h := Nat.succ.inj h
  obtain ⟨a11, cs, rfl⟩ := List.exists_cons_of_length_eq_add_one h
  have h := Nat.succ.inj h
  obtain ⟨a12, cs, rfl⟩ := List.exists_cons_of_length_eq_add_one h
  have h := Nat.succ.inj h
  obtain ⟨a13, cs, rfl⟩ := List.exists_cons_of_length_eq_add_one h
  have h := Nat.succ.inj h
  obtain ⟨a14, cs, rfl⟩ := List.exists_cons_of_length_eq_add_one h
  have h := Nat.succ.inj h
  obtain ⟨a15, cs, rfl⟩ := List.exists_cons_of_length_eq_add_one h
  have h := Nat.succ.inj h
  obtain ⟨a16, cs, rfl⟩ := List.exists_cons_of_length_eq_add_one h
  have h := Nat.succ.inj h
  obtain ⟨a17, cs, rfl⟩ := List.exists_cons_of_length_eq_add_one h
  have h := Nat.succ.inj h
  obtain rfl := List.eq_nil_of_length_eq_zero h
  exact ⟨_, _, _, _, _, _, _, _, _, _, _, _, _, _, _, _, _, _, rfl⟩
theorem list_of' {α : Type} (n : Nat) (P : Nat → α → Prop) (h : ∀ i, i < n → ∃ x, P i x) : ∃ l : List α, l.length = n ∧ ∀ i (hi : i < l.length), P i l[i] := by
  induction n with
  | zero => exact ⟨[], rfl, fun i hi => absurd hi (by simp)⟩
  | succ n ih =>
    obtain ⟨l, hl, hP⟩ := ih fun i hi => h i (by omega)
    obtain ⟨x, hx⟩ := h n (by omega)
    refine ⟨l ++ [x], by simp [hl], fun i hi => ?_⟩
    by_cases hlt : i < l.length
    · rw [List.getElem_append_left hlt]; exact hP i hlt
    · have : i = n := by simp at hi; omega
      subst this
      rw [List.getElem_append_right (by omega)]
      simp [hl]; exact hx
section
variable {H : Type} {enc : TypeId × Value → H} {P : Program} {w : World} {spare : Nat → Bool} {held : Bool} {α : Type}
/-- What is read is of no more bytes than memory holds. -/
def Wt (P : Program) (t : TypeId) (d : DataW H) : Prop := ∀ n ∈ d.weights P t, n ≤ reachBytes
theorem Wt.str {t : TypeId} {s : List UInt8} (h : Wt P t (.lit (.string s) : DataW H)) : s.length ≤ reachBytes := h _ (by simp [DataW.weights])
theorem Wt.agg {t : TypeId} {fs : Array Field} {ds : List (DataW H)} (ht : P.underlying t = some (.struct fs)) (h : Wt P t (.agg ds)) : ∀ n ∈ DataW.weightsEach P (fs.toList.map (·.type)) ds, n ≤ reachBytes := fun n hn => h n (by rw [DataW.weights, ht]; exact hn)
theorem weights_all {e : TypeId} {d : DataW H} : ∀ {l : List (DataW H)}, d ∈ l → ∀ n ∈ d.weights P e, n ∈ DataW.weightsAll P e l
  | x :: l, h, n, hn => by
    rw [DataW.weightsAll, List.mem_append]
    rcases List.mem_cons.1 h with rfl | h
    · exact .inl hn
    · exact .inr (weights_all h n hn)
theorem fld {n : Nat} {cs : List Value} {fs : Array Field} {xs : List (DataW H × List MemPlace)} {i : Nat} {f : Field} {t : TypeId} {o k : Nat} (hf : ∀ (i : Nat) (f : Field), fs[i]? = some f → DataW.trod enc P w 0 spare held n f.type ((cs.drop f.offset).take (P.cellsOf f.type)) = xs[i]?)
    (hw : ∀ n ∈ DataW.weightsEach P (fs.toList.map (·.type)) (xs.map (·.1)), n ≤ reachBytes) (hi : fs[i]? = some f) (hl : xs.length = fs.size) (ht : f.type = t) (ho : f.offset = o) (hk : P.cellsOf t = k) : ∃ y, DataW.trod enc P w 0 spare held n t ((cs.drop o).take k) = some y ∧ Wt P t y.1 := by
  have h := hf i f hi
  subst ht ho hk
  have hlt : i < xs.length := by rw [hl]; exact (Array.getElem?_eq_some_iff.1 hi).1
  refine ⟨xs[i], by rw [h, List.getElem?_eq_getElem hlt], fun m hm => hw m ?_⟩
  refine DataW.weights_mem_each (j := i) (t := f.type) (d := xs[i].1) ?_ ?_ m hm
  · rw [List.getElem?_map, Array.getElem?_toList, hi]; rfl
  · rw [List.getElem?_map, List.getElem?_eq_getElem hlt]; rfl
/-- A slice, its elements one by one. -/
theorem open_rows {t e : TypeId} {z fuel : Nat} {cs : List Value} {x : DataW H × List MemPlace} (ht : P.underlying t = some (.slice e)) (hz : P.cellsOf e = z) (h : DataW.trod enc P w 0 spare held fuel t cs = some x) (hw : Wt P t x.1) :
    cs = [.slice none 0 0] ∨ ∃ (ad : Addr) (len cap n : Nat), fuel = n + 1 ∧ cs = [.slice (some ad) len cap] ∧ len ≤ cap ∧ cap ≤ maxLen ∧ ∀ i, i < len → ∃ (cs' : List Value) (y : DataW H × List MemPlace), cs'.length = z ∧ (∀ j, j < z → w.cell? (ad.add (i * z + j)) = cs'[j]?) ∧ DataW.trod enc P w 0 spare held n e cs' = some y ∧ Wt P e y.1 := by
  rcases DataW.trod_slice ht h with ⟨h0, -⟩ | ⟨a, len, cap, elems, rest, n, e1, e2, rfl, -, hl, hm, hlen, hel, -, -⟩
  · exact .inl h0
  · refine .inr ⟨a, len, cap, n, e1, e2, hl, hm, fun i hi => ?_⟩
    have h1 := hel i hi
    rw [List.getElem?_eq_getElem (by omega)] at h1
    obtain ⟨cs', hc, ht'⟩ := Option.bind_eq_some_iff.1 h1
    rw [hz] at hc
    obtain ⟨-, hcl, hat⟩ := World.cells?_some hc
    refine ⟨cs', _, hcl, fun j hj => by rw [← hat j hj, Go.Deep.add_add], ht', fun m hm' => hw m ?_⟩
    rw [DataW.weights, ht]
    exact List.mem_cons_of_mem _ (List.mem_append_left _ (weights_all (d := elems[i].1) (List.mem_map_of_mem (List.getElem_mem (by omega))) m hm'))
/-- The elements of a slice, read. -/
theorem open_elems {t e : TypeId} {z fuel : Nat} {cs : List Value} {x : DataW H × List MemPlace} (g : α → List Value) (Ok : α → Prop) (ht : P.underlying t = some (.slice e)) (hz : P.cellsOf e = z) (hz0 : 0 < z) (h : DataW.trod enc P w 0 spare held fuel t cs = some x) (hw : Wt P t x.1)
    (hg : ∀ n cs y, n < fuel → DataW.trod enc P w 0 spare held n e cs = some y → Wt P e y.1 → cs.length = z → ∃ a : α, cs = g a ∧ Ok a) :
    ∃ (l : List α) (A : Option Addr) (c : Nat), cs = [.slice A l.length c] ∧ ReadsS w (fun b => b < w.heap.size) z A l.length (l.flatMap g) ∧ (∀ a ∈ l, Ok a) ∧ l.length ≤ c ∧ c ≤ maxLen := by
  rcases open_rows ht hz h hw with h0 | ⟨ad, len, cap, n, e1, e2, hl, hm, hi⟩
  · exact ⟨[], none, 0, h0, ReadsS.none_, fun a ha => absurd ha (by simp), Nat.le_refl _, Nat.zero_le _⟩
  · obtain ⟨l, hll, hP⟩ := list_of' len (fun i (a : α) => (∀ j, j < z → w.cell? (ad.add (i * z + j)) = (g a)[j]?) ∧ (g a).length = z ∧ Ok a) fun i hi' => by
      obtain ⟨cs', y, h1, h2, h3, h4⟩ := hi i hi'
      obtain ⟨a, rfl, ha⟩ := hg n cs' y (by omega) h3 h4 h1
      exact ⟨a, h2, h1, ha⟩
    have hlen : ∀ a ∈ l, (g a).length = z := fun a ha => by
      obtain ⟨i, hi', rfl⟩ := List.mem_iff_getElem.1 ha
      exact (hP i hi').2.1
    have hfl : (l.flatMap g).length = l.length * z := by
      clear hP hll
      induction l with
      | nil => simp
      | cons a l ih =>
        rw [List.flatMap_cons, List.length_append, hlen a (by simp), ih fun b hb => hlen b (List.mem_cons_of_mem _ hb), List.length_cons, Nat.succ_mul]
        omega
    have hat : ∀ (l : List α), (∀ a ∈ l, (g a).length = z) → ∀ i (hi : i < l.length) j, j < z → (l.flatMap g)[i * z + j]? = (g l[i])[j]? := by
      intro l
      induction l with
      | nil => intro _ i hi; exact absurd hi (by simp)
      | cons a l ih =>
        intro hl i hi j hj
        have ha := hl a (by simp)
        cases i with
        | zero => rw [List.flatMap_cons, Nat.zero_mul, Nat.zero_add, List.getElem?_append_left (by omega)]; rfl
        | succ i =>
          have e : (i + 1) * z + j - z = i * z + j := by rw [Nat.succ_mul]; omega
          rw [List.flatMap_cons, List.getElem?_append_right (by rw [Nat.succ_mul]; omega), ha, e, ih (fun b hb => hl b (List.mem_cons_of_mem _ hb)) i (by simpa using hi) j hj]
          rfl
    refine ⟨l, some ad, cap, by rw [hll]; exact e2, ⟨⟨hfl, by omega⟩, fun h0 => ⟨ad, rfl, ?_, fun j u hu => ?_⟩⟩, fun a ha => ?_, by omega, hm⟩
    · obtain ⟨h1, h2, -⟩ := hP 0 h0
      have h3 := h1 0 hz0
      rw [List.getElem?_eq_getElem (by omega)] at h3
      have := World.block_lt_of_cell? w _ h3
      rwa [block_of_add] at this
    · have hj : j < l.length * z := by
        rcases Nat.lt_or_ge j (l.length * z) with h1 | h1
        · exact h1
        · rw [List.getElem?_eq_none (by omega)] at hu; cases hu
      have hq : j / z < l.length := Nat.div_lt_of_lt_mul (by rw [Nat.mul_comm]; exact hj)
      have hr := Nat.mod_lt j hz0
      have e : j / z * z + j % z = j := by rw [Nat.mul_comm]; exact Nat.div_add_mod j z
      rw [← e] at hu ⊢
      rw [hat l hlen _ hq _ hr] at hu
      rw [(hP _ hq).1 _ hr, hu]
    · obtain ⟨i, hi', rfl⟩ := List.mem_iff_getElem.1 ha
      exact (hP i hi').2.2
end
theorem flat_str (l : List ByteArray) : (l.flatMap fun s => [Value.string s]) = strs l := by
  unfold strs
  induction l with
  | nil => rfl
  | cons a l ih => rw [List.flatMap_cons, ih]; rfl
end Go.Pub
namespace Go.Proofs.Ytfnloonmeilhlaa
open Go.RowKit Go.Pub Go.ChangeShapes Go.WideShapes
theorem co_str : Try.prog.cellsOf 9 = 1 := by kernel_rfl
theorem co_int : Try.prog.cellsOf 3 = 1 := by kernel_rfl
theorem co_bool : Try.prog.cellsOf 4 = 1 := by kernel_rfl
theorem co_strs : Try.prog.cellsOf 31 = 1 := by kernel_rfl
theorem co_prs : Try.prog.cellsOf 32 = 1 := by kernel_rfl
theorem co_pr : Try.prog.cellsOf 71 = 2 := by kernel_rfl
theorem co_att : Try.prog.cellsOf 34 = 3 := by kernel_rfl
theorem co_cits : Try.prog.cellsOf 35 = 1 := by kernel_rfl
theorem co_cit : Try.prog.cellsOf 55 = 4 := by kernel_rfl
theorem co_ins : Try.prog.cellsOf 26 = 1 := by kernel_rfl
theorem co_in : Try.prog.cellsOf 37 = 10 := by kernel_rfl
theorem co_pcs : Try.prog.cellsOf 39 = 18 := by kernel_rfl
section
variable {H : Type} {enc : TypeId × Value → H} {w : World} {spare : Nat → Bool} {held : Bool} {n : Nat} {cs : List Value} {x : DataW H × List MemPlace}
theorem open_sstr (h : DataW.trod enc Try.prog w 0 spare held n 31 cs = some x) (hw : Wt Try.prog 31 x.1) : ∃ (l : List ByteArray) (A : Option Addr) (c : Nat), cs = [.slice A l.length c] ∧ ReadsS w (fun b : Nat => b < w.heap.size) 1 A l.length (strs l) ∧ (∀ s ∈ l, s.size ≤ reachBytes) := by
  obtain ⟨l, A, c, e, hr, ho, -, -⟩ := open_elems (fun s : ByteArray => [Value.string s]) (fun s => s.size ≤ reachBytes) Try.underlying31 co_str (by decide) h hw fun n cs y _ hy hyw _ => by
    obtain ⟨s, e, hx, -⟩ := DataW.trod_string Try.underlying9 hy
    have hs : s.size ≤ reachBytes := by rw [hx] at hyw; have := hyw.str; rwa [Array.length_toList] at this
    exact ⟨s, e, hs⟩
  rw [flat_str] at hr
  exact ⟨l, A, c, e, hr, ho⟩
theorem open_sprs (h : DataW.trod enc Try.prog w 0 spare held n 32 cs = some x) (hw : Wt Try.prog 32 x.1) : ∃ (l : List (ByteArray × ByteArray)) (A : Option Addr) (c : Nat), cs = [.slice A l.length c] ∧ ReadsS w (fun b : Nat => b < w.heap.size) 2 A l.length (prs l) ∧ (∀ s ∈ l, s.1.size ≤ reachBytes ∧ s.2.size ≤ reachBytes) := by
  obtain ⟨l, A, c, e, hr, ho, -, -⟩ := open_elems (fun s : ByteArray × ByteArray => [Value.string s.1, Value.string s.2]) (fun s => s.1.size ≤ reachBytes ∧ s.2.size ≤ reachBytes) Try.underlying32 co_pr (by decide) h hw fun n cs y _ hy hyw hl => by
    obtain ⟨xs, m, -, hxe, -, hxl, hf⟩ := DataW.trod_struct Try.underlying71 hy
    rw [hxe] at hyw
    have hwe := Wt.agg Try.underlying71 hyw
    obtain ⟨a0, a1, rfl⟩ := len2 hl
    obtain ⟨y0, h0, w0⟩ := fld hf (i := 0) (t := 9) (o := 0) hwe rfl hxl rfl rfl co_str
    obtain ⟨y1, h1, w1⟩ := fld hf (i := 1) (t := 9) (o := 1) hwe rfl hxl rfl rfl co_str
    obtain ⟨s0, e0, hx0, -⟩ := DataW.trod_string Try.underlying9 h0
    have l0 : s0.size ≤ reachBytes := by rw [hx0] at w0; have := w0.str; rwa [Array.length_toList] at this
    obtain ⟨s1, e1, hx1, -⟩ := DataW.trod_string Try.underlying9 h1
    have l1 : s1.size ≤ reachBytes := by rw [hx1] at w1; have := w1.str; rwa [Array.length_toList] at this
    have q0 : [a0] = [.string s0] := e0
    have q1 : [a1] = [.string s1] := e1
    injection q0 with q0; injection q1 with q1; subst q0 q1
    exact ⟨(s0, s1), rfl, l0, l1⟩
  exact ⟨l, A, c, e, hr, ho⟩
theorem open_scit (h : DataW.trod enc Try.prog w 0 spare held n 35 cs = some x) (hw : Wt Try.prog 35 x.1) : ∃ (l : List CitL) (A : Option Addr) (c : Nat), cs = [.slice A l.length c] ∧ ReadsS w (fun b : Nat => b < w.heap.size) 4 A l.length (citVT l) ∧ (∀ s ∈ l, s.key.size ≤ reachBytes ∧ s.pre.size ≤ reachBytes ∧ s.suf.size ≤ reachBytes) := by
  obtain ⟨l, A, c, e, hr, ho, -, -⟩ := open_elems (fun s : CitL => [Value.string s.key, Value.string s.pre, Value.string s.suf, Value.bool s.bare]) (fun s => s.key.size ≤ reachBytes ∧ s.pre.size ≤ reachBytes ∧ s.suf.size ≤ reachBytes) Try.underlying35 co_cit (by decide) h hw fun n cs y _ hy hyw hl => by
    obtain ⟨xs, m, -, hxe, -, hxl, hf⟩ := DataW.trod_struct Try.underlying55 hy
    rw [hxe] at hyw
    have hwe := Wt.agg Try.underlying55 hyw
    obtain ⟨a0, a1, a2, a3, rfl⟩ := len4 hl
    obtain ⟨y0, h0, w0⟩ := fld hf (i := 0) (t := 9) (o := 0) hwe rfl hxl rfl rfl co_str
    obtain ⟨y1, h1, w1⟩ := fld hf (i := 1) (t := 9) (o := 1) hwe rfl hxl rfl rfl co_str
    obtain ⟨y2, h2, w2⟩ := fld hf (i := 2) (t := 9) (o := 2) hwe rfl hxl rfl rfl co_str
    obtain ⟨y3, h3, w3⟩ := fld hf (i := 3) (t := 4) (o := 3) hwe rfl hxl rfl rfl co_bool
    obtain ⟨s0, e0, hx0, -⟩ := DataW.trod_string Try.underlying9 h0
    have l0 : s0.size ≤ reachBytes := by rw [hx0] at w0; have := w0.str; rwa [Array.length_toList] at this
    obtain ⟨s1, e1, hx1, -⟩ := DataW.trod_string Try.underlying9 h1
    have l1 : s1.size ≤ reachBytes := by rw [hx1] at w1; have := w1.str; rwa [Array.length_toList] at this
    obtain ⟨s2, e2, hx2, -⟩ := DataW.trod_string Try.underlying9 h2
    have l2 : s2.size ≤ reachBytes := by rw [hx2] at w2; have := w2.str; rwa [Array.length_toList] at this
    obtain ⟨b3, e3, -⟩ := DataW.trod_bool Try.underlying4 h3
    have q0 : [a0] = [.string s0] := e0
    have q1 : [a1] = [.string s1] := e1
    have q2 : [a2] = [.string s2] := e2
    have q3 : [a3] = [.bool b3] := e3
    injection q0 with q0; injection q1 with q1; injection q2 with q2; injection q3 with q3; subst q0 q1 q2 q3
    exact ⟨⟨s0, s1, s2, b3⟩, rfl, l0, l1, l2⟩
  exact ⟨l, A, c, e, hr, ho⟩
theorem open_att (h : DataW.trod enc Try.prog w 0 spare held n 34 cs = some x) (hw : Wt Try.prog 34 x.1) : ∃ (a : AttrL) (A1 A2 : Option Addr) (c1 c2 : Nat), cs = [.string a.id, .slice A1 a.cl.length c1, .slice A2 a.pr.length c2] ∧ ReadsS w (fun b : Nat => b < w.heap.size) 1 A1 a.cl.length (strs a.cl) ∧ ReadsS w (fun b : Nat => b < w.heap.size) 2 A2 a.pr.length (prs a.pr) ∧ OkA a := by
  obtain ⟨xs, m, -, hxe, hl, hxl, hf⟩ := DataW.trod_struct Try.underlying34 h
  rw [hxe] at hw
  have hwe := Wt.agg Try.underlying34 hw
  rw [co_att] at hl
  obtain ⟨a0, a1, a2, rfl⟩ := len3 hl
  obtain ⟨y0, h0, w0⟩ := fld hf (i := 0) (t := 9) (o := 0) hwe rfl hxl rfl rfl co_str
  obtain ⟨y1, h1, w1⟩ := fld hf (i := 1) (t := 31) (o := 1) hwe rfl hxl rfl rfl co_strs
  obtain ⟨y2, h2, w2⟩ := fld hf (i := 2) (t := 32) (o := 2) hwe rfl hxl rfl rfl co_prs
  obtain ⟨s0, e0, hx0, -⟩ := DataW.trod_string Try.underlying9 h0
  have l0 : s0.size ≤ reachBytes := by rw [hx0] at w0; have := w0.str; rwa [Array.length_toList] at this
  obtain ⟨cl, A1, c1, e1, r1, o1⟩ := open_sstr h1 w1
  obtain ⟨pr, A2, c2, e2, r2, o2⟩ := open_sprs h2 w2
  have q0 : [a0] = [.string s0] := e0
  have q1 : [a1] = [.slice A1 cl.length c1] := e1
  have q2 : [a2] = [.slice A2 pr.length c2] := e2
  injection q0 with q0; injection q1 with q1; injection q2 with q2; subst q0 q1 q2
  exact ⟨⟨s0, cl, pr⟩, A1, A2, c1, c2, rfl, r1, r2, l0, o1, o2⟩
set_option maxHeartbeats 2000000 in
/-- An inline, to any depth. -/
theorem open_in : ∀ (n : Nat) (cs : List Value) (x : DataW H × List MemPlace), DataW.trod enc Try.prog w 0 spare held n 37 cs = some x → Wt Try.prog 37 x.1 → ∃ (t : InT) (v : Array Value), cs = v.toList ∧ RepI w (fun b : Nat => b < w.heap.size) v t ∧ okI t := fun n => by
  induction n using Nat.strongRecOn with
  | ind n ih =>
  intro cs x h hw
  obtain ⟨xs, m, hm, hxe, hl, hxl, hf⟩ := DataW.trod_struct Try.underlying37 h
  rw [hxe] at hw
  have hwe := Wt.agg Try.underlying37 hw
  rw [co_in] at hl
  obtain ⟨a0, a1, a2, a3, a4, a5, a6, a7, a8, a9, rfl⟩ := len10 hl
  obtain ⟨y0, h0, w0⟩ := fld hf (i := 0) (t := 3) (o := 0) hwe rfl hxl rfl rfl co_int
  obtain ⟨y1, h1, w1⟩ := fld hf (i := 1) (t := 9) (o := 1) hwe rfl hxl rfl rfl co_str
  obtain ⟨y2, h2, w2⟩ := fld hf (i := 2) (t := 9) (o := 2) hwe rfl hxl rfl rfl co_str
  obtain ⟨y3, h3, w3⟩ := fld hf (i := 3) (t := 9) (o := 3) hwe rfl hxl rfl rfl co_str
  obtain ⟨y4, h4, w4⟩ := fld hf (i := 4) (t := 34) (o := 4) hwe rfl hxl rfl rfl co_att
  obtain ⟨y5, h5, w5⟩ := fld hf (i := 5) (t := 31) (o := 7) hwe rfl hxl rfl rfl co_strs
  obtain ⟨y6, h6, w6⟩ := fld hf (i := 6) (t := 35) (o := 8) hwe rfl hxl rfl rfl co_cits
  obtain ⟨y7, h7, w7⟩ := fld hf (i := 7) (t := 26) (o := 9) hwe rfl hxl rfl rfl co_ins
  obtain ⟨k0, e0, -, -⟩ := DataW.trod_int Try.underlying3 h0
  obtain ⟨s1, e1, hx1, -⟩ := DataW.trod_string Try.underlying9 h1
  have l1 : s1.size ≤ reachBytes := by rw [hx1] at w1; have := w1.str; rwa [Array.length_toList] at this
  obtain ⟨s2, e2, hx2, -⟩ := DataW.trod_string Try.underlying9 h2
  have l2 : s2.size ≤ reachBytes := by rw [hx2] at w2; have := w2.str; rwa [Array.length_toList] at this
  obtain ⟨s3, e3, hx3, -⟩ := DataW.trod_string Try.underlying9 h3
  have l3 : s3.size ≤ reachBytes := by rw [hx3] at w3; have := w3.str; rwa [Array.length_toList] at this
  obtain ⟨att, A1, A2, c1, c2, e4, r4, r4', o4⟩ := open_att h4 w4
  obtain ⟨ar, A3, c3, e5, r5, o5⟩ := open_sstr h5 w5
  obtain ⟨ci, A4, c4, e6, r6, o6⟩ := open_scit h6 w6
  obtain ⟨kv, A5, c5, e7, r7, o7, -, -⟩ := open_elems (fun p : Array Value × InT => p.1.toList) (fun p => RepI w (fun b : Nat => b < w.heap.size) p.1 p.2 ∧ okI p.2) Try.underlying26 co_in (by decide) h7 w7 fun n' cs' y hn' hy hyw _ => by
    obtain ⟨t, v, e, hv, ho⟩ := ih n' (by omega) cs' y hy hyw
    exact ⟨(v, t), e, hv, ho⟩
  have q0 : [a0] = [.int .i64 k0] := e0
  have q1 : [a1] = [.string s1] := e1
  have q2 : [a2] = [.string s2] := e2
  have q3 : [a3] = [.string s3] := e3
  have q4 : [a4, a5, a6] = [.string att.id, .slice A1 att.cl.length c1, .slice A2 att.pr.length c2] := e4
  have q5 : [a7] = [.slice A3 ar.length c3] := e5
  have q6 : [a8] = [.slice A4 ci.length c4] := e6
  have q7 : [a9] = [.slice A5 kv.length c5] := e7
  injection q0 with q0; injection q1 with q1; injection q2 with q2; injection q3 with q3
  injection q4 with q4 q4'; injection q4' with q4' q4''; injection q4'' with q4''
  injection q5 with q5; injection q6 with q6; injection q7 with q7
  subst q0 q1 q2 q3 q4 q4' q4'' q5 q6 q7
  have hrep : ∀ (l : List (Array Value × InT)), (∀ p ∈ l, RepI w (fun b : Nat => b < w.heap.size) p.1 p.2 ∧ okI p.2) → RepIs w (fun b : Nat => b < w.heap.size) (l.map (·.1)) (l.map (·.2)) := by
    intro l
    induction l with
    | nil => intro _; exact .nil
    | cons p l ihl => intro hp; exact .cons _ _ _ _ (hp p (by simp)).1 (ihl fun q hq => hp q (List.mem_cons_of_mem _ hq))
  have hkl : (kv.map (·.2)).length = kv.length := List.length_map _
  have hfl : kv.flatMap (fun p => p.1.toList) = (kv.map (·.1)).flatMap Array.toList := by rw [List.flatMap_map]
  rw [hfl, ← hkl] at r7
  refine ⟨.mk k0 s1 s2 s3 att ar ci (kv.map (·.2)), #[.int .i64 k0, .string s1, .string s2, .string s3, .string att.id, .slice A1 att.cl.length c1, .slice A2 att.pr.length c2, .slice A3 ar.length c3, .slice A4 ci.length c4, .slice A5 (kv.map (·.2)).length c5], by rw [hkl], .mk _ _ _ _ _ _ _ _ _ _ _ _ _ _ _ _ _ _ _ r4 r4' r5 r6 (hrep kv o7) r7, ?_⟩
  rw [okI]
  exact ⟨⟨l1, l2, l3⟩, o4, o5, o6, okL_of _ fun t ht => by
    obtain ⟨p, hp, rfl⟩ := List.mem_map.1 ht
    exact (o7 p hp).2⟩

theorem pcW_list {v : Array Value} {p : PcT} {l : List Value} (h : l = v.toList) : .int .i64 p.kind :: (l ++ [.string p.ch, .int .i64 p.n, .bool p.opn, .bool p.clo, .bool p.img, .int .i64 p.bg, .int .i64 p.nd]) = (pcW v p).toList := by
  unfold pcW
  rw [Array.toList_append, Array.toList_append, ← h]
  rfl
theorem RepPc.of {w : World} {S : Nat → Prop} {v : Array Value} {p : PcT} (h : RepI w S v p.inl) : RepPc w S (pcW v p) p := ⟨v, h, rfl⟩
/-- What holds of a piece that comes as an argument. -/
def OkP (p : PcT) : Prop := okI p.inl ∧ p.ch.size ≤ reachBytes ∧ -9223372036854775808 ≤ p.n ∧ p.n ≤ 9223372036854775807
set_option maxHeartbeats 2000000 in
theorem open_pc (h : DataW.trod enc Try.prog w 0 spare held n 39 cs = some x) (hw : Wt Try.prog 39 x.1) (hl : cs.length = 18) : ∃ (p : PcT) (v : Array Value), cs = v.toList ∧ RepPc w (fun b : Nat => b < w.heap.size) v p ∧ OkP p := by
  obtain ⟨xs, m, -, hxe, -, hxl, hf⟩ := DataW.trod_struct Try.underlying39 h
  rw [hxe] at hw
  have hwe := Wt.agg Try.underlying39 hw
  obtain ⟨a0, a1, a2, a3, a4, a5, a6, a7, a8, a9, a10, a11, a12, a13, a14, a15, a16, a17, rfl⟩ := len18 hl
  obtain ⟨y0, h0, w0⟩ := fld hf (i := 0) (t := 3) (o := 0) hwe rfl hxl rfl rfl co_int
  obtain ⟨y1, h1, w1⟩ := fld hf (i := 1) (t := 37) (o := 1) hwe rfl hxl rfl rfl co_in
  obtain ⟨y2, h2, w2⟩ := fld hf (i := 2) (t := 9) (o := 11) hwe rfl hxl rfl rfl co_str
  obtain ⟨y3, h3, w3⟩ := fld hf (i := 3) (t := 3) (o := 12) hwe rfl hxl rfl rfl co_int
  obtain ⟨y4, h4, w4⟩ := fld hf (i := 4) (t := 4) (o := 13) hwe rfl hxl rfl rfl co_bool
  obtain ⟨y5, h5, w5⟩ := fld hf (i := 5) (t := 4) (o := 14) hwe rfl hxl rfl rfl co_bool
  obtain ⟨y6, h6, w6⟩ := fld hf (i := 6) (t := 4) (o := 15) hwe rfl hxl rfl rfl co_bool
  obtain ⟨y7, h7, w7⟩ := fld hf (i := 7) (t := 3) (o := 16) hwe rfl hxl rfl rfl co_int
  obtain ⟨y8, h8, w8⟩ := fld hf (i := 8) (t := 3) (o := 17) hwe rfl hxl rfl rfl co_int
  obtain ⟨k0, e0, -, -⟩ := DataW.trod_int Try.underlying3 h0
  obtain ⟨t, v, e1, hv, ho⟩ := open_in _ _ _ h1 w1
  obtain ⟨s2, e2, hx2, -⟩ := DataW.trod_string Try.underlying9 h2
  have l2 : s2.size ≤ reachBytes := by rw [hx2] at w2; have := w2.str; rwa [Array.length_toList] at this
  obtain ⟨k3, e3, -, wf3⟩ := DataW.trod_int Try.underlying3 h3
  obtain ⟨b4, e4, -⟩ := DataW.trod_bool Try.underlying4 h4
  obtain ⟨b5, e5, -⟩ := DataW.trod_bool Try.underlying4 h5
  obtain ⟨b6, e6, -⟩ := DataW.trod_bool Try.underlying4 h6
  obtain ⟨k7, e7, -, -⟩ := DataW.trod_int Try.underlying3 h7
  obtain ⟨k8, e8, -, -⟩ := DataW.trod_int Try.underlying3 h8
  have q0 : [a0] = [.int .i64 k0] := e0
  have q1 : [a1, a2, a3, a4, a5, a6, a7, a8, a9, a10] = v.toList := e1
  have q2 : [a11] = [.string s2] := e2
  have q3 : [a12] = [.int .i64 k3] := e3
  have q4 : [a13] = [.bool b4] := e4
  have q5 : [a14] = [.bool b5] := e5
  have q6 : [a15] = [.bool b6] := e6
  have q7 : [a16] = [.int .i64 k7] := e7
  have q8 : [a17] = [.int .i64 k8] := e8
  injection q0 with q0; injection q2 with q2; injection q3 with q3; injection q4 with q4; injection q5 with q5; injection q6 with q6; injection q7 with q7; injection q8 with q8
  subst q0 q2 q3 q4 q5 q6 q7 q8
  obtain ⟨b1, b2⟩ := bounds_i64 wf3
  have hrp : RepPc w (fun b : Nat => b < w.heap.size) (pcW v ⟨k0, t, s2, k3, b4, b5, b6, k7, k8⟩) ⟨k0, t, s2, k3, b4, b5, b6, k7, k8⟩ := RepPc.of hv
  have hcl := pcW_list (p := ⟨k0, t, s2, k3, b4, b5, b6, k7, k8⟩) q1
  clear hf h0 h1 h2 h3 h4 h5 h6 h7 h8 hv h hw hwe w0 w1 w2 w3 w4 w5 w6 w7 w8 hxe
  generalize hP : (⟨k0, t, s2, k3, b4, b5, b6, k7, k8⟩ : PcT) = P0 at *
  have g1 : P0.inl = t := by rw [← hP]
  have g2 : P0.ch = s2 := by rw [← hP]
  have g3 : P0.n = k3 := by rw [← hP]
  refine ⟨P0, pcW v P0, ?_, hrp, by show okI P0.inl; rw [g1]; exact ho, by show P0.ch.size ≤ _; rw [g2]; exact l2, by show _ ≤ P0.n; rw [g3]; exact b1, by show P0.n ≤ _; rw [g3]; exact b2⟩
  show _ = (pcW v P0).toList
  rw [← hcl, ← hP]
  rfl

/-- What holds of pieces that come as an argument. -/
def OkPs (ps : List PcT) : Prop := ps.length ≤ maxLen ∧ ∀ p ∈ ps, OkP p
set_option maxHeartbeats 2000000 in
theorem open_pcs (h : DataW.trod enc Try.prog w 0 spare held n 22 cs = some x) (hw : Wt Try.prog 22 x.1) : ∃ (ps : List PcT) (A : Option Addr) (c : Nat), cs = [.slice A ps.length c] ∧ PcsR w (fun b : Nat => b < w.heap.size) (.slice A ps.length c) ps ∧ OkPs ps := by
  obtain ⟨kv, A, c, e, r, o, -, -⟩ := open_elems (fun p : Array Value × PcT => p.1.toList) (fun p => RepPc w (fun b : Nat => b < w.heap.size) p.1 p.2 ∧ OkP p.2) Try.underlying22 co_pcs (by decide) h hw fun n cs y _ hy hyw hl => by
    obtain ⟨p, v, e, h1, h2⟩ := open_pc hy hyw hl
    exact ⟨(v, p), e, h1, h2⟩
  have hkl : (kv.map (·.2)).length = kv.length := List.length_map _
  have hfl : kv.flatMap (fun p => p.1.toList) = (kv.map (·.1)).flatMap Array.toList := by rw [List.flatMap_map]
  rw [hfl, ← hkl] at r
  have hP : PcsR w (fun b : Nat => b < w.heap.size) (.slice A (kv.map (·.2)).length c) (kv.map (·.2)) := by
    refine ⟨A, c, kv.map (·.1), rfl, by rw [List.length_map, List.length_map], fun i hi => ?_, r⟩
    have hi' : i < kv.length := by rwa [hkl] at hi
    have e1 : (kv.map (·.1)).getD i #[] = kv[i].1 := by rw [List.getD_eq_getElem?_getD, List.getElem?_map, List.getElem?_eq_getElem hi']; rfl
    have e2 : pcX (kv.map (·.2)) i = kv[i].2 := by unfold pcX; rw [List.getD_eq_getElem?_getD, List.getElem?_map, List.getElem?_eq_getElem hi']; rfl
    rw [e1, e2]
    exact (o kv[i] (List.getElem_mem hi')).1
  have hO : OkPs (kv.map (·.2)) := by
    refine ⟨r.1.2, fun p hp => ?_⟩
    obtain ⟨q, hq, rfl⟩ := List.mem_map.1 hp
    exact (o q hq).2
  exact ⟨kv.map (·.2), A, c, by rw [hkl]; exact e, hP, hO⟩

end
end Go.Proofs.Ytfnloonmeilhlaa
namespace Go.Pub
open Go.RowKit
def sumS : List ByteArray → Nat
  | [] => 0
  | s :: l => s.size + sumS l
def sumP : List (ByteArray × ByteArray) → Nat
  | [] => 0
  | s :: l => s.1.size + s.2.size + sumP l
def longA (a : AttrL) : Bool := decide (40 < a.cl.length) || (decide (40 < a.pr.length) || decide (600 < a.id.size + sumS a.cl + sumP a.pr))
def argsW : List ByteArray → Nat
  | [] => 0
  | s :: l => s.size / 40 + argsW l
def citsW : List CitL → Nat
  | [] => 0
  | x :: l => (x.key.size + x.pre.size + x.suf.size) / 40 + citsW l
def badI : InT → Bool
  | .mk _ t d ti a ar c _ => decide (300 < t.size + d.size + ti.size) || (longA a || (decide (9 < ar.length) || decide (9 < c.length)))
def ownW : InT → Nat
  | .mk _ _ _ _ _ ar c _ => argsW ar + citsW c
/-- The weight of a list, given that of its kids. -/
def wgtL (g : List InT → Nat) : Nat → List InT → Nat
  | n, [] => n
  | n, x :: l => if 1000 ≤ n then n else if badI x = true then 1000 else wgtL g (n + ownW x + g x.kids) l
def wgtF : Nat → List InT → Nat
  | 0, _ => 1000
  | f + 1, l => if 200 < l.length then 1000 else wgtL (wgtF f) l.length l
def fewP (ps : List PcT) : Bool := decide (ps.length ≤ 40) && (ps.all (fun p => decide (p.ch.size ≤ 9) && decide (p.n ≤ 40)) && decide (1 + wgtF 21 (ps.map (·.inl)) ≤ 120))
theorem sumS_le : ∀ (l : List ByteArray) (B : Nat), (∀ s ∈ l, s.size ≤ B) → sumS l ≤ l.length * B
  | [], _, _ => Nat.zero_le _
  | s :: l, B, h => by
    have h1 := sumS_le l B fun x hx => h x (List.mem_cons_of_mem _ hx)
    have h2 := h s (by simp)
    rw [List.length_cons, Nat.succ_mul]
    show s.size + sumS l ≤ _
    omega
theorem sumP_le : ∀ (l : List (ByteArray × ByteArray)) (B : Nat), (∀ s ∈ l, s.1.size ≤ B ∧ s.2.size ≤ B) → sumP l ≤ l.length * (2 * B)
  | [], _, _ => Nat.zero_le _
  | s :: l, B, h => by
    have h1 := sumP_le l B fun x hx => h x (List.mem_cons_of_mem _ hx)
    have h2 := h s (by simp)
    rw [List.length_cons, Nat.succ_mul]
    show s.1.size + s.2.size + sumP l ≤ _
    omega
theorem argsW_le : ∀ (l : List ByteArray) (B : Nat), (∀ s ∈ l, s.size ≤ B) → argsW l ≤ l.length * B
  | [], _, _ => Nat.zero_le _
  | s :: l, B, h => by
    have h1 := argsW_le l B fun x hx => h x (List.mem_cons_of_mem _ hx)
    have h2 := h s (by simp)
    rw [List.length_cons, Nat.succ_mul]
    show s.size / 40 + argsW l ≤ _
    omega
theorem citsW_le : ∀ (l : List CitL) (B : Nat), (∀ s ∈ l, s.key.size ≤ B ∧ s.pre.size ≤ B ∧ s.suf.size ≤ B) → citsW l ≤ l.length * (3 * B)
  | [], _, _ => Nat.zero_le _
  | s :: l, B, h => by
    have h1 := citsW_le l B fun x hx => h x (List.mem_cons_of_mem _ hx)
    have h2 := h s (by simp)
    rw [List.length_cons, Nat.succ_mul]
    show (s.key.size + s.pre.size + s.suf.size) / 40 + citsW l ≤ _
    omega
/-- What a step of the weight adds is no more than memory holds. -/
theorem ownW_le {x : InT} (h : okI x) (hb : badI x = false) : ownW x ≤ 36 * 140737488355328 := by
  obtain ⟨k, t, d, ti, a, ar, c, ks⟩ := x
  rw [okI] at h
  obtain ⟨-, -, h1, h2, -⟩ := h
  unfold badI at hb
  simp only [Bool.or_eq_false_iff, decide_eq_false_iff_not, Nat.not_lt] at hb
  obtain ⟨-, -, h3, h4⟩ := hb
  have h5 := argsW_le ar reachBytes h1
  have h6 := citsW_le c reachBytes h2
  show argsW ar + citsW c ≤ _
  have h7 : ar.length * reachBytes ≤ 9 * reachBytes := Nat.mul_le_mul_right _ h3
  have h8 : c.length * (3 * reachBytes) ≤ 9 * (3 * reachBytes) := Nat.mul_le_mul_right _ h4
  unfold reachBytes at *
  omega
theorem wgtL_le (g : List InT → Nat) (G : Nat) (hg : ∀ l, okL l → g l ≤ G) : ∀ (l : List InT) (n : Nat), okL l → n ≤ 1000 + 36 * 140737488355328 + G → wgtL g n l ≤ 1000 + 36 * 140737488355328 + G
  | [], n, _, hn => by unfold wgtL; exact hn
  | x :: l, n, h, hn => by
    rw [okL] at h
    unfold wgtL
    split
    · exact hn
    · split
      · omega
      · rename_i h1 h2
        refine wgtL_le g G hg l _ h.2 ?_
        have h3 := ownW_le h.1 (by simpa using h2)
        have h4 := hg x.kids (by
          obtain ⟨k, t, d, ti, a, ar, c, ks⟩ := x
          have := h.1
          rw [okI] at this
          exact this.2.2.2.2)
        omega
theorem wgtF_le : ∀ (f : Nat) (l : List InT), okL l → wgtF f l ≤ 1000 + f * (1000 + 36 * 140737488355328)
  | 0, l, _ => by unfold wgtF; omega
  | f + 1, l, h => by
    unfold wgtF
    split
    · omega
    · have := wgtL_le (wgtF f) _ (wgtF_le f) l l.length h (by omega)
      rw [Nat.succ_mul]
      omega
end Go.Pub
namespace Go.Pub
open Go.RowKit
theorem wgtL_sz (g : List InT → Nat) (hg : ∀ l, g l < 1000 → sizeL l ≤ 399 * g l) : ∀ (l : List InT) (n : Nat), wgtL g n l < 1000 → n ≤ wgtL g n l ∧ sizeL l ≤ 399 * (wgtL g n l - n) + 399 * l.length
  | [], n, _ => by unfold wgtL; exact ⟨Nat.le_refl _, by rw [sizeL]; omega⟩
  | x :: l, n, h => by
    unfold wgtL at h ⊢
    by_cases h1 : 1000 ≤ n
    · rw [if_pos h1] at h; omega
    · rw [if_neg h1] at h ⊢
      by_cases h2 : badI x = true
      · rw [if_pos h2] at h; omega
      · rw [if_neg h2] at h ⊢
        obtain ⟨a1, a2⟩ := wgtL_sz g hg l _ h
        have a3 := hg x.kids (by omega)
        have a4 : sizeI x ≤ 399 + sizeL x.kids := by
          obtain ⟨k, t, d, ti, a, ar, c, ks⟩ := x
          unfold badI longA at h2
          simp only [Bool.or_eq_true, decide_eq_true_eq, not_or, Nat.not_lt] at h2
          obtain ⟨b1, ⟨b2, b3, -⟩, b4, b5⟩ := h2
          rw [sizeI]
          show _ ≤ 399 + sizeL ks
          omega
        refine ⟨by omega, ?_⟩
        rw [sizeL, List.length_cons]
        omega
theorem wgtF_sz : ∀ (f : Nat) (l : List InT), wgtF f l < 1000 → sizeL l ≤ 399 * wgtF f l
  | 0, l, h => by unfold wgtF at h; omega
  | f + 1, l, h => by
    unfold wgtF at h ⊢
    by_cases h1 : 200 < l.length
    · rw [if_pos h1] at h; omega
    · rw [if_neg h1] at h ⊢
      obtain ⟨a1, a2⟩ := wgtL_sz (wgtF f) (wgtF_sz f) l l.length h
      omega
theorem pcX_get {ps : List PcT} {i : Nat} (hi : i < ps.length) : pcX ps i = ps[i] := by
  unfold pcX; rw [List.getD_eq_getElem?_getD, List.getElem?_eq_getElem hi]; rfl
/-- What few pieces are. -/
theorem few_bd {ps : List PcT} (h : fewP ps = true) : ps.length ≤ 40 ∧ (∀ i, i < ps.length → (pcX ps i).ch.size ≤ 9 ∧ (pcX ps i).n ≤ 40) ∧ sizeL (ps.map (·.inl)) ≤ 47481 := by
  unfold fewP at h
  simp only [Bool.and_eq_true, decide_eq_true_eq, List.all_eq_true] at h
  obtain ⟨h1, h2, h3⟩ := h
  refine ⟨h1, fun i hi => ?_, ?_⟩
  · rw [pcX_get hi]; exact h2 _ (List.getElem_mem hi)
  · have := wgtF_sz 21 (ps.map (·.inl)) (by omega)
    omega
theorem sumN_few {ps : List PcT} (h : ∀ i, i < ps.length → (pcX ps i).n ≤ 40) : ∀ k, k ≤ ps.length → sumN ps k ≤ 40 * k
  | 0, _ => Nat.le_refl _
  | k + 1, hk => by
    have h1 := sumN_few h k (by omega)
    have h2 := h k (by omega)
    show sumN ps k + (if runP (pcX ps k) = true then _ else 0) ≤ _
    split <;> omega
theorem sizeL_take (l : List InT) {k : Nat} (h : k < l.length) : sizeL (l.take (k + 1)) = sizeL (l.take k) + sizeI l[k] := by
  rw [List.take_succ_eq_append_getElem h, sizeL_app, sizeL_one]
theorem sumZ_few {ps : List PcT} (h : ∀ i, i < ps.length → (pcX ps i).n ≤ 40) : ∀ k, k ≤ ps.length → sumZ ps k ≤ sizeL ((ps.map (·.inl)).take k) + 41 * k
  | 0, _ => Nat.zero_le _
  | k + 1, hk => by
    have h1 := sumZ_few h k (by omega)
    have h2 := h k (by omega)
    have hl : k < (ps.map (·.inl)).length := by rw [List.length_map]; omega
    rw [sizeL_take _ hl, List.getElem_map, ← pcX_get (by omega)]
    show sumZ ps k + pcZ _ ≤ _
    unfold pcZ
    omega
theorem few_sums {ps : List PcT} (h : fewP ps = true) : ps.length ≤ 40 ∧ sumN ps ps.length ≤ 1600 ∧ sumZ ps ps.length ≤ 50000 := by
  obtain ⟨h1, h2, h3⟩ := few_bd h
  have h4 := sumN_few (fun i hi => (h2 i hi).2) ps.length (Nat.le_refl _)
  have h5 := sumZ_few (fun i hi => (h2 i hi).2) ps.length (Nat.le_refl _)
  have h6 : (ps.map (·.inl)).take ps.length = ps.map (·.inl) := by rw [← List.length_map (f := fun p : PcT => p.inl), List.take_length]
  rw [h6] at h5
  omega
/-- A match does not cross another one. -/
def NoX (s t : Nat × Nat × Nat) : Prop := s.1 < t.1 → (t.1 < s.2.1 ∧ t.2.1 ≤ s.2.1) ∨ s.2.1 ≤ t.1
structure CrI (k : Nat) (st : EmS) (ids : List Nat) : Prop where
  fit : ∀ t ∈ st.prs, t.1 < t.2.1 ∧ t.2.1 < k ∧ 1 ≤ t.2.2 ∧ t.2.2 ≤ 2
  nox : ∀ s ∈ st.prs, ∀ t ∈ st.prs, NoX s t
  out : ∀ x ∈ ids, runX st.xs x = true → pX st.xs x < k ∧ ∀ t ∈ st.prs, pX st.xs x ≤ t.1 ∨ t.2.1 ≤ pX st.xs x
  asc : ids.Pairwise fun a b => runX st.xs a = true → runX st.xs b = true → pX st.xs a < pX st.xs b
theorem CrI.congr {k : Nat} {st st' : EmS} {ids : List Nat} (h : CrI k st ids) (hp : st'.prs = st.prs) (he : ∀ x ∈ ids, runX st'.xs x = runX st.xs x ∧ pX st'.xs x = pX st.xs x) : CrI k st' ids :=
  ⟨by rw [hp]; exact h.fit, by rw [hp]; exact h.nox, fun x hx hr => by
    rw [(he x hx).1] at hr
    rw [(he x hx).2, hp]
    exact h.out x hx hr, h.asc.imp_of_mem fun ha hb hab r1 r2 => by
    rw [(he _ ha).1] at r1
    rw [(he _ hb).1] at r2
    rw [(he _ ha).2, (he _ hb).2]
    exact hab r1 r2⟩
theorem CrI.up {k : Nat} {st : EmS} {ids : List Nat} (h : CrI k st ids) : CrI (k + 1) st ids :=
  ⟨fun t ht => by have := h.fit t ht; omega, h.nox, fun x hx hr => ⟨by have := (h.out x hx hr).1; omega, (h.out x hx hr).2⟩, h.asc⟩
theorem CrI.snoc {k y : Nat} {st : EmS} {ids : List Nat} (h : CrI k st ids) (hy : runX st.xs y = true → pX st.xs y = k) : CrI (k + 1) st (ids ++ [y]) := by
  refine ⟨fun t ht => by have := h.fit t ht; omega, h.nox, fun x hx hr => ?_, ?_⟩
  · rw [List.mem_append, List.mem_singleton] at hx
    rcases hx with hx | rfl
    · exact ⟨by have := (h.out x hx hr).1; omega, (h.out x hx hr).2⟩
    · rw [hy hr]
      exact ⟨by omega, fun t ht => .inr (by have := h.fit t ht; omega)⟩
  · rw [List.pairwise_append]
    refine ⟨h.asc, List.pairwise_singleton _ _, fun a ha b hb r1 r2 => ?_⟩
    rw [List.mem_singleton] at hb
    subst hb
    rw [hy r2]
    exact (h.out a ha r1).1
end Go.Pub
namespace Go.Pub
open Go.RowKit
/-- What the parts from a up to b give. -/
def catG (g : Nat → List UInt8) (a b : Nat) : List UInt8 := (List.range' a (b - a)).flatMap g
section
variable {g g' F F' : Nat → List UInt8} {a b m : Nat}
theorem catG_self : catG g a a = [] := by unfold catG; rw [Nat.sub_self]; rfl
theorem catG_app (h1 : a ≤ m) (h2 : m ≤ b) : catG g a b = catG g a m ++ catG g m b := by
  unfold catG
  rw [← List.flatMap_append]
  congr 1
  have := List.range'_append_1 (s := a) (m := m - a) (n := b - m)
  rw [show a + (m - a) = m by omega, show m - a + (b - m) = b - a by omega] at this
  exact this.symm
theorem catG_congr (h : ∀ i, a ≤ i → i < b → g i = g' i) : catG g a b = catG g' a b := by
  unfold catG
  rw [List.flatMap_def, List.flatMap_def]
  congr 1
  refine List.map_congr_left fun i hi => ?_
  rw [List.mem_range'_1] at hi
  exact h i hi.1 (by omega)
/-- Elements cover the parts from a up to b, in order; runs cover one part each. -/
def Cov (g F : Nat → List UInt8) (pos : Nat → Option Nat) : List Nat → Nat → Nat → Prop
  | [], a, b => a ≤ b ∧ catG g a b = []
  | x :: r, a, b => ∃ lo hi, a ≤ lo ∧ lo ≤ hi ∧ catG g a lo = [] ∧ catG g lo hi = F x ∧ (∀ q, pos x = some q → lo = q ∧ hi = q + 1) ∧ Cov g F pos r hi b
theorem Cov.le {pos : Nat → Option Nat} : ∀ {l : List Nat} {a b : Nat}, Cov g F pos l a b → a ≤ b
  | [], _, _, h => h.1
  | x :: r, _, _, ⟨lo, hi, h1, h2, _, _, _, h6⟩ => by have := h6.le; omega
theorem Cov.gap {pos : Nat → Option Nat} (h1 : a ≤ m) (h2 : catG g a m = []) : ∀ {l : List Nat} {b : Nat}, Cov g F pos l m b → Cov g F pos l a b
  | [], b, h => ⟨by have := h.1; omega, by rw [catG_app h1 h.1, h2, h.2]; rfl⟩
  | x :: r, b, ⟨lo, hi, g1, g2, g3, g4, g5, g6⟩ => ⟨lo, hi, by omega, g2, by rw [catG_app h1 g1, h2, g3]; rfl, g4, g5, g6⟩
theorem Cov.app {pos : Nat → Option Nat} : ∀ {l r : List Nat} {a b : Nat}, Cov g F pos (l ++ r) a b → ∃ m, Cov g F pos l a m ∧ Cov g F pos r m b
  | [], r, a, b, h => ⟨a, ⟨Nat.le_refl _, catG_self⟩, h⟩
  | x :: l, r, a, b, ⟨lo, hi, g1, g2, g3, g4, g5, g6⟩ => by
    obtain ⟨m, h1, h2⟩ := Cov.app g6
    exact ⟨m, ⟨lo, hi, g1, g2, g3, g4, g5, h1⟩, h2⟩
theorem Cov.join {pos : Nat → Option Nat} : ∀ {l r : List Nat} {a m b : Nat}, Cov g F pos l a m → Cov g F pos r m b → Cov g F pos (l ++ r) a b
  | [], r, a, m, b, h1, h2 => Cov.gap h1.1 h1.2 h2
  | x :: l, r, a, m, b, ⟨lo, hi, g1, g2, g3, g4, g5, g6⟩, h2 => ⟨lo, hi, g1, g2, g3, g4, g5, Cov.join g6 h2⟩
theorem Cov.congr {pos pos' : Nat → Option Nat} : ∀ {l : List Nat} {a b : Nat}, Cov g F pos l a b → (∀ i, a ≤ i → i < b → g' i = g i) → (∀ x ∈ l, F' x = F x ∧ pos' x = pos x) → Cov g' F' pos' l a b
  | [], a, b, h, hg, hx => ⟨h.1, by rw [catG_congr hg]; exact h.2⟩
  | x :: r, a, b, ⟨lo, hi, g1, g2, g3, g4, g5, g6⟩, hg, hx => by
    have g7 := g6.le
    refine ⟨lo, hi, g1, g2, ?_, ?_, ?_, Cov.congr g6 (fun i h1 h2 => hg i (by omega) h2) fun y hy => hx y (List.mem_cons_of_mem _ hy)⟩
    · rw [catG_congr (g' := g) fun i h1 h2 => hg i h1 (by omega)]; exact g3
    · rw [catG_congr (g' := g) fun i h1 h2 => hg i (by omega) (by omega), (hx x (by simp)).1]; exact g4
    · rw [(hx x (by simp)).2]; exact g5
end
end Go.Pub
namespace Go.Pub
open Go.RowKit
theorem sumS_drop {l : List ByteArray} {i : Nat} (h : i < l.length) : sumS (l.drop i) = l[i].size + sumS (l.drop (i + 1)) := by
  rw [List.drop_eq_getElem_cons h]; rfl
theorem sumP_drop {l : List (ByteArray × ByteArray)} {i : Nat} (h : i < l.length) : sumP (l.drop i) = l[i].1.size + l[i].2.size + sumP (l.drop (i + 1)) := by
  rw [List.drop_eq_getElem_cons h]; rfl
theorem strs_at' (l : List ByteArray) (k : Nat) (h : k < l.length) : (strs l)[k]? = some (.string l[k]) := by
  unfold strs; rw [List.getElem?_map, List.getElem?_eq_getElem h]; rfl
theorem prs_at' : ∀ (l : List (ByteArray × ByteArray)) (k : Nat) (h : k < l.length), (prs l)[k * 2]? = some (.string l[k].1) ∧ (prs l)[k * 2 + 1]? = some (.string l[k].2)
  | x :: l, 0, _ => ⟨rfl, rfl⟩
  | x :: l, k + 1, h => by
    have := prs_at' l k (by simpa using h)
    rw [show (k + 1) * 2 = k * 2 + 1 + 1 by omega]
    exact this
def BoolP (b : Bool) (w : World) (e : Ending) (w' : World) : Prop := e = .returned (.bool b) ∧ Below w.heap.size w w'
end Go.Pub
namespace Go.Proofs.Ytfnloonmeilhlaa
open Go.RowKit Go.Pub
set_option maxHeartbeats 4000000 in
set_option maxRecDepth 100000 in
theorem t_long {S : Nat → Prop} {A1 A2 : Option Addr} {c1 c2 : Nat} {a : AttrL} (w : World) (h1 : ReadsS w S 1 A1 a.cl.length (strs a.cl)) (h2 : ReadsS w S 2 A2 a.pr.length (prs a.pr)) (hS : ∀ g, S g → g < w.heap.size) (ho : OkA a) :
    Calls Try.prog 45 #[.agg #[.string a.id, .slice A1 a.cl.length c1, .slice A2 a.pr.length c2]] w (BoolP (longA a) w) := by
  obtain ⟨id, cl, pr⟩ := a
  obtain ⟨o1, o2, o3⟩ := ho
  have o1 : id.size ≤ reachBytes := o1
  have o2 : ∀ s ∈ cl, s.size ≤ reachBytes := o2
  have o3 : ∀ x ∈ pr, x.1.size ≤ reachBytes ∧ x.2.size ≤ reachBytes := o3
  have HR1 : Hid (∀ i (hi : i < cl.length), ∃ b off, A1 = some ⟨b, off, none⟩ ∧ b < w.heap.size ∧ w.cell? ⟨b, off + i, none⟩ = some (.string cl[i])) := Lib.hid fun i hi => by
    obtain ⟨b, off, e, hb, hc⟩ := h1.row (by show 0 < cl.length; omega) (by decide)
    exact ⟨b, off, e, hS b hb, hc i _ (strs_at' cl i hi)⟩
  have HR2 : Hid (∀ i (hi : i < pr.length), ∃ b off, A2 = some ⟨b, off, none⟩ ∧ b < w.heap.size ∧ w.cell? ⟨b, off + i * 2, none⟩ = some (.string pr[i].1) ∧ w.cell? ⟨b, off + i * 2 + 1, none⟩ = some (.string pr[i].2)) := Lib.hid fun i hi => by
    obtain ⟨b, off, e, hb, hc⟩ := h2.row (by show 0 < pr.length; omega) (by decide)
    exact ⟨b, off, e, hS b hb, hc (i * 2) _ (prs_at' pr i hi).1, by rw [Nat.add_assoc]; exact hc (i * 2 + 1) _ (prs_at' pr i hi).2⟩
  have HL : Hid (longA ⟨id, cl, pr⟩ = (decide (40 < cl.length) || (decide (40 < pr.length) || decide (600 < id.size + sumS cl + sumP pr)))) := Lib.hid rfl
  have hs1 := sumS_le cl _ o2
  have hs2 := sumP_le pr _ o3
  clear h1 h2 hS o2 o3
  unfold reachBytes at *
  have hbx : Below w.heap.size w (w.alloc (.cells #[.string id, .slice A1 cl.length c1, .slice A2 pr.length c2] 34)) := (Below.refl _ w).alloc (Nat.le_refl _) _
  have hbl := Blk.new w 34 #[.string id, .slice A1 cl.length c1, .slice A2 pr.length c2]
  have HB1 := Lib.hid hbx
  have HK1 := Lib.hid hbl
  generalize longA ⟨id, cl, pr⟩ = R at *
  by_cases g1 : 40 < cl.length
  · have hR : R = true := by rw [HL.out]; simp [g1]
    subst hR
    have g1' : (40 : Int) < (cl.length : Int) := by omega
    clear hs1 hs2
    go_enter Try.func45, Try.ntmps45
    go_wp2_with fail
    go_ret
    exact ⟨rfl, HB1.out⟩
  by_cases g2 : 40 < pr.length
  · have hR : R = true := by rw [HL.out]; simp [g2]
    subst hR
    have g2' : (40 : Int) < (pr.length : Int) := by omega
    have g1' : decide ((40 : Int) < (cl.length : Int)) = false := decide_eq_false (by omega)
    clear hs1 hs2
    go_enter Try.func45, Try.ntmps45
    go_wp2_with fail
    go_ret
    exact ⟨rfl, HB1.out⟩
  have hR : Hid (R = decide (600 < id.size + sumS cl + sumP pr)) := Lib.hid (by rw [HL.out]; simp [g1, g2])
  have g1' : decide ((40 : Int) < (cl.length : Int)) = false := decide_eq_false (by omega)
  have g2' : decide ((40 : Int) < (pr.length : Int)) = false := decide_eq_false (by omega)
  have hc40 : cl.length * 140737488351232 ≤ 40 * 140737488351232 := Nat.mul_le_mul_right _ (by omega)
  have hp40 : pr.length * (2 * 140737488351232) ≤ 40 * (2 * 140737488351232) := Nat.mul_le_mul_right _ (by omega)
  obtain ⟨T1, hT1⟩ : ∃ T1, T1 = id.size + sumS cl := ⟨_, rfl⟩
  obtain ⟨T2, hT2⟩ : ∃ T2, T2 = T1 + sumP pr := ⟨_, rfl⟩
  have hT2b : T2 ≤ 20000000000000000 := by omega
  have hT12 : T1 ≤ T2 := by omega
  have hidT : id.size ≤ T1 := by omega
  have HT1 := Lib.hid hT1
  have HT2 := Lib.hid hT2
  have hR2 : Hid (R = decide (600 < T2)) := Lib.hid (by rw [hR.out, hT2, hT1])
  have x0 : (w.alloc (.cells #[.string id, .slice A1 cl.length c1, .slice A2 pr.length c2] 34)).cell? ⟨w.heap.size, 0, none⟩ = some (.string id) := hbl.cell 0
  have x1 : (w.alloc (.cells #[.string id, .slice A1 cl.length c1, .slice A2 pr.length c2] 34)).cell? ⟨w.heap.size, 1, none⟩ = some (.slice A1 cl.length c1) := hbl.cell 1
  have x2 : (w.alloc (.cells #[.string id, .slice A1 cl.length c1, .slice A2 pr.length c2] 34)).cell? ⟨w.heap.size, 2, none⟩ = some (.slice A2 pr.length c2) := hbl.cell 2
  have hl1 : cl.length ≤ 40 := by omega
  have hl2 : pr.length ≤ 40 := by omega
  clear hs1 hs2 hc40 hp40 hT1 hT2 HL hR hbl hbx o1 g1 g2
  go_enter Try.func45, Try.ntmps45
  go_wp2_with fail
  generalize w.alloc (.cells #[.string id, .slice A1 cl.length c1, .slice A2 pr.length c2] 34) = W1 at *
  clear g1' g2'
  go_loopw [3, 4] (fun v3 v4 wr => wr = W1 ∧ ∃ (i n : Nat), i ≤ cl.length ∧ v3 = .int .i64 n ∧ v4 = .int .i64 i ∧ n ≤ T1 ∧ Hid (n + sumS (cl.drop i) = T1)) (fun _ v4 _ => cl.length - (intOf v4).toNat)
  case atStart => exact ⟨rfl, 0, id.size, Nat.zero_le _, rfl, rfl, hidT, Lib.hid (by rw [HT1.out]; rfl)⟩
  case round =>
    obtain ⟨rfl, i, n, hi, rfl, rfl, hn, HN⟩ := hrel
    by_cases hlt : i < cl.length
    · obtain ⟨b, off, rfl, hb, hc⟩ := HR1.out i hlt
      have hc' : wr.cell? ⟨b, off + i, none⟩ = some (.string cl[i]) := (HB1.out.cell (p := ⟨b, off + i, none⟩) hb).trans hc
      have hnn : n + cl[i].size ≤ T1 := by have := HN.out; rw [sumS_drop hlt] at this; omega
      have HN2 : Hid (n + cl[i].size + sumS (cl.drop (i + 1)) = T1) := Lib.hid (by have := HN.out; rw [sumS_drop hlt] at this; omega)
      have hii : (i : Int) < (cl.length : Int) := by omega
      clear hc
      generalize cl[i] = s at *
      go_wp2_with fail
      go_roundw
      case rel => exact ⟨trivial, i + 1, n + s.size, by omega, by go_num, by go_num, hnn, HN2⟩
      case measure => simp [intOf]; omega
    · obtain rfl : i = cl.length := by omega
      have hnT : n = T1 := by have := HN.out; rw [List.drop_length] at this; exact this
      subst hnT
      clear HN hn hidT
      go_wp2_with fail
      go_loopw [3, 5] (fun v3 v5 wq => ∃ (i m : Nat), i ≤ pr.length ∧ v3 = .int .i64 m ∧ v5 = .int .i64 i ∧ m ≤ T2 ∧ Hid (m + sumP (pr.drop i) = T2) ∧ Hid (Below w.heap.size w wq) ∧ Hid (Blk wq w.heap.size 34 #[.string id, .slice A1 cl.length c1, .slice A2 pr.length c2])) (fun _ v5 _ => pr.length - (intOf v5).toNat)
      case atStart => exact ⟨0, n, Nat.zero_le _, rfl, rfl, hT12, Lib.hid (by rw [HT2.out]; rfl), HB1, HK1⟩
      case round =>
        clear x0 x1 x2
        rename World => wq
        obtain ⟨i, m, hi, rfl, rfl, hm, HM, HBq, HKq⟩ := hrel
        have y2 : wq.cell? ⟨w.heap.size, 2, none⟩ = some (.slice A2 pr.length c2) := HKq.out.cell 2
        by_cases hlt : i < pr.length
        · obtain ⟨b, off, rfl, hb, hc1, hc2⟩ := HR2.out i hlt
          have k1 : wq.cell? ⟨b, off + i * 2, none⟩ = some (.string pr[i].1) := (HBq.out.cell (p := ⟨b, off + i * 2, none⟩) hb).trans hc1
          have k2 : wq.cell? ⟨b, off + i * 2 + 1, none⟩ = some (.string pr[i].2) := (HBq.out.cell (p := ⟨b, off + i * 2 + 1, none⟩) hb).trans hc2
          have hmm : m + (pr[i].1.size + pr[i].2.size) ≤ T2 := by have := HM.out; rw [sumP_drop hlt] at this; omega
          have HM2 : Hid (m + (pr[i].1.size + pr[i].2.size) + sumP (pr.drop (i + 1)) = T2) := Lib.hid (by have := HM.out; rw [sumP_drop hlt] at this; omega)
          have hii : (i : Int) < (pr.length : Int) := by omega
          have hi00 : (0 : Int) ≤ (i : Int) := by omega
          clear hc1 hc2
          generalize pr[i].1 = s1 at *
          generalize pr[i].2 = s2 at *
          go_wp2_with fail
          go_region
          all_goals
            go_wp2_with fail
            go_roundw
            case rel => exact ⟨i + 1, m + (s1.size + s2.size), by omega, by go_num, by go_num, hmm, HM2, Lib.hid (Below.drew HBq.out), Lib.hid HKq.out⟩
            case measure => simp [intOf]; omega
        · obtain rfl : i = pr.length := by omega
          have hmT : m = T2 := by have := HM.out; rw [List.drop_length] at this; exact this
          subst hmT
          have HF : Hid (BoolP R w (.returned (.bool (decide ((600 : Int) < (m : Int))))) wq) := Lib.hid ⟨by rw [hR2.out]; congr 2; exact decide_eq_decide.2 (by omega), HBq.out⟩
          go_wp2_with fail
          go_ret
          exact HF.out

end Go.Proofs.Ytfnloonmeilhlaa
namespace Go.Pub
open Go.RowKit
theorem argsW_drop {l : List ByteArray} {i : Nat} (h : i < l.length) : argsW (l.drop i) = l[i].size / 40 + argsW (l.drop (i + 1)) := by
  rw [List.drop_eq_getElem_cons h]; rfl
theorem citsW_drop {l : List CitL} {i : Nat} (h : i < l.length) : citsW (l.drop i) = (l[i].key.size + l[i].pre.size + l[i].suf.size) / 40 + citsW (l.drop (i + 1)) := by
  rw [List.drop_eq_getElem_cons h]; rfl
theorem citVT_at : ∀ (l : List CitL) (k : Nat) (h : k < l.length), (citVT l)[k * 4]? = some (.string l[k].key) ∧ (citVT l)[k * 4 + 1]? = some (.string l[k].pre) ∧ (citVT l)[k * 4 + 2]? = some (.string l[k].suf) ∧ (citVT l)[k * 4 + 3]? = some (.bool l[k].bare)
  | x :: l, 0, _ => ⟨rfl, rfl, rfl, rfl⟩
  | x :: l, k + 1, h => by
    have := citVT_at l k (by simpa using h)
    rw [show (k + 1) * 4 = k * 4 + 1 + 1 + 1 + 1 by omega]
    exact this
theorem div40 (n : Nat) : Int.tdiv (n : Int) 40 = ((n / 40 : Nat) : Int) := by rw [Int.tdiv_eq_ediv_of_nonneg (by omega)]; omega
def IntP (n : Nat) (w : World) (e : Ending) (w' : World) : Prop := e = .returned (.int .i64 n) ∧ Below w.heap.size w w'
end Go.Pub
namespace Go.Proofs.Ytfnloonmeilhlaa
open Go.RowKit Go.Pub
theorem cit_size : (Try.prog.info? 55).map (·.size) = some 4 := by kernel_rfl
/-- The weight is right at a depth. -/
def WgtH (f : Nat) : Prop := ∀ (S : Nat → Prop) (w : World) (A : Option Addr) (c depth : Nat) (vs : List (Array Value)) (l : List InT), depth + f = 21 → RepIs w S vs l → ReadsS w S 10 A l.length (vs.flatMap Array.toList) → (∀ g, S g → g < w.heap.size) → okL l →
  Calls Try.prog 46 #[.slice A l.length c, .int .i64 depth] w (IntP (wgtF f l) w)
set_option maxHeartbeats 4000000 in
set_option maxRecDepth 100000 in
theorem t_weight0 : WgtH 0 := by
  intro S w A c depth vs l hd h1 h2 hS ho
  obtain rfl : depth = 21 := by omega
  have hm := h2.1.2
  unfold maxLen at hm
  clear h1 h2 hS ho
  go_enter Try.func46, Try.ntmps46
  go_wp2_with fail
  go_ret
  exact ⟨rfl, Below.refl _ w⟩

set_option maxHeartbeats 8000000 in
set_option maxRecDepth 100000 in
theorem t_weight1 (f : Nat) (hf : f < 21) (ih : WgtH f) : WgtH (f + 1) := by
  intro S w A c depth vs l hd h1 h2 hS ho
  have hm := h2.1.2
  have hdd : decide ((20 : Int) < (depth : Int)) = false := decide_eq_false (by omega)
  unfold maxLen at hm
  by_cases h200 : 200 < l.length
  · have hR : wgtF (f + 1) l = 1000 := by unfold wgtF; rw [if_pos h200]
    rw [hR]
    have h200' : (200 : Int) < (l.length : Int) := by omega
    clear h1 h2 hS ho hR
    go_enter Try.func46, Try.ntmps46
    go_wp2_with fail
    go_ret
    exact ⟨rfl, Below.refl _ w⟩
  have hR : Hid (wgtF (f + 1) l = wgtL (wgtF f) l.length l) := Lib.hid (by rw [wgtF, if_neg h200])
  have h200' : decide ((200 : Int) < (l.length : Int)) = false := decide_eq_false (by omega)
  have hl200 : l.length ≤ 200 := by omega
  obtain ⟨G, hG⟩ : ∃ G, G = 1000 + f * (1000 + 36 * 140737488355328) := ⟨_, rfl⟩
  have hGb : G ≤ 110000000000000000 := by
    have : f * (1000 + 36 * 140737488355328) ≤ 21 * (1000 + 36 * 140737488355328) := Nat.mul_le_mul_right _ (by omega)
    omega
  have hgG : ∀ x : List InT, okL x → wgtF f x ≤ G := fun x hx => by rw [hG]; exact wgtF_le f x hx
  have HIH := Lib.hid ih
  have HEL : Hid (∀ i (hi : i < l.length), ∃ b off v, A = some ⟨b, off, none⟩ ∧ b < w.heap.size ∧ RepI w S v l[i] ∧ w.rangeAt b (off + i * 10) v.toList) := Lib.hid fun i hi => by
    obtain ⟨b, off, e, hb, hc⟩ := h2.row (by omega) (by decide)
    obtain ⟨v, hv, hvc⟩ := h1.at_ i hi
    refine ⟨b, off, v, e, hS b hb, hv, fun j u hj => ?_⟩
    have hj10 : j < 10 := by have := (List.getElem?_eq_some_iff.1 hj).1; rw [Array.length_toList, hv.size] at this; exact this
    rw [Nat.add_assoc]
    refine hc (i * 10 + j) u ?_
    rw [hvc j hj10, ← hj, Array.getElem?_toList]
  have HOK : Hid (∀ i (hi : i < l.length), okI l[i]) := Lib.hid fun i hi => okL_mem l ho _ (List.getElem_mem hi)
  have HS := Lib.hid hS
  generalize wgtF (f + 1) l = R at *
  clear h1 h2 hS ho hG ih
  have hd21 : depth ≤ 20 := by omega
  go_enter Try.func46, Try.ntmps46
  go_wp2_with fail
  clear h200' hdd
  go_loopw [5, 6] (fun v5 v6 wr => ∃ i n : Nat, i ≤ l.length ∧ v5 = .int .i64 n ∧ v6 = .int .i64 i ∧ n ≤ 300000000000000000 ∧ Hid (wgtL (wgtF f) n (l.drop i) = R) ∧ Hid (Below w.heap.size w wr)) (fun _ v6 _ => l.length - (intOf v6).toNat)
  case atStart => exact ⟨0, l.length, Nat.zero_le _, rfl, rfl, by omega, Lib.hid (by rw [hR.out]; rfl), Lib.hid (Below.refl _ w)⟩
  case round =>
    obtain ⟨i, n, hi, rfl, rfl, hn, HN, HBw⟩ := hrel
    by_cases hlt : i < l.length
    · have hii : (i : Int) < (l.length : Int) := by omega
      have hi00 : (0 : Int) ≤ (i : Int) := by omega
      by_cases hn1 : 1000 ≤ n
      · have hRn : R = n := by rw [← HN.out, List.drop_eq_getElem_cons hlt, wgtL, if_pos hn1]
        have dn : decide ((n : Int) < 1000) = false := decide_eq_false (by omega)
        subst hRn
        go_wp2_with fail
        go_ret
        exact ⟨rfl, HBw.out⟩
      · have dn : (n : Int) < 1000 := by omega
        obtain ⟨b, off, v, rfl, hb, hv, hrg⟩ := HEL.out i hlt
        have hok := HOK.out i hlt
        have hst : wgtL (wgtF f) n (l.drop i) = if badI l[i] = true then 1000 else wgtL (wgtF f) (n + ownW l[i] + wgtF f l[i].kids) (l.drop (i + 1)) := by
          rw [List.drop_eq_getElem_cons hlt, wgtL, if_neg hn1]
        rw [hst] at HN
        clear hst
        generalize hxx : l[i] = x at *
        clear hxx
        have hbw := HBw.out
        have hzw := hbw.size
        have hv' := hv.keep (w' := wr) (fun g hg => hbw.block g (HS.out g hg)) fun _ h => h
        have hrg' : wr.rangeAt b (off + i * 10) v.toList := fun j u hj => (hbw.cell (p := ⟨b, off + i * 10 + j, none⟩) hb).trans (hrg j u hj)
        clear hv hrg
        cases hv' with
        | mk kind text dest title att args cites kids A1 A2 A3 A4 A5 c1 c2 c3 c4 c5 vs' r1 r2 r3 r4 r5 r6 =>
        have hob : badI (.mk kind text dest title att args cites kids) = (decide (300 < text.size + dest.size + title.size) || (longA att || (decide (9 < args.length) || decide (9 < cites.length)))) := rfl
        rw [hob] at HN
        have how := @ownW_le (.mk kind text dest title att args cites kids) hok
        rw [hob] at how
        have how2 : ownW (.mk kind text dest title att args cites kids) = argsW args + citsW cites := rfl
        rw [how2] at how HN
        have hkk : (InT.mk kind text dest title att args cites kids).kids = kids := rfl
        rw [hkk] at HN
        rw [okI] at hok
        obtain ⟨⟨l1, l2, l3⟩, oa, o3, o4, o5⟩ := hok
        unfold reachBytes at l1 l2 l3
        have hS' : ∀ g, S g → g < wr.heap.size := fun g hg => Nat.lt_of_lt_of_le (HS.out g hg) hzw
        have hB2 : Below wr.heap.size wr (wr.alloc (.cells #[.int .i64 kind, .string text, .string dest, .string title, .string att.id, .slice A1 att.cl.length c1, .slice A2 att.pr.length c2, .slice A3 args.length c3, .slice A4 cites.length c4, .slice A5 kids.length c5] 37)) := (Below.refl _ wr).alloc (Nat.le_refl _) _
        have HG : Hid (wr.rangeAt b (off + i * 10) [.int .i64 kind, .string text, .string dest, .string title, .string att.id, .slice A1 att.cl.length c1, .slice A2 att.pr.length c2, .slice A3 args.length c3, .slice A4 cites.length c4, .slice A5 kids.length c5]) := Lib.hid hrg'
        have hbk := Blk.new wr 37 #[.int .i64 kind, .string text, .string dest, .string title, .string att.id, .slice A1 att.cl.length c1, .slice A2 att.pr.length c2, .slice A3 args.length c3, .slice A4 cites.length c4, .slice A5 kids.length c5]
        have HBK := Lib.hid hbk
        have HB2 := Lib.hid hB2
        have HLG := Lib.hid fun (W : World) (hW : Below wr.heap.size wr W) => t_long (c1 := c1) (c2 := c2) W (r1.keep (fun g hg => hW.block g (hS' g hg)) fun _ h => h) (r2.keep (fun g hg => hW.block g (hS' g hg)) fun _ h => h) (fun g hg => Nat.lt_of_lt_of_le (hS' g hg) hW.size) oa
        have HIC : Hid (∀ (W : World), Below wr.heap.size wr W → Calls Try.prog 46 #[.slice A5 kids.length c5, .int .i64 ((depth : Int) + 1)] W (IntP (wgtF f kids) W)) := Lib.hid fun W hW => by
          have := HIH.out S W A5 c5 (depth + 1) vs' kids (by omega) (r5.keep (fun g hg => hW.block g (hS' g hg)) fun _ h => h) (r6.keep (fun g hg => hW.block g (hS' g hg)) fun _ h => h) (fun g hg => Nat.lt_of_lt_of_le (hS' g hg) hW.size) o5
          rwa [Int.natCast_add] at this
        have HAR : Hid (∀ (W : World), Below wr.heap.size wr W → ∀ k (hk : k < args.length), ∃ b off, A3 = some ⟨b, off, none⟩ ∧ W.cell? ⟨b, off + k, none⟩ = some (.string args[k])) := Lib.hid fun W hW k hk => by
          obtain ⟨b, off, e, hb, hc⟩ := r3.row (by omega) (by decide)
          exact ⟨b, off, e, (hW.cell (p := ⟨b, off + k, none⟩) (hS' b hb)).trans (hc k _ (strs_at' args k hk))⟩
        have HCI : Hid (∀ (W : World), Below wr.heap.size wr W → ∀ k (hk : k < cites.length), ∃ b off, A4 = some ⟨b, off, none⟩ ∧ W.rangeAt b (off + k * 4) [.string cites[k].key, .string cites[k].pre, .string cites[k].suf, .bool cites[k].bare]) := Lib.hid fun W hW k hk => by
          obtain ⟨b, off, e, hb, hc⟩ := r4.row (by omega) (by decide)
          refine ⟨b, off, e, fun j u hj => ?_⟩
          have hj4 := (List.getElem?_eq_some_iff.1 hj).1
          simp only [List.length_cons, List.length_nil] at hj4
          refine (hW.cell (p := ⟨b, off + k * 4 + j, none⟩) (hS' b hb)).trans ?_
          rw [Nat.add_assoc]
          refine hc (k * 4 + j) u ?_
          obtain ⟨e0, e1, e2, e3⟩ := citVT_at cites k hk
          match j, hj4, hj with
          | 0, _, hj => rw [← hj]; exact e0
          | 1, _, hj => rw [← hj]; exact e1
          | 2, _, hj => rw [← hj]; exact e2
          | 3, _, hj => rw [← hj]; exact e3
        have HO3 := Lib.hid o3
        have HO4 := Lib.hid o4
        have hgk := hgG kids o5
        have ms1 := r3.1.2
        have ms2 := r4.1.2
        have ms3 := r6.1.2
        unfold maxLen at ms1 ms2 ms3
        have x1 : (wr.alloc (.cells #[.int .i64 kind, .string text, .string dest, .string title, .string att.id, .slice A1 att.cl.length c1, .slice A2 att.pr.length c2, .slice A3 args.length c3, .slice A4 cites.length c4, .slice A5 kids.length c5] 37)).cell? ⟨wr.heap.size, 1, none⟩ = some (.string text) := hbk.cell 1
        have x2 : (wr.alloc (.cells #[.int .i64 kind, .string text, .string dest, .string title, .string att.id, .slice A1 att.cl.length c1, .slice A2 att.pr.length c2, .slice A3 args.length c3, .slice A4 cites.length c4, .slice A5 kids.length c5] 37)).cell? ⟨wr.heap.size, 2, none⟩ = some (.string dest) := hbk.cell 2
        have x3 : (wr.alloc (.cells #[.int .i64 kind, .string text, .string dest, .string title, .string att.id, .slice A1 att.cl.length c1, .slice A2 att.pr.length c2, .slice A3 args.length c3, .slice A4 cites.length c4, .slice A5 kids.length c5] 37)).cell? ⟨wr.heap.size, 3, none⟩ = some (.string title) := hbk.cell 3
        have x4 : (wr.alloc (.cells #[.int .i64 kind, .string text, .string dest, .string title, .string att.id, .slice A1 att.cl.length c1, .slice A2 att.pr.length c2, .slice A3 args.length c3, .slice A4 cites.length c4, .slice A5 kids.length c5] 37)).cell? ⟨wr.heap.size, 4, none⟩ = some (.string att.id) := hbk.cell 4
        have x5 : (wr.alloc (.cells #[.int .i64 kind, .string text, .string dest, .string title, .string att.id, .slice A1 att.cl.length c1, .slice A2 att.pr.length c2, .slice A3 args.length c3, .slice A4 cites.length c4, .slice A5 kids.length c5] 37)).cell? ⟨wr.heap.size, 5, none⟩ = some (.slice A1 att.cl.length c1) := hbk.cell 5
        have x6 : (wr.alloc (.cells #[.int .i64 kind, .string text, .string dest, .string title, .string att.id, .slice A1 att.cl.length c1, .slice A2 att.pr.length c2, .slice A3 args.length c3, .slice A4 cites.length c4, .slice A5 kids.length c5] 37)).cell? ⟨wr.heap.size, 6, none⟩ = some (.slice A2 att.pr.length c2) := hbk.cell 6
        have x7 : (wr.alloc (.cells #[.int .i64 kind, .string text, .string dest, .string title, .string att.id, .slice A1 att.cl.length c1, .slice A2 att.pr.length c2, .slice A3 args.length c3, .slice A4 cites.length c4, .slice A5 kids.length c5] 37)).cell? ⟨wr.heap.size, 7, none⟩ = some (.slice A3 args.length c3) := hbk.cell 7
        have x8 : (wr.alloc (.cells #[.int .i64 kind, .string text, .string dest, .string title, .string att.id, .slice A1 att.cl.length c1, .slice A2 att.pr.length c2, .slice A3 args.length c3, .slice A4 cites.length c4, .slice A5 kids.length c5] 37)).cell? ⟨wr.heap.size, 8, none⟩ = some (.slice A4 cites.length c4) := hbk.cell 8
        have x9 : (wr.alloc (.cells #[.int .i64 kind, .string text, .string dest, .string title, .string att.id, .slice A1 att.cl.length c1, .slice A2 att.pr.length c2, .slice A3 args.length c3, .slice A4 cites.length c4, .slice A5 kids.length c5] 37)).cell? ⟨wr.heap.size, 9, none⟩ = some (.slice A5 kids.length c5) := hbk.cell 9
        clear hrg' hbk hB2 r1 r2 r3 r4 r5 r6 oa o3 o4 o5 hbw hS' HIH hob how2 hkk
        by_cases hb1 : 300 < text.size + dest.size + title.size
        · have hb1' : (300 : Int) < (text.size : Int) + (dest.size : Int) + (title.size : Int) := by omega
          have hR1 : R = 1000 := by have := HN.out; simp [hb1] at this; exact this.symm
          have HF : Hid (IntP R w (.returned (.int .i64 1000)) (wr.alloc (.cells #[.int .i64 kind, .string text, .string dest, .string title, .string att.id, .slice A1 att.cl.length c1, .slice A2 att.pr.length c2, .slice A3 args.length c3, .slice A4 cites.length c4, .slice A5 kids.length c5] 37))) := Lib.hid ⟨by rw [hR1]; rfl, HBw.out.trans (HB2.out.mono hzw)⟩
          clear how HN hR1
          go_wp2_with (first | (refine wpList_load_mid rfl 37 (.tmp 31) rfl b (off + i * 10) rfl _ _ HG.out Try.underlying37 rfl inl_size ?_) | (refine wpList_store_row rfl 37 (.tmp 7) (.tmp 32) rfl wr.heap.size #[.int .i64 kind, .string text, .string dest, .string title, .string att.id, .slice A1 att.cl.length c1, .slice A2 att.pr.length c2, .slice A3 args.length c3, .slice A4 cites.length c4, .slice A5 kids.length c5] rfl rfl 37 _ (Blk.new wr _ _) inl_size (by rfl) (by simp [Value.oneCell']) ?_; rw [World.setRow_alloc_new]; generalize (wr.alloc (.cells #[.int .i64 kind, .string text, .string dest, .string title, .string att.id, .slice A1 att.cl.length c1, .slice A2 att.pr.length c2, .slice A3 args.length c3, .slice A4 cites.length c4, .slice A5 kids.length c5] 37)) = W1 at *))
          go_ret
          exact HF.out
        have hb1' : decide ((300 : Int) < (text.size : Int) + (dest.size : Int) + (title.size : Int)) = false := decide_eq_false (by omega)
        have HB3 : Hid (Below w.heap.size w (wr.alloc (.cells #[.int .i64 kind, .string text, .string dest, .string title, .string att.id, .slice A1 att.cl.length c1, .slice A2 att.pr.length c2, .slice A3 args.length c3, .slice A4 cites.length c4, .slice A5 kids.length c5] 37))) := Lib.hid (HBw.out.trans (HB2.out.mono hzw))
        have HZ1 : Hid ((wr.alloc (.cells #[.int .i64 kind, .string text, .string dest, .string title, .string att.id, .slice A1 att.cl.length c1, .slice A2 att.pr.length c2, .slice A3 args.length c3, .slice A4 cites.length c4, .slice A5 kids.length c5] 37)).heap.size = wr.heap.size + 1) := Lib.hid (by simp)
        have HHOW := Lib.hid how
        clear how
        go_wp2_with (first | (refine wpList_load_mid rfl 37 (.tmp 31) rfl b (off + i * 10) rfl _ _ HG.out Try.underlying37 rfl inl_size ?_) | (refine wpList_store_row rfl 37 (.tmp 7) (.tmp 32) rfl wr.heap.size #[.int .i64 kind, .string text, .string dest, .string title, .string att.id, .slice A1 att.cl.length c1, .slice A2 att.pr.length c2, .slice A3 args.length c3, .slice A4 cites.length c4, .slice A5 kids.length c5] rfl rfl 37 _ (Blk.new wr _ _) inl_size (by rfl) (by simp [Value.oneCell']) ?_; rw [World.setRow_alloc_new]; generalize (wr.alloc (.cells #[.int .i64 kind, .string text, .string dest, .string title, .string att.id, .slice A1 att.cl.length c1, .slice A2 att.pr.length c2, .slice A3 args.length c3, .slice A4 cites.length c4, .slice A5 kids.length c5] 37)) = W1 at *))
        ((with_reducible refine (HLG.out W1 HB2.out).mono ?_))
        rintro e W2 ⟨rfl, b2⟩
        have HB4 := Lib.hid (HB2.out.trans (b2.mono (by have := HZ1.out; omega)))
        have HB5 := Lib.hid (HB3.out.trans (b2.mono HB3.out.size))
        have HBK2 : Hid (Blk W2 wr.heap.size 37 #[.int .i64 kind, .string text, .string dest, .string title, .string att.id, .slice A1 att.cl.length c1, .slice A2 att.pr.length c2, .slice A3 args.length c3, .slice A4 cites.length c4, .slice A5 kids.length c5]) := Lib.hid (HBK.out.below b2 HBK.out.lt)
        have y7 : W2.cell? ⟨wr.heap.size, 7, none⟩ = some (.slice A3 args.length c3) := HBK2.out.cell 7
        have y8 : W2.cell? ⟨wr.heap.size, 8, none⟩ = some (.slice A4 cites.length c4) := HBK2.out.cell 8
        clear x1 x2 x3 x4 x5 x6 x7 x8 x9 b2 HLG HG HBK HB3 hb1'
        have hlgx : ∀ q, longA att = q → q = longA att := fun q h => h.symm
        cases hlg : longA att with
        | true =>
          have hR1 : R = 1000 := by have := HN.out; simp [hb1, hlg] at this; exact this.symm
          have HF : Hid (IntP R w (.returned (.int .i64 1000)) W2) := Lib.hid ⟨by rw [hR1]; rfl, HB5.out⟩
          clear HHOW HN hR1 hlgx hlg hb1
          go_wp2_with fail
          go_ret
          exact HF.out
        | false =>
          by_cases h9 : 9 < args.length
          · have h9' : (9 : Int) < (args.length : Int) := by omega
            have hR1 : R = 1000 := by have := HN.out; simp [hb1, hlg, h9] at this; exact this.symm
            have HF : Hid (IntP R w (.returned (.int .i64 1000)) W2) := Lib.hid ⟨by rw [hR1]; rfl, HB5.out⟩
            clear HHOW HN hR1 hlgx hlg hb1
            go_wp2_with fail
            go_ret
            exact HF.out
          have h9' : decide ((9 : Int) < (args.length : Int)) = false := decide_eq_false (by omega)
          by_cases h8 : 9 < cites.length
          · have h8' : (9 : Int) < (cites.length : Int) := by omega
            have hR1 : R = 1000 := by have := HN.out; simp [hb1, hlg, h9, h8] at this; exact this.symm
            have HF : Hid (IntP R w (.returned (.int .i64 1000)) W2) := Lib.hid ⟨by rw [hR1]; rfl, HB5.out⟩
            clear HHOW HN hR1 hlgx hlg hb1
            go_wp2_with fail
            go_ret
            exact HF.out
          have h8' : decide ((9 : Int) < (cites.length : Int)) = false := decide_eq_false (by omega)
          have HN2 : Hid (wgtL (wgtF f) (n + (argsW args + citsW cites) + wgtF f kids) (l.drop (i + 1)) = R) := Lib.hid (by have := HN.out; simpa [hb1, hlg, h9, h8] using this)
          have how := HHOW.out (by simp [hb1, hlg, h9, h8])
          obtain ⟨T1, hT1⟩ : ∃ T1, T1 = n + argsW args := ⟨_, rfl⟩
          obtain ⟨T2, hT2⟩ : ∃ T2, T2 = T1 + citsW cites := ⟨_, rfl⟩
          have hT2b : T2 ≤ 100000000000000000 := by omega
          have hT12 : T1 ≤ T2 := by omega
          have hnT : n ≤ T1 := by omega
          have HT1 := Lib.hid hT1
          have HT2 := Lib.hid hT2
          have HN3 : Hid (wgtL (wgtF f) (T2 + wgtF f kids) (l.drop (i + 1)) = R) := Lib.hid (by have := HN2.out; rwa [show n + (argsW args + citsW cites) = T2 by omega] at this)
          have hla : args.length ≤ 9 := by omega
          have hlc : cites.length ≤ 9 := by omega
          clear HN HN2 HHOW hT1 hT2 how hlgx hlg hb1 h9 h8
          generalize wgtF f kids = K at *
          go_wp2_with fail
          clear h9' h8'
          go_loopw [5, 8] (fun v5 v8 wq => wq = W2 ∧ ∃ k m : Nat, k ≤ args.length ∧ v5 = .int .i64 m ∧ v8 = .int .i64 k ∧ m ≤ T1 ∧ Hid (m + argsW (args.drop k) = T1)) (fun _ v8 _ => args.length - (intOf v8).toNat)
          case atStart => exact ⟨rfl, 0, n, Nat.zero_le _, rfl, rfl, hnT, Lib.hid (by rw [HT1.out]; rfl)⟩
          case round =>
            obtain ⟨rfl, k, m, hk, rfl, rfl, hm1, HM⟩ := hrel
            by_cases hkl : k < args.length
            · obtain ⟨ba, oa, rfl, hc⟩ := HAR.out _ HB4.out k hkl
              have hmm : m + args[k].size / 40 ≤ T1 := by have := HM.out; rw [argsW_drop hkl] at this; omega
              have HM2 : Hid (m + args[k].size / 40 + argsW (args.drop (k + 1)) = T1) := Lib.hid (by have := HM.out; rw [argsW_drop hkl] at this; omega)
              have hkk : (k : Int) < (args.length : Int) := by omega
              have hd := div40 args[k].size
              have hsz := HO3.out _ (List.getElem_mem hkl)
              unfold reachBytes at hsz
              have hdb : args[k].size / 40 ≤ 140737488351232 := by omega
              generalize args[k] = s at *
              generalize hq : s.size / 40 = q at *
              clear hq
              go_wp2_with fail
              go_roundw
              case rel => exact ⟨trivial, k + 1, m + q, by omega, by go_num, by go_num, hmm, HM2⟩
              case measure => simp [intOf]; omega
            · obtain rfl : k = args.length := by omega
              have hmT : m = T1 := by have := HM.out; rw [List.drop_length] at this; exact this
              subst hmT
              clear HM hm1 hnT HT1
              go_wp2_with fail
              rename World => W3
              go_loopw [5, 9] (fun v5 v9 wq => ∃ k p : Nat, k ≤ cites.length ∧ v5 = .int .i64 p ∧ v9 = .int .i64 k ∧ p ≤ T2 ∧ Hid (p + citsW (cites.drop k) = T2) ∧ Hid (Below W3.heap.size W3 wq)) (fun _ v9 _ => cites.length - (intOf v9).toNat)
              case atStart => exact ⟨0, m, Nat.zero_le _, rfl, rfl, hT12, Lib.hid (by rw [HT2.out]; rfl), Lib.hid (Below.refl _ _)⟩
              case round =>
                rename World => wq
                obtain ⟨k, p, hk, rfl, rfl, hp, HP, HBq⟩ := hrel
                have hbq := HBq.out
                have hzq := hbq.size
                have hz3 := HB4.out.size
                have HB6 : Hid (Below wr.heap.size wr wq) := Lib.hid (HB4.out.trans (hbq.mono hz3))
                have HB7 : Hid (Below w.heap.size w wq) := Lib.hid (HB5.out.trans (hbq.mono HB5.out.size))
                have HBK3 : Hid (Blk wq wr.heap.size 37 #[.int .i64 kind, .string text, .string dest, .string title, .string att.id, .slice A1 att.cl.length c1, .slice A2 att.pr.length c2, .slice A3 args.length c3, .slice A4 cites.length c4, .slice A5 kids.length c5]) := Lib.hid (HBK2.out.below hbq HBK2.out.lt)
                have z8 : wq.cell? ⟨wr.heap.size, 8, none⟩ = some (.slice A4 cites.length c4) := HBK3.out.cell 8
                have z9 : wq.cell? ⟨wr.heap.size, 9, none⟩ = some (.slice A5 kids.length c5) := HBK3.out.cell 9
                by_cases hkl : k < cites.length
                · obtain ⟨ba, oa, rfl, hc⟩ := HCI.out _ HB6.out k hkl
                  have hpp : p + (cites[k].key.size + cites[k].pre.size + cites[k].suf.size) / 40 ≤ T2 := by have := HP.out; rw [citsW_drop hkl] at this; omega
                  have HP2 : Hid (p + (cites[k].key.size + cites[k].pre.size + cites[k].suf.size) / 40 + citsW (cites.drop (k + 1)) = T2) := Lib.hid (by have := HP.out; rw [citsW_drop hkl] at this; omega)
                  have hkk : (k : Int) < (cites.length : Int) := by omega
                  have hk00 : (0 : Int) ≤ (k : Int) := by omega
                  obtain ⟨s1, s2, s3⟩ := HO4.out _ (List.getElem_mem hkl)
                  unfold reachBytes at s1 s2 s3
                  have hd := div40 (cites[k].key.size + cites[k].pre.size + cites[k].suf.size)
                  rw [Int.natCast_add, Int.natCast_add] at hd
                  have hdb : (cites[k].key.size + cites[k].pre.size + cites[k].suf.size) / 40 ≤ 140737488351232 := by omega
                  have HCC := Lib.hid hc
                  clear hc
                  generalize cites[k].key = key at *
                  generalize cites[k].pre = pre at *
                  generalize cites[k].suf = suf at *
                  generalize cites[k].bare = bare at *
                  generalize hq : (key.size + pre.size + suf.size) / 40 = q at *
                  clear hq
                  have HB8 : Hid (Below W3.heap.size W3 (wq.alloc (.cells #[.string key, .string pre, .string suf, .bool bare] 55))) := Lib.hid (hbq.alloc hzq _)
                  have hcb := Blk.new wq 55 #[.string key, .string pre, .string suf, .bool bare]
                  have k0 : (wq.alloc (.cells #[.string key, .string pre, .string suf, .bool bare] 55)).cell? ⟨wq.heap.size, 0, none⟩ = some (.string key) := hcb.cell 0
                  have k1 : (wq.alloc (.cells #[.string key, .string pre, .string suf, .bool bare] 55)).cell? ⟨wq.heap.size, 1, none⟩ = some (.string pre) := hcb.cell 1
                  have k2 : (wq.alloc (.cells #[.string key, .string pre, .string suf, .bool bare] 55)).cell? ⟨wq.heap.size, 2, none⟩ = some (.string suf) := hcb.cell 2
                  clear hcb
                  go_wp2_with (first | (refine wpList_load_mid rfl 55 (.tmp 88) rfl ba (oa + k * 4) rfl _ _ HCC.out Try.underlying55 rfl cit_size ?_) | (refine wpList_store_row rfl 55 (.tmp 10) (.tmp 89) rfl wq.heap.size #[.string key, .string pre, .string suf, .bool bare] rfl rfl 55 _ (Blk.new wq _ _) cit_size (by rfl) (by simp [Value.oneCell']) ?_; rw [World.setRow_alloc_new]; generalize wq.alloc (.cells #[.string key, .string pre, .string suf, .bool bare] 55) = W9 at *))
                  go_roundw
                  case rel => exact ⟨k + 1, p + q, by omega, by go_num, by go_num, hpp, HP2, HB8⟩
                  case measure => simp [intOf]; omega
                · have hkc : k = cites.length := by omega
                  have hpT : p = T2 := by have := HP.out; rw [hkc, List.drop_length] at this; exact this
                  have dk : decide ((k : Int) < (cites.length : Int)) = false := decide_eq_false (by omega)
                  subst hpT
                  have HC := Lib.hid (HIC.out wq HB6.out)
                  clear HP hp hT12
                  go_wp2_with fail
                  ((with_reducible refine HC.out.mono ?_))
                  rintro e W4 ⟨rfl, b4⟩
                  have HB9 : Hid (Below w.heap.size w W4) := Lib.hid (HB7.out.trans (b4.mono HB7.out.size))
                  clear b4 HC
                  go_wp2_with fail
                  go_roundw
                  case rel => exact ⟨i + 1, p + K, by omega, by go_num, by go_num, by omega, HN3, HB9⟩
                  case measure => simp [intOf]; omega
    · have hil : i = l.length := by omega
      have hRn : R = n := by rw [← HN.out, hil, List.drop_length]; rfl
      subst hRn
      have dl : decide ((i : Int) < (l.length : Int)) = false := decide_eq_false (by omega)
      go_wp2_with fail
      go_ret
      exact ⟨rfl, HBw.out⟩

end Go.Proofs.Ytfnloonmeilhlaa
namespace Go.Proofs.Ytfnloonmeilhlaa
open Go.RowKit Go.Pub
theorem t_weight : ∀ f, f ≤ 21 → WgtH f
  | 0, _ => t_weight0
  | f + 1, h => t_weight1 f (by omega) (t_weight f (by omega))
theorem blk_size : (Try.prog.info? 49).map (·.size) = some 11 := by kernel_rfl
theorem blk_info : (Try.prog.info? 49).map (fun i => (i.zero, i.size, i.bytes)) = some (some (.agg #[.int .i64 0, .int .i64 0, .string ⟨#[]⟩, .string ⟨#[]⟩, .string ⟨#[]⟩, .string ⟨#[]⟩, .string ⟨#[]⟩, .slice none 0 0, .slice none 0 0, .slice none 0 0, .slice none 0 0]), 11, 192) := by kernel_rfl
/-- A block that has a line alone. -/
def lnB (A : Option Addr) (n c : Nat) : Array Value := #[.int .i64 0, .int .i64 0, .string ⟨#[]⟩, .string ⟨#[]⟩, .string ⟨#[]⟩, .string ⟨#[]⟩, .string ⟨#[]⟩, .slice none 0 0, .slice none 0 0, .slice A n c, .slice none 0 0]
theorem t_heavy0 (w : World) : Calls Try.prog 29 #[.slice none 0 0, .int .i64 1] w fun e w' => e = .returned (.int .i64 0) ∧ w' = w := by
  go_enter Try.func29, Try.ntmps29
  go_wp2_with fail
  go_loopw [5, 6] (fun v5 v6 wr => v5 = .int .i64 0 ∧ v6 = .int .i64 0 ∧ wr = w) (fun _ _ _ => 0)
  case atStart => exact ⟨rfl, rfl, rfl⟩
  case round =>
    obtain ⟨rfl, rfl, rfl⟩ := hrel
    go_wp2_with fail
    go_ret
    exact ⟨rfl, rfl⟩
set_option maxHeartbeats 4000000 in
set_option maxRecDepth 100000 in
theorem t_heavy1 {S : Nat → Prop} {A : Option Addr} {c g : Nat} {vs : List (Array Value)} {l : List InT} (w : World) (h1 : RepIs w S vs l) (h2 : ReadsS w S 10 A l.length (vs.flatMap Array.toList)) (hS : ∀ g, S g → g < w.heap.size) (ho : okL l) (hb : Blk w g 49 (lnB A l.length c)) :
    Calls Try.prog 29 #[.slice (some ⟨g, 0, none⟩) 1 1, .int .i64 0] w (IntP (1 + wgtF 21 l) w) := by
  have HW : Hid (∀ W, Below w.heap.size w W → Calls Try.prog 46 #[.slice A l.length c, .int .i64 0] W fun e w' => e = .returned (.int .i64 (wgtF 21 l)) ∧ Below W.heap.size W w') := Lib.hid fun W hW =>
    t_weight 21 (Nat.le_refl _) S W A c 0 vs l rfl (h1.keep (fun g hg => hW.block g (hS g hg)) fun _ h => h) (h2.keep (fun g hg => hW.block g (hS g hg)) fun _ h => h) (fun g hg => Nat.lt_of_lt_of_le (hS g hg) hW.size) ho
  have hwb := wgtF_le 21 l ho
  have hm := h2.1.2
  unfold maxLen at hm
  generalize wgtF 21 l = K at *
  have HLG := Lib.hid fun (W : World) => t_long (S := fun _ => False) (A1 := none) (A2 := none) (c1 := 0) (c2 := 0) (a := noAt) W ReadsS.none_ ReadsS.none_ (fun _ h => h.elim) ⟨Nat.zero_le _, fun _ h => absurd h (by simp [noAt]), fun _ h => absurd h (by simp [noAt])⟩
  have hlg : longA noAt = false := by decide +kernel
  rw [hlg] at HLG
  have HLG : Hid (∀ W : World, Calls Try.prog 45 #[.agg #[.string ⟨#[]⟩, .slice none 0 0, .slice none 0 0]] W (BoolP false W)) := HLG
  have hgw := hb.lt
  have HBK := Lib.hid hb
  clear h1 h2 hS ho hb hlg
  go_enter Try.func29, Try.ntmps29
  go_wp2_with fail
  go_loopw [5, 6] (fun v5 v6 wr => ∃ i n : Nat, v5 = .int .i64 n ∧ v6 = .int .i64 i ∧ (i = 0 ∧ n = 1 ∨ i = 1 ∧ n = 1 + K) ∧ Hid (Below w.heap.size w wr)) (fun _ v6 _ => 1 - (intOf v6).toNat)
  case atStart => exact ⟨0, 1, rfl, rfl, .inl ⟨rfl, rfl⟩, Lib.hid (Below.refl _ w)⟩
  case round =>
    obtain ⟨i, n, rfl, rfl, hin, HBw⟩ := hrel
    rcases hin with ⟨rfl, rfl⟩ | ⟨rfl, rfl⟩
    · have hbw := HBw.out
      have hzw := hbw.size
      have HBK1 : Hid (Blk wr g 49 (lnB A l.length c)) := Lib.hid (HBK.out.below hbw hgw)
      have HB2 : Hid (Below wr.heap.size wr (wr.alloc (.cells (lnB A l.length c) 49))) := Lib.hid ((Below.refl _ wr).alloc (Nat.le_refl _) _)
      have hbk := Blk.new wr 49 (lnB A l.length c)
      have HBK2 := Lib.hid hbk
      have hz2 : (wr.alloc (.cells (lnB A l.length c) 49)).heap.size = wr.heap.size + 1 := by simp
      have x2 : (wr.alloc (.cells (lnB A l.length c) 49)).cell? ⟨wr.heap.size, 2, none⟩ = some (.string ⟨#[]⟩) := hbk.cell 2
      have x3 : (wr.alloc (.cells (lnB A l.length c) 49)).cell? ⟨wr.heap.size, 3, none⟩ = some (.string ⟨#[]⟩) := hbk.cell 3
      have x4 : (wr.alloc (.cells (lnB A l.length c) 49)).cell? ⟨wr.heap.size, 4, none⟩ = some (.string ⟨#[]⟩) := hbk.cell 4
      have x5 : (wr.alloc (.cells (lnB A l.length c) 49)).cell? ⟨wr.heap.size, 5, none⟩ = some (.string ⟨#[]⟩) := hbk.cell 5
      have x6 : (wr.alloc (.cells (lnB A l.length c) 49)).cell? ⟨wr.heap.size, 6, none⟩ = some (.string ⟨#[]⟩) := hbk.cell 6
      have x7 : (wr.alloc (.cells (lnB A l.length c) 49)).cell? ⟨wr.heap.size, 7, none⟩ = some (.slice none 0 0) := hbk.cell 7
      have x8 : (wr.alloc (.cells (lnB A l.length c) 49)).cell? ⟨wr.heap.size, 8, none⟩ = some (.slice none 0 0) := hbk.cell 8
      clear hbk hbw
      have HZ2 := Lib.hid hz2
      clear hz2
      go_wp2_with (first | (refine wpList_load_row rfl 49 (.tmp 28) rfl g rfl 49 (lnB A l.length c) _ _ HBK1.out Try.underlying49 rfl blk_size ?_) | (refine wpList_store_row rfl 49 (.tmp 7) (.tmp 29) rfl wr.heap.size (lnB A l.length c) rfl rfl 49 _ (Blk.new wr _ _) blk_size (by rfl) (by simp [lnB, Value.oneCell']) ?_; rw [World.setRow_alloc_new]; generalize wr.alloc (.cells (lnB A l.length c) 49) = W1 at *))
      ((with_reducible refine (HLG.out W1).mono ?_))
      rintro e W2 ⟨rfl, b2⟩
      have HBK3 : Hid (Blk W2 wr.heap.size 49 (lnB A l.length c)) := Lib.hid (HBK2.out.below b2 HBK2.out.lt)
      have HB3 : Hid (Below w.heap.size w W2) := Lib.hid (HBw.out.trans ((HB2.out.trans (b2.mono (by have := HZ2.out; omega))).mono hzw))
      have hz2b : wr.heap.size + 1 ≤ W2.heap.size := by have := b2.size; have := HZ2.out; omega
      have HS : Hid (∀ W, Below W2.heap.size W2 W → W.cell? ⟨wr.heap.size, 9, none⟩ = some (.slice A l.length c) ∧ W.cell? ⟨wr.heap.size, 10, none⟩ = some (.slice none 0 0) ∧ Below W2.heap.size W2 W) := Lib.hid fun W hW =>
        ⟨(hW.cell (p := ⟨wr.heap.size, 9, none⟩) (by show wr.heap.size < _; omega)).trans (HBK3.out.cell 9), (hW.cell (p := ⟨wr.heap.size, 10, none⟩) (by show wr.heap.size < _; omega)).trans (HBK3.out.cell 10), hW⟩
      have HC1 : Hid (∀ W, Below W2.heap.size W2 W → Calls Try.prog 46 #[.slice A l.length c, .int .i64 0] W fun e w' => e = .returned (.int .i64 K) ∧ Below W2.heap.size W2 w') := Lib.hid fun W hW => (HW.out W (HB3.out.trans (hW.mono HB3.out.size))).mono fun e w' h => ⟨h.1, hW.trans (h.2.mono hW.size)⟩
      have HC2 : Hid (∀ W, Below W2.heap.size W2 W → Calls Try.prog 29 #[.slice none 0 0, .int .i64 1] W fun e w' => e = .returned (.int .i64 0) ∧ Below W2.heap.size W2 w') := Lib.hid fun W hW => (t_heavy0 W).mono fun e w' h => ⟨h.1, by rw [h.2]; exact hW⟩
      have HEND : Hid (∀ W, Below W2.heap.size W2 W → Hid (Below w.heap.size w W)) := Lib.hid fun W hW => Lib.hid (HB3.out.trans (hW.mono HB3.out.size))
      have HB0 : Hid (Below W2.heap.size W2 W2) := Lib.hid (Below.refl _ _)
      obtain ⟨s0, s1, s2⟩ := HS.out W2 HB0.out
      have hw1 : IntKind.i64.wrap 1 = 1 := by decide
      have hw2 : IntKind.i64.wrap (K : Int) = (K : Int) := IntWalk.i64_in _ (by omega)
      have hw3 : IntKind.i64.wrap (1 + (K : Int)) = 1 + (K : Int) := IntWalk.i64_in _ (by omega)
      clear x2 x3 x4 x5 x6 x7 x8 b2 HLG HBK3 HB3 HW
      go_wp2_with fail
      go_region_held3 (fun w' => w'.cell? ⟨wr.heap.size, 9, none⟩ = some (.slice A l.length c) ∧ w'.cell? ⟨wr.heap.size, 10, none⟩ = some (.slice none 0 0) ∧ Below W2.heap.size W2 w')
        (first | exact HS.out _ b1 | exact HS.out _ HB0.out.drew | go_keep)
        (first
          | (go_at_call 46; (with_reducible refine (HC1.out _ (by assumption : _ ∧ _ ∧ Below W2.heap.size W2 _).2.2).mono ?_); rintro e W3 ⟨rfl, b1⟩)
          | (go_at_call 29; (with_reducible refine (HC2.out _ (by assumption : _ ∧ _ ∧ Below W2.heap.size W2 _).2.2).mono ?_); rintro e W3 ⟨rfl, b1⟩))
      go_wp2_with fail
      go_roundw
      case rel => exact ⟨1, 1 + K, by go_num, rfl, .inr ⟨rfl, rfl⟩, HEND.out _ b1⟩
      case measure => simp [intOf]
    · go_wp2_with fail
      go_ret
      exact ⟨by go_num, HBw.out⟩

set_option maxHeartbeats 4000000 in
set_option maxRecDepth 100000 in
theorem t_Small {S : Nat → Prop} {A : Option Addr} {c g : Nat} {vs : List (Array Value)} {l : List InT} (w : World) (h1 : RepIs w S vs l) (h2 : ReadsS w S 10 A l.length (vs.flatMap Array.toList)) (hS : ∀ g, S g → g < w.heap.size) (ho : okL l) (hb : Blk w g 49 (lnB A l.length c)) :
    Calls Try.prog 21 #[.agg #[.slice none 0 0, .slice (some ⟨g, 0, none⟩) 1 1]] w (BoolP (decide (1 + wgtF 21 l ≤ 120)) w) := by
  have HH : Hid (∀ W, Below w.heap.size w W → Calls Try.prog 29 #[.slice (some ⟨g, 0, none⟩) 1 1, .int .i64 0] W (IntP (1 + wgtF 21 l) W)) := Lib.hid fun W hW =>
    t_heavy1 W (h1.keep (fun g hg => hW.block g (hS g hg)) fun _ h => h) (h2.keep (fun g hg => hW.block g (hS g hg)) fun _ h => h) (fun g hg => Nat.lt_of_lt_of_le (hS g hg) hW.size) ho (hb.below hW hb.lt)
  have hbx : Below w.heap.size w (w.alloc (.cells #[.slice none 0 0, .slice (some ⟨g, 0, none⟩) 1 1] 51)) := (Below.refl _ w).alloc (Nat.le_refl _) _
  have HBX := Lib.hid hbx
  have HC := Lib.hid (HH.out _ hbx)
  have x0 : (w.alloc (.cells #[.slice none 0 0, .slice (some ⟨g, 0, none⟩) 1 1] 51)).cell? ⟨w.heap.size, 0, none⟩ = some (.slice none 0 0) := (Blk.new w 51 #[.slice none 0 0, .slice (some ⟨g, 0, none⟩) 1 1]).cell 0
  have x1 : (w.alloc (.cells #[.slice none 0 0, .slice (some ⟨g, 0, none⟩) 1 1] 51)).cell? ⟨w.heap.size, 1, none⟩ = some (.slice (some ⟨g, 0, none⟩) 1 1) := (Blk.new w 51 #[.slice none 0 0, .slice (some ⟨g, 0, none⟩) 1 1]).cell 1
  generalize wgtF 21 l = K at *
  clear hbx HH h1 h2 hS ho hb
  go_enter Try.func21, Try.ntmps21
  go_wp2_with fail
  generalize w.alloc (.cells #[.slice none 0 0, .slice (some ⟨g, 0, none⟩) 1 1] 51) = W1 at *
  go_loopw [3] (fun v3 wr => v3 = .int .i64 0 ∧ wr = W1) (fun _ _ => 0)
  case atStart => exact ⟨rfl, rfl⟩
  case round =>
    obtain ⟨rfl, rfl⟩ := hrel
    go_wp2_with fail
    ((with_reducible refine HC.out.mono ?_))
    rintro e W2 ⟨rfl, b2⟩
    have HF : Hid (BoolP (decide (1 + K ≤ 120)) w (.returned (.bool (decide (((1 + K : Nat) : Int) ≤ 120)))) W2) := Lib.hid ⟨by congr 2; exact decide_eq_decide.2 (by omega), HBX.out.trans (b2.mono HBX.out.size)⟩
    clear b2 HC
    go_wp2_with fail
    go_ret
    exact HF.out

theorem bl_fill (A : Option Addr) (n c : Nat) : Instr.fill (fun i => some (i * 11, 11)) ((Array.range (1 * 11)).map ((Value.agg (lnB none 0 0)).cells[· % (Value.agg (lnB none 0 0)).cells.size]!)) [(0, .agg (lnB A n c))] = some (lnB A n c) := by kernel_rfl
theorem wpList_blSlice {ops : Array Oper} {rest : List Oper} {o : Oper} {a : Act} {w : World} {Q : Exit → Act → World → Prop} (hg : o.guard = none) (x : Operand) (ho : o.op = .buildSlice 47 1 #[(0, x)]) (A : Option Addr) (n c : Nat) (hx : a.eval x = .agg (lnB A n c))
    (h : wpList Try.prog ops Q rest (a.put o.dst (.slice (some ⟨w.heap.size, 0, none⟩) 1 1)) (w.alloc (.cells (lnB A n c) 49))) : wpList Try.prog ops Q (o :: rest) a w := by
  obtain ⟨i0, hi0, hz0, hz1, hz2⟩ := info_parts blk_info
  refine wpList_buildSlice hg 47 49 1 _ ho _ i0 _ Try.underlying47 hi0 hz0 (by rw [hz1]; decide) (by rw [hz1]; decide) ?_ h
  rw [hz1]
  have e : (#[((0 : Nat), x)].map fun (q : Nat × Operand) => (q.1, a.eval q.2)).toList = [(0, a.eval x)] := by simp
  rw [hx] at e
  show Instr.fill _ _ (#[((0 : Nat), x)].map fun (q : Nat × Operand) => (q.1, a.eval q.2)).toList = _
  rw [e]
  exact bl_fill A n c
/-- The pieces looked at are short. -/
def FewN (ps : List PcT) (i : Nat) : Prop := ∀ j, j < i → (pcX ps j).ch.size ≤ 9 ∧ (pcX ps j).n ≤ 40
/-- The inlines so far lie in a row of the call's own. -/
def FwW (w : World) (S : Nat → Prop) (ps : List PcT) (i : Nat) (v : Value) (wr : World) : Prop :=
  FewN ps i ∧ (∃ vs, RepIs wr S vs ((ps.map (·.inl)).take i) ∧ wr.ownsRow w.heap.size 37 10 v i (vs.flatMap Array.toList)) ∧ Below w.heap.size w wr
theorem fewP_no {ps : List PcT} {i : Nat} (hi : i < ps.length) (h : ¬ ((pcX ps i).ch.size ≤ 9 ∧ (pcX ps i).n ≤ 40)) : fewP ps = false := by
  have e : pcX ps i = ps[i] := by unfold pcX; rw [List.getD_eq_getElem?_getD, List.getElem?_eq_getElem hi]; rfl
  rw [e] at h
  unfold fewP
  have : (ps.all fun p => decide (p.ch.size ≤ 9) && decide (p.n ≤ 40)) = false := by
    rw [List.all_eq_false]
    exact ⟨ps[i], List.getElem_mem hi, by simpa using h⟩
  rw [this]; simp
theorem fewP_yes {ps : List PcT} (hl : ps.length ≤ 40) (h : FewN ps ps.length) : fewP ps = decide (1 + wgtF 21 (ps.map (·.inl)) ≤ 120) := by
  unfold fewP
  have : (ps.all fun p => decide (p.ch.size ≤ 9) && decide (p.n ≤ 40)) = true := by
    rw [List.all_eq_true]
    intro p hp
    obtain ⟨i, hi, rfl⟩ := List.mem_iff_getElem.1 hp
    have e : pcX ps i = ps[i] := by unfold pcX; rw [List.getD_eq_getElem?_getD, List.getElem?_eq_getElem hi]; rfl
    have := h i hi
    rw [e] at this
    simpa using this
  rw [this]; simp [hl]
set_option maxHeartbeats 4000000 in
set_option maxRecDepth 100000 in
theorem t_few {S : Nat → Prop} {L : Value} {ps : List PcT} (w : World) (hL : PcsR w S L ps) (hS : ∀ g, S g → g < w.heap.size) (ho : OkPs ps) :
    Calls Try.prog 9 #[L] w (BoolP (fewP ps) w) := by
  obtain ⟨A0, c0, vs0, hL0, -⟩ := id hL
  subst hL0
  have hm := ho.1
  unfold maxLen at hm
  have HOK := Lib.hid ho.2
  by_cases h40 : 40 < ps.length
  · have hF : fewP ps = false := by unfold fewP; rw [decide_eq_false (by omega)]; rfl
    rw [hF]
    have h40' : (40 : Int) < (ps.length : Int) := by omega
    clear hL hF ho HOK
    go_enter Try.func9, Try.ntmps9
    go_wp2_with fail
    go_ret
    exact ⟨rfl, Below.refl _ w⟩
  have h40' : decide ((40 : Int) < (ps.length : Int)) = false := decide_eq_false (by omega)
  have hl40 : ps.length ≤ 40 := by omega
  have HL := Lib.hid hL
  have HS := Lib.hid hS
  obtain ⟨i0, hi0, hz0, hz1, hz2⟩ := info_parts inl_info
  have H0 : Hid (FwW w S ps 0 (.slice none 0 0) w) := Lib.hid ⟨fun j hj => absurd hj (by omega), ⟨[], .nil, World.ownsRow_nil _ _ _ _⟩, Below.refl _ w⟩
  clear hL hS ho
  go_enter Try.func9, Try.ntmps9
  go_wp2_with fail
  clear h40'
  go_loopw [3, 4] (fun v3 v4 wr => ∃ i : Nat, i ≤ ps.length ∧ v4 = .int .i64 i ∧ Hid (FwW w S ps i v3 wr)) (fun _ v4 _ => ps.length - (intOf v4).toNat)
  case atStart => exact ⟨0, Nat.zero_le _, rfl, H0⟩
  case round =>
    clear H0
    obtain ⟨i, hi, rfl, HI⟩ := hrel
    obtain ⟨hfn, ⟨vs, hrep, hown⟩, hbw⟩ := HI.out
    obtain ⟨A3, c3, hv3, -, -⟩ := own_form hown
    subst hv3
    have hzw := hbw.size
    by_cases hlt : i < ps.length
    · have hLr : PcsR wr S (.slice A0 ps.length c0) ps := HL.out.keep (fun g hg => hbw.block g (HS.out g hg)) fun _ h => h
      obtain ⟨b, off, c, e, hb, hat⟩ := hLr.opn (by omega)
      obtain ⟨x0, x1, x2, x3, x4, x5, x6, x7, x8, x9, hr, hrg, hone⟩ := hat i hlt
      injection e with e1 e2 e3
      subst e1
      subst e3
      have hch : wr.cell? ⟨b, off + i * 18 + 11, none⟩ = some (.string (pcX ps i).ch) := hrg 11 _ rfl
      have hcn : wr.cell? ⟨b, off + i * 18 + 12, none⟩ = some (.int .i64 (pcX ps i).n) := hrg 12 _ rfl
      have hii : (i : Int) < (ps.length : Int) := by omega
      have hi00 : (0 : Int) ≤ (i : Int) := by omega
      have epc : pcX ps i = ps[i] := by unfold pcX; rw [List.getD_eq_getElem?_getD, List.getElem?_eq_getElem hlt]; rfl
      have hok := HOK.out (pcX ps i) (by rw [epc]; exact List.getElem_mem hlt)
      obtain ⟨-, hcs, hn1, hn2⟩ := hok
      unfold reachBytes at hcs
      by_cases hs9 : 9 < (pcX ps i).ch.size
      · have hs9' : (9 : Int) < ((pcX ps i).ch.size : Int) := by omega
        have HF : Hid (BoolP (fewP ps) w (.returned (.bool false)) wr) := Lib.hid ⟨by rw [fewP_no hlt (fun h => by omega)], hbw⟩
        clear hfn hrep hown hbw hLr hat hr hrg hone HI HOK
        clear epc
        generalize (pcX ps i).ch = ch at *
        generalize (pcX ps i).n = pn at *
        go_wp2_with fail
        go_ret
        exact HF.out
      have hs9' : decide ((9 : Int) < ((pcX ps i).ch.size : Int)) = false := decide_eq_false (by omega)
      by_cases hn40 : 40 < (pcX ps i).n
      · have HF : Hid (BoolP (fewP ps) w (.returned (.bool false)) wr) := Lib.hid ⟨by rw [fewP_no hlt (fun h => by omega)], hbw⟩
        clear hfn hrep hown hbw hLr hat hr hrg hone HI HOK
        clear epc
        generalize (pcX ps i).ch = ch at *
        generalize (pcX ps i).n = pn at *
        go_wp2_with fail
        go_ret
        exact HF.out
      have hn40' : decide (40 < (pcX ps i).n) = false := decide_eq_false hn40
      have HG : Hid (wr.rangeAt b (off + i * 18 + 1) [x0, x1, x2, x3, x4, x5, x6, x7, x8, x9]) := Lib.hid fun j u hj => by
        have hj10 := (List.getElem?_eq_some_iff.1 hj).1
        simp only [List.length_cons, List.length_nil] at hj10
        rw [Nat.add_assoc (off + i * 18) 1 j]
        refine hrg (1 + j) u ?_
        rw [← hj, Nat.add_comm 1 j]
        match j, hj10 with
        | 0, _ => rfl
        | 1, _ => rfl
        | 2, _ => rfl
        | 3, _ => rfl
        | 4, _ => rfl
        | 5, _ => rfl
        | 6, _ => rfl
        | 7, _ => rfl
        | 8, _ => rfl
        | 9, _ => rfl
      have HV1 := Lib.hid hr.one
      have HOWN := Lib.hid (own_below hown ((Below.refl _ wr).alloc (Nat.le_refl _) (.cells #[x0, x1, x2, x3, x4, x5, x6, x7, x8, x9] 37)))
      have HPU : Hid (∀ (W7 : World) (g7 cap7 : Nat), W7.ownsRow w.heap.size 37 10 (.slice (some ⟨g7, 0, none⟩) (i + 1) cap7) (i + 1) (vs.flatMap Array.toList ++ [x0, x1, x2, x3, x4, x5, x6, x7, x8, x9]) → (wr.alloc (.cells #[x0, x1, x2, x3, x4, x5, x6, x7, x8, x9] 37)).grownBy W7 (Value.slice A3 i c3).ownBlock → FwW w S ps (i + 1) (.slice (some ⟨g7, 0, none⟩) (i + 1) cap7) W7) := Lib.hid fun W7 g7 cap7 h7 hgr => by
        have hbel : Below w.heap.size w W7 := ((hbw.alloc hzw _).grown hgr (by simp; omega) fun k hk => (hown.lt k hk).1)
        have hk : ∀ g, S g → W7.heap[g]? = wr.heap[g]? := fun g hg => (hbel.block g (HS.out g hg)).trans (hbw.block g (HS.out g hg)).symm
        refine ⟨fun j hj => ?_, ⟨vs ++ [#[x0, x1, x2, x3, x4, x5, x6, x7, x8, x9]], ?_, ?_⟩, hbel⟩
        · rcases Nat.lt_or_ge j i with hji | hji
          · exact hfn j hji
          · obtain rfl : j = i := by omega
            exact ⟨by omega, by omega⟩
        · have hlm : i < (ps.map (·.inl)).length := by rw [List.length_map]; exact hlt
          rw [List.take_succ_eq_append_getElem hlm, List.getElem_map, ← epc]
          exact (hrep.keep hk fun _ h => h).snoc (hr.keep hk fun _ h => h)
        · rw [List.flatMap_append, List.flatMap_singleton]; exact h7
      clear hfn hrep hown hLr hat hr hrg hone HI
      clear epc
      generalize (pcX ps i).ch = ch at *
      generalize (pcX ps i).n = pn at *
      go_wp2_with (first | (refine wpList_load_mid rfl 37 (.tmp 33) rfl b (off + i * 18 + 1) rfl _ _ HG.out Try.underlying37 rfl inl_size ?_) | (refine wpList_inSlice rfl (.tmp 34) rfl x0 x1 x2 x3 x4 x5 x6 x7 x8 x9 rfl ?_) | (at_builtin; refine wpList_append_lies _ rfl _ _ 26 rfl w.heap.size 37 i0 _ 10 192 Try.underlying26 hi0 hz0 hz1 hz2 rfl (by decide) _ _ _ rfl HOWN.out ⟨wr.heap.size, 0, none⟩ 1 1 [x0, x1, x2, x3, x4, x5, x6, x7, x8, x9] rfl rfl ?c1 ?c2 (by decide) ?c3 ?c4 ?c5 (wr.heap.size + 1) ?c6 ?_))
      case c2 => simpa using HV1.out
      case c3 => unfold maxLen; omega
      case c4 => omega
      case c5 => omega
      intro g7 cap7 W7 hown hgrow hlies hlt7
      have HF := Lib.hid (HPU.out W7 g7 cap7 hown hgrow)
      clear hown hgrow hlies hlt7 HPU
      go_wp2_with fail
      go_roundw
      case rel => exact ⟨i + 1, by omega, by go_num, HF⟩
      case measure => simp [intOf]; omega
    · obtain rfl : i = ps.length := by omega
      have hfy := fewP_yes hl40 hfn
      have htk : (ps.map (·.inl)).take ps.length = ps.map (·.inl) := by rw [← List.length_map (f := fun p : PcT => p.inl), List.take_length]
      rw [htk] at hrep
      have hll : (ps.map (·.inl)).length = ps.length := List.length_map _
      have hokl : okL (ps.map (·.inl)) := okL_of _ fun t ht => by
        obtain ⟨p, hp, rfl⟩ := List.mem_map.1 ht
        exact (HOK.out p hp).1
      have HB2 : Hid (Below wr.heap.size wr (wr.alloc (.cells (lnB A3 ps.length c3) 49))) := Lib.hid ((Below.refl _ wr).alloc (Nat.le_refl _) _)
      have hSM := Lib.hid (t_Small (S := fun g => S g ∨ (w.heap.size ≤ g ∧ g < wr.heap.size)) (A := A3) (c := c3) (g := wr.heap.size) (vs := vs) (l := ps.map (·.inl)) (wr.alloc (.cells (lnB A3 ps.length c3) 49)) (hrep.keep (fun g hg => HB2.out.block g (Nat.lt_of_lt_of_le (HS.out g hg) hzw)) fun _ h => .inl h) (by
        rw [hll]
        exact (ReadsS.of_own hown).keep (fun g hg => HB2.out.block g hg.2) fun _ h => .inr h) (fun g hg => Nat.lt_of_lt_of_le (by
        rcases hg with hg | hg
        · exact Nat.lt_of_lt_of_le (HS.out g hg) hzw
        · exact hg.2) HB2.out.size) hokl (by rw [hll]; exact Blk.new wr _ _))
      rw [← hfy] at hSM
      have HB3 : Hid (Below w.heap.size w (wr.alloc (.cells (lnB A3 ps.length c3) 49))) := Lib.hid (hbw.alloc hzw _)
      clear hfn hrep hown hbw HI hfy hokl
      have hln : (#[.int .i64 0, .int .i64 0, .string ⟨#[]⟩, .string ⟨#[]⟩, .string ⟨#[]⟩, .string ⟨#[]⟩, .string ⟨#[]⟩, .slice none 0 0, .slice none 0 0, .slice A3 ps.length c3, .slice none 0 0] : Array Value) = lnB A3 ps.length c3 := rfl
      go_wp2_with (refine wpList_blSlice rfl (.tmp 38) rfl A3 ps.length c3 rfl ?_; generalize wr.alloc (.cells (lnB A3 ps.length c3) 49) = W3 at *)
      ((with_reducible refine hSM.out.mono ?_))
      rintro e W4 ⟨rfl, b4⟩
      have HF := Lib.hid (HB3.out.trans (b4.mono HB3.out.size))
      clear b4 hSM
      go_wp2_with fail
      go_ret
      exact ⟨rfl, HF.out⟩

end Go.Proofs.Ytfnloonmeilhlaa
