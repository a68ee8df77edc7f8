/-
  Texts of the proof, put together (what this law reaches): Row, EmRA, EmK, EmL, MidC, EmM, EmN.
-/
import Derived.Below
import Derived.ChangeSame
import Derived.ProofKit
import Derived.Test.YtfnloonmeilhlaaX03
import Derived.ChangeArms
import Derived.Deep.Slices
import Derived.DataReads
import Derived.OpenShut
import Derived.KernelRfl
import Derived.Deep.CutRange
import Derived.WalkMore
import Derived.Test.YtfnloonmeilhlaaX02
import Derived.Deep.MidRow
import Derived.Deep.AppendLies
set_option linter.unusedVariables false
set_option linter.unusedSimpArgs false
namespace Go.Pub
open Go.RowKit Go.WideShapes Go.ChangeShapes
section
variable {H : Type} {enc : TypeId × Value → H} {P : Program}
theorem post_of_below {f : Func} {s : ChangeSpec} {apart fresh handsOn again : Bool} {W W' : World} {args : Array Value} {v : Value} {ds gs : List (DataW H)} {before pa pv : List MemPlace}
    (hW : DataW.Whole enc P f.params.toList s.vars apart W args.toList ds gs before)
    (hres : ∀ (b : Nat) (sp : Nat → Bool) (hd : Bool), DataW.TrodAll enc P W' b sp hd f.resultTypes.toList (v.resultList f.resultTypes.size) (s.fn H (ds ++ gs)).results [])
    (hargs : ∀ sp : Nat → Bool, (∀ p ∈ before, sp p.block = true) → DataW.TrodAll enc P W' 0 sp true f.params.toList args.toList (s.fn H (ds ++ gs)).args pa)
    (hvars : ∀ sp : Nat → Bool, (∀ p ∈ before, sp p.block = true) → DataW.TrodVars enc P W' sp s.vars (s.fn H (ds ++ gs)).vars pv)
    (hps : before = pa ++ pv) (hb : Below W.heap.size W W')
    (hok : ∀ (j : Nat) (t : TypeId) (r : Value), f.resultTypes[j]? = some t → (v.resultList f.resultTypes.size)[j]? = some r → Value.okWide P W' .any 0 t r) :
    s.post enc P f apart fresh handsOn again W args v W' := by
  have hlt : ∀ p ∈ before, p.block < W.heap.size := fun p hp => hW.lt p hp
  have hold : ∀ p ∈ before, (fun b => decide (b < W.heap.size)) p.block = true := fun p hp => by simpa using hlt p hp
  refine ⟨ds, gs, before, [], pa, pv, hW, hres _ _ _, hargs _ hold, hvars _ hold, World.keptBut_mono (fun p hp => ⟨hp, ?_⟩) (hb.frame (· ∈ before)), fun _ => ?_⟩
  · rw [hps, List.mem_append] at hp
    exact Or.inr hp
  · obtain ⟨_, _, _, _, _, hz, hn⟩ := hW
    refine ⟨hok, _, _, ([] ++ pa) ++ pv, ⟨[] ++ pa, pv, trodAll_append (hargs _ (fun _ _ => rfl)) (hres _ _ _), hvars _ (fun _ _ => rfl), rfl, ?_, ?_⟩, ?_⟩
    · intro b off hp
      have hin : MemPlace.cell b off ∈ before := by rw [hps]; simpa using hp
      rw [hb.frozen (hlt _ hin)]
      exact hz b off hin
    · intro ha
      have := hn ha
      rw [hps] at this
      simpa using this
    · intro p hp _
      rw [hps]
      simpa using hp
end
end Go.Pub
namespace Go.Pub
open Go.ChangeShapes Go.WideShapes Go.RowKit
def OkA (a : AttrL) : Prop := a.id.size ≤ reachBytes ∧ (∀ s ∈ a.cl, s.size ≤ reachBytes) ∧ ∀ x ∈ a.pr, x.1.size ≤ reachBytes ∧ x.2.size ≤ reachBytes
mutual
/-- No string is longer than memory. -/
def okI : InT → Prop
  | .mk _ t d ti a ar c kids => (t.size ≤ reachBytes ∧ d.size ≤ reachBytes ∧ ti.size ≤ reachBytes) ∧ OkA a ∧ (∀ s ∈ ar, s.size ≤ reachBytes) ∧ (∀ x ∈ c, x.key.size ≤ reachBytes ∧ x.pre.size ≤ reachBytes ∧ x.suf.size ≤ reachBytes) ∧ okL kids
def okL : List InT → Prop
  | [] => True
  | x :: l => okI x ∧ okL l
end
theorem okL_of : ∀ (l : List InT), (∀ x ∈ l, okI x) → okL l
  | [], _ => by rw [okL]; trivial
  | x :: l, h => by rw [okL]; exact ⟨h x (by simp), okL_of l fun y hy => h y (List.mem_cons_of_mem _ hy)⟩
theorem okL_mem : ∀ (l : List InT), okL l → ∀ x ∈ l, okI x
  | x :: l, h, y, hy => by
    rw [okL] at h
    rcases List.mem_cons.1 hy with rfl | hy
    · exact h.1
    · exact okL_mem l h.2 y hy
theorem len2 {α : Type} {cs : List α} (h : cs.length = 2) : ∃ a0 a1, cs = [a0, a1] := by
  obtain ⟨a0, cs, rfl⟩ := List.exists_cons_of_length_eq_add_one h
  have h := Nat.succ.inj h
  obtain ⟨a1, cs, rfl⟩ := List.exists_cons_of_length_eq_add_one h
  have h := Nat.succ.inj h
  obtain rfl := List.eq_nil_of_length_eq_zero h
  exact ⟨_, _, rfl⟩
theorem len3 {α : Type} {cs : List α} (h : cs.length = 3) : ∃ a0 a1 a2, cs = [a0, a1, a2] := by
  obtain ⟨a0, cs, rfl⟩ := List.exists_cons_of_length_eq_add_one h
  have h := Nat.succ.inj h
  obtain ⟨a1, cs, rfl⟩ := List.exists_cons_of_length_eq_add_one h
  have h := Nat.succ.inj h
  obtain ⟨a2, cs, rfl⟩ := List.exists_cons_of_length_eq_add_one h
  have h := Nat.succ.inj h
  obtain rfl := List.eq_nil_of_length_eq_zero h
  exact ⟨_, _, _, rfl⟩
theorem len4 {α : Type} {cs : List α} (h : cs.length = 4) : ∃ a0 a1 a2 a3, cs = [a0, a1, a2, a3] := by
  obtain ⟨a0, cs, rfl⟩ := List.exists_cons_of_length_eq_add_one h
  have h := Nat.succ.inj h
  obtain ⟨a1, cs, rfl⟩ := List.exists_cons_of_length_eq_add_one h
  have h := Nat.succ.inj h
  obtain ⟨a2, cs, rfl⟩ := List.exists_cons_of_length_eq_add_one h
  have h := Nat.succ.inj h
  obtain ⟨a3, cs, rfl⟩ := List.exists_cons_of_length_eq_add_one h
  have h := Nat.succ.inj h
  obtain rfl := List.eq_nil_of_length_eq_zero h
  exact ⟨_, _, _, _, rfl⟩
theorem len10 {α : Type} {cs : List α} (h : cs.length = 10) : ∃ a0 a1 a2 a3 a4 a5 a6 a7 a8 a9, cs = [a0, a1, a2, a3, a4, a5, a6, a7, a8, a9] := by
  obtain ⟨a0, cs, rfl⟩ := List.exists_cons_of_length_eq_add_one h
  have h := Nat.succ.inj h
  obtain ⟨a1, cs, rfl⟩ := List.exists_cons_of_length_eq_add_one h
  have h := Nat.succ.inj h
  obtain ⟨a2, cs, rfl⟩ := List.exists_cons_of_length_eq_add_one h
  have h := Nat.succ.inj h
  obtain ⟨a3, cs, rfl⟩ := List.exists_cons_of_length_eq_add_one h
  have h := Nat.succ.inj h
  obtain ⟨a4, cs, rfl⟩ := List.exists_cons_of_length_eq_add_one h
  have h := Nat.succ.inj h
  obtain ⟨a5, cs, rfl⟩ := List.exists_cons_of_length_eq_add_one h
  have h := Nat.succ.inj h
  obtain ⟨a6, cs, rfl⟩ := List.exists_cons_of_length_eq_add_one h
  have h := Nat.succ.inj h
  obtain ⟨a7, cs, rfl⟩ := List.exists_cons_of_length_eq_add_one h
  have h := Nat.succ.inj h
  obtain ⟨a8, cs, rfl⟩ := List.exists_cons_of_length_eq_add_one h
  have h := Nat.succ.inj h
  obtain ⟨a9, cs, rfl⟩ := List.exists_cons_of_length_eq_add_one h
  have h := Nat.succ.inj h
  obtain rfl := List.eq_nil_of_length_eq_zero h
  exact ⟨_, _, _, _, _, _, _, _, _, _, rfl⟩
theorem len18 {α : Type} {cs : List α} (h : cs.length = 18) : ∃ a0 a1 a2 a3 a4 a5 a6 a7 a8 a9 a10 a11 a12 a13 a14 a15 a16 a17, cs = [a0, a1, a2, a3, a4, a5, a6, a7, a8, a9, a10, a11, a12, a13, a14, a15, a16, a17] := by
  obtain ⟨a0, cs, rfl⟩ := List.exists_cons_of_length_eq_add_one h
  have h := Nat.succ.inj h
  obtain ⟨a1, cs, rfl⟩ := List.exists_cons_of_length_eq_add_one h
  have h := Nat.succ.inj h
  obtain ⟨a2, cs, rfl⟩ := List.exists_cons_of_length_eq_add_one h
  have h := Nat.succ.inj h
  obtain ⟨a3, cs, rfl⟩ := List.exists_cons_of_length_eq_add_one h
  have h := Nat.succ.inj h
  obtain ⟨a4, cs, rfl⟩ := List.exists_cons_of_length_eq_add_one h
  have h := Nat.succ.inj h
  obtain ⟨a5, cs, rfl⟩ := List.exists_cons_of_length_eq_add_one h
  have h := Nat.succ.inj h
  obtain ⟨a6, cs, rfl⟩ := List.exists_cons_of_length_eq_add_one h
  have h := Nat.succ.inj h
  obtain ⟨a7, cs, rfl⟩ := List.exists_cons_of_length_eq_add_one h
  have h := Nat.succ.inj h
  obtain ⟨a8, cs, rfl⟩ := List.exists_cons_of_length_eq_add_one h
  have h := Nat.succ.inj h
  obtain ⟨a9, cs, rfl⟩ := List.exists_cons_of_length_eq_add_one h
  have h := Nat.succ.inj h
  obtain ⟨a10, cs, rfl⟩ := List.exists_cons_of_length_eq_add_one h
  have h := Nat.succ.inj h
  obtain ⟨a11, cs, rfl⟩ := List.exists_cons_of_length_eq_add_one h
  have h := Nat.succ.inj h
  obtain ⟨a12, cs, rfl⟩ := List.exists_cons_of_length_eq_add_one h
  have h := Nat.succ.inj h
  obtain ⟨a13, cs, rfl⟩ := List.exists_cons_of_length_eq_add_one h
  have h := Nat.succ.inj h
  obtain ⟨a14, cs, rfl⟩ := List.exists_cons_of_length_eq_add_one h
  have h := Nat.succ.inj h
  obtain ⟨a15, cs, rfl⟩ := List.exists_cons_of_length_eq_add_one h
  have h := Nat.succ.inj h
  obtain ⟨a16, cs, rfl⟩ := List.exists_cons_of_length_eq_add_one h
  have h := Nat.succ.inj h
  obtain ⟨a17, cs, rfl⟩ := List.exists_cons_of_length_eq_add_one h
  have h := Nat.succ.inj h
  obtain rfl := List.eq_nil_of_length_eq_zero h
  exact ⟨_, _, _, _, _, _, _, _, _, _, _, _, _, _, _, _, _, _, rfl⟩
theorem list_of' {α : Type} (n : Nat) (P : Nat → α → Prop) (h : ∀ i, i < n → ∃ x, P i x) : ∃ l : List α, l.length = n ∧ ∀ i (hi : i < l.length), P i l[i] := by
  induction n with
  | zero => exact ⟨[], rfl, fun i hi => absurd hi (by simp)⟩
  | succ n ih =>
    obtain ⟨l, hl, hP⟩ := ih fun i hi => h i (by omega)
    obtain ⟨x, hx⟩ := h n (by omega)
    refine ⟨l ++ [x], by simp [hl], fun i hi => ?_⟩
    by_cases hlt : i < l.length
    · rw [List.getElem_append_left hlt]; exact hP i hlt
    · have : i = n := by simp at hi; omega
      subst this
      rw [List.getElem_append_right (by omega)]
      simp [hl]; exact hx
section
variable {H : Type} {enc : TypeId × Value → H} {P : Program} {w : World} {spare : Nat → Bool} {held : Bool} {α : Type}
/-- What is read is of no more bytes than memory holds. -/
def Wt (P : Program) (t : TypeId) (d : DataW H) : Prop := ∀ n ∈ d.weights P t, n ≤ reachBytes
theorem Wt.str {t : TypeId} {s : List UInt8} (h : Wt P t (.lit (.string s) : DataW H)) : s.length ≤ reachBytes := h _ (by simp [DataW.weights])
theorem Wt.agg {t : TypeId} {fs : Array Field} {ds : List (DataW H)} (ht : P.underlying t = some (.struct fs)) (h : Wt P t (.agg ds)) : ∀ n ∈ DataW.weightsEach P (fs.toList.map (·.type)) ds, n ≤ reachBytes := fun n hn => h n (by rw [DataW.weights, ht]; exact hn)
theorem weights_all {e : TypeId} {d : DataW H} : ∀ {l : List (DataW H)}, d ∈ l → ∀ n ∈ d.weights P e, n ∈ DataW.weightsAll P e l
  | x :: l, h, n, hn => by
    rw [DataW.weightsAll, List.mem_append]
    rcases List.mem_cons.1 h with rfl | h
    · exact .inl hn
    · exact .inr (weights_all h n hn)
theorem fld {n : Nat} {cs : List Value} {fs : Array Field} {xs : List (DataW H × List MemPlace)} {i : Nat} {f : Field} {t : TypeId} {o k : Nat} (hf : ∀ (i : Nat) (f : Field), fs[i]? = some f → DataW.trod enc P w 0 spare held n f.type ((cs.drop f.offset).take (P.cellsOf f.type)) = xs[i]?)
    (hw : ∀ n ∈ DataW.weightsEach P (fs.toList.map (·.type)) (xs.map (·.1)), n ≤ reachBytes) (hi : fs[i]? = some f) (hl : xs.length = fs.size) (ht : f.type = t) (ho : f.offset = o) (hk : P.cellsOf t = k) : ∃ y, DataW.trod enc P w 0 spare held n t ((cs.drop o).take k) = some y ∧ Wt P t y.1 := by
  have h := hf i f hi
  subst ht ho hk
  have hlt : i < xs.length := by rw [hl]; exact (Array.getElem?_eq_some_iff.1 hi).1
  refine ⟨xs[i], by rw [h, List.getElem?_eq_getElem hlt], fun m hm => hw m ?_⟩
  refine DataW.weights_mem_each (j := i) (t := f.type) (d := xs[i].1) ?_ ?_ m hm
  · rw [List.getElem?_map, Array.getElem?_toList, hi]; rfl
  · rw [List.getElem?_map, List.getElem?_eq_getElem hlt]; rfl
/-- A slice, its elements one by one. -/
theorem open_rows {t e : TypeId} {z fuel : Nat} {cs : List Value} {x : DataW H × List MemPlace} (ht : P.underlying t = some (.slice e)) (hz : P.cellsOf e = z) (h : DataW.trod enc P w 0 spare held fuel t cs = some x) (hw : Wt P t x.1) :
    cs = [.slice none 0 0] ∨ ∃ (ad : Addr) (len cap n : Nat), fuel = n + 1 ∧ cs = [.slice (some ad) len cap] ∧ len ≤ cap ∧ cap ≤ maxLen ∧ ∀ i, i < len → ∃ (cs' : List Value) (y : DataW H × List MemPlace), cs'.length = z ∧ (∀ j, j < z → w.cell? (ad.add (i * z + j)) = cs'[j]?) ∧ DataW.trod enc P w 0 spare held n e cs' = some y ∧ Wt P e y.1 := by
  rcases DataW.trod_slice ht h with ⟨h0, -⟩ | ⟨a, len, cap, elems, rest, n, e1, e2, rfl, -, hl, hm, hlen, hel, -, -⟩
  · exact .inl h0
  · refine .inr ⟨a, len, cap, n, e1, e2, hl, hm, fun i hi => ?_⟩
    have h1 := hel i hi
    rw [List.getElem?_eq_getElem (by omega)] at h1
    obtain ⟨cs', hc, ht'⟩ := Option.bind_eq_some_iff.1 h1
    rw [hz] at hc
    obtain ⟨-, hcl, hat⟩ := World.cells?_some hc
    refine ⟨cs', _, hcl, fun j hj => by rw [← hat j hj, Go.Deep.add_add], ht', fun m hm' => hw m ?_⟩
    rw [DataW.weights, ht]
    exact List.mem_cons_of_mem _ (List.mem_append_left _ (weights_all (d := elems[i].1) (List.mem_map_of_mem (List.getElem_mem (by omega))) m hm'))
/-- The elements of a slice, read. -/
theorem open_elems {t e : TypeId} {z fuel : Nat} {cs : List Value} {x : DataW H × List MemPlace} (g : α → List Value) (Ok : α → Prop) (ht : P.underlying t = some (.slice e)) (hz : P.cellsOf e = z) (hz0 : 0 < z) (h : DataW.trod enc P w 0 spare held fuel t cs = some x) (hw : Wt P t x.1)
    (hg : ∀ n cs y, n < fuel → DataW.trod enc P w 0 spare held n e cs = some y → Wt P e y.1 → cs.length = z → ∃ a : α, cs = g a ∧ Ok a) :
    ∃ (l : List α) (A : Option Addr) (c : Nat), cs = [.slice A l.length c] ∧ ReadsS w (fun b => b < w.heap.size) z A l.length (l.flatMap g) ∧ (∀ a ∈ l, Ok a) ∧ l.length ≤ c ∧ c ≤ maxLen := by
  rcases open_rows ht hz h hw with h0 | ⟨ad, len, cap, n, e1, e2, hl, hm, hi⟩
  · exact ⟨[], none, 0, h0, ReadsS.none_, fun a ha => absurd ha (by simp), Nat.le_refl _, Nat.zero_le _⟩
  · obtain ⟨l, hll, hP⟩ := list_of' len (fun i (a : α) => (∀ j, j < z → w.cell? (ad.add (i * z + j)) = (g a)[j]?) ∧ (g a).length = z ∧ Ok a) fun i hi' => by
      obtain ⟨cs', y, h1, h2, h3, h4⟩ := hi i hi'
      obtain ⟨a, rfl, ha⟩ := hg n cs' y (by omega) h3 h4 h1
      exact ⟨a, h2, h1, ha⟩
    have hlen : ∀ a ∈ l, (g a).length = z := fun a ha => by
      obtain ⟨i, hi', rfl⟩ := List.mem_iff_getElem.1 ha
      exact (hP i hi').2.1
    have hfl : (l.flatMap g).length = l.length * z := by
      clear hP hll
      induction l with
      | nil => simp
      | cons a l ih =>
        rw [List.flatMap_cons, List.length_append, hlen a (by simp), ih fun b hb => hlen b (List.mem_cons_of_mem _ hb), List.length_cons, Nat.succ_mul]
        omega
    have hat : ∀ (l : List α), (∀ a ∈ l, (g a).length = z) → ∀ i (hi : i < l.length) j, j < z → (l.flatMap g)[i * z + j]? = (g l[i])[j]? := by
      intro l
      induction l with
      | nil => intro _ i hi; exact absurd hi (by simp)
      | cons a l ih =>
        intro hl i hi j hj
        have ha := hl a (by simp)
        cases i with
        | zero => rw [List.flatMap_cons, Nat.zero_mul, Nat.zero_add, List.getElem?_append_left (by omega)]; rfl
        | succ i =>
          have e : (i + 1) * z + j - z = i * z + j := by rw [Nat.succ_mul]; omega
          rw [List.flatMap_cons, List.getElem?_append_right (by rw [Nat.succ_mul]; omega), ha, e, ih (fun b hb => hl b (List.mem_cons_of_mem _ hb)) i (by simpa using hi) j hj]
          rfl
    refine ⟨l, some ad, cap, by rw [hll]; exact e2, ⟨⟨hfl, by omega⟩, fun h0 => ⟨ad, rfl, ?_, fun j u hu => ?_⟩⟩, fun a ha => ?_, by omega, hm⟩
    · obtain ⟨h1, h2, -⟩ := hP 0 h0
      have h3 := h1 0 hz0
      rw [List.getElem?_eq_getElem (by omega)] at h3
      have := World.block_lt_of_cell? w _ h3
      rwa [block_of_add] at this
    · have hj : j < l.length * z := by
        rcases Nat.lt_or_ge j (l.length * z) with h1 | h1
        · exact h1
        · rw [List.getElem?_eq_none (by omega)] at hu; cases hu
      have hq : j / z < l.length := Nat.div_lt_of_lt_mul (by rw [Nat.mul_comm]; exact hj)
      have hr := Nat.mod_lt j hz0
      have e : j / z * z + j % z = j := by rw [Nat.mul_comm]; exact Nat.div_add_mod j z
      rw [← e] at hu ⊢
      rw [hat l hlen _ hq _ hr] at hu
      rw [(hP _ hq).1 _ hr, hu]
    · obtain ⟨i, hi', rfl⟩ := List.mem_iff_getElem.1 ha
      exact (hP i hi').2.2
end
theorem flat_str (l : List ByteArray) : (l.flatMap fun s => [Value.string s]) = strs l := by
  unfold strs
  induction l with
  | nil => rfl
  | cons a l ih => rw [List.flatMap_cons, ih]; rfl
end Go.Pub
namespace Go.Proofs.Ytfnloonmeilhlaa
open Go.RowKit Go.Pub Go.ChangeShapes Go.WideShapes
theorem co_str : Try.prog.cellsOf 9 = 1 := by kernel_rfl
theorem co_int : Try.prog.cellsOf 3 = 1 := by kernel_rfl
theorem co_bool : Try.prog.cellsOf 4 = 1 := by kernel_rfl
theorem co_strs : Try.prog.cellsOf 31 = 1 := by kernel_rfl
theorem co_prs : Try.prog.cellsOf 32 = 1 := by kernel_rfl
theorem co_pr : Try.prog.cellsOf 71 = 2 := by kernel_rfl
theorem co_att : Try.prog.cellsOf 34 = 3 := by kernel_rfl
theorem co_cits : Try.prog.cellsOf 35 = 1 := by kernel_rfl
theorem co_cit : Try.prog.cellsOf 55 = 4 := by kernel_rfl
theorem co_ins : Try.prog.cellsOf 26 = 1 := by kernel_rfl
theorem co_in : Try.prog.cellsOf 37 = 10 := by kernel_rfl
theorem co_pcs : Try.prog.cellsOf 39 = 18 := by kernel_rfl
section
variable {H : Type} {enc : TypeId × Value → H} {w : World} {spare : Nat → Bool} {held : Bool} {n : Nat} {cs : List Value} {x : DataW H × List MemPlace}
theorem open_sstr (h : DataW.trod enc Try.prog w 0 spare held n 31 cs = some x) (hw : Wt Try.prog 31 x.1) : ∃ (l : List ByteArray) (A : Option Addr) (c : Nat), cs = [.slice A l.length c] ∧ ReadsS w (fun b : Nat => b < w.heap.size) 1 A l.length (strs l) ∧ (∀ s ∈ l, s.size ≤ reachBytes) := by
  obtain ⟨l, A, c, e, hr, ho, -, -⟩ := open_elems (fun s : ByteArray => [Value.string s]) (fun s => s.size ≤ reachBytes) Try.underlying31 co_str (by decide) h hw fun n cs y _ hy hyw _ => by
    obtain ⟨s, e, hx, -⟩ := DataW.trod_string Try.underlying9 hy
    have hs : s.size ≤ reachBytes := by rw [hx] at hyw; have := hyw.str; rwa [Array.length_toList] at this
    exact ⟨s, e, hs⟩
  rw [flat_str] at hr
  exact ⟨l, A, c, e, hr, ho⟩
theorem open_sprs (h : DataW.trod enc Try.prog w 0 spare held n 32 cs = some x) (hw : Wt Try.prog 32 x.1) : ∃ (l : List (ByteArray × ByteArray)) (A : Option Addr) (c : Nat), cs = [.slice A l.length c] ∧ ReadsS w (fun b : Nat => b < w.heap.size) 2 A l.length (prs l) ∧ (∀ s ∈ l, s.1.size ≤ reachBytes ∧ s.2.size ≤ reachBytes) := by
  obtain ⟨l, A, c, e, hr, ho, -, -⟩ := open_elems (fun s : ByteArray × ByteArray => [Value.string s.1, Value.string s.2]) (fun s => s.1.size ≤ reachBytes ∧ s.2.size ≤ reachBytes) Try.underlying32 co_pr (by decide) h hw fun n cs y _ hy hyw hl => by
    obtain ⟨xs, m, -, hxe, -, hxl, hf⟩ := DataW.trod_struct Try.underlying71 hy
    rw [hxe] at hyw
    have hwe := Wt.agg Try.underlying71 hyw
    obtain ⟨a0, a1, rfl⟩ := len2 hl
    obtain ⟨y0, h0, w0⟩ := fld hf (i := 0) (t := 9) (o := 0) hwe rfl hxl rfl rfl co_str
    obtain ⟨y1, h1, w1⟩ := fld hf (i := 1) (t := 9) (o := 1) hwe rfl hxl rfl rfl co_str
    obtain ⟨s0, e0, hx0, -⟩ := DataW.trod_string Try.underlying9 h0
    have l0 : s0.size ≤ reachBytes := by rw [hx0] at w0; have := w0.str; rwa [Array.length_toList] at this
    obtain ⟨s1, e1, hx1, -⟩ := DataW.trod_string Try.underlying9 h1
    have l1 : s1.size ≤ reachBytes := by rw [hx1] at w1; have := w1.str; rwa [Array.length_toList] at this
    have q0 : [a0] = [.string s0] := e0
    have q1 : [a1] = [.string s1] := e1
    injection q0 with q0; injection q1 with q1; subst q0 q1
    exact ⟨(s0, s1), rfl, l0, l1⟩
  exact ⟨l, A, c, e, hr, ho⟩
theorem open_scit (h : DataW.trod enc Try.prog w 0 spare held n 35 cs = some x) (hw : Wt Try.prog 35 x.1) : ∃ (l : List CitL) (A : Option Addr) (c : Nat), cs = [.slice A l.length c] ∧ ReadsS w (fun b : Nat => b < w.heap.size) 4 A l.length (citVT l) ∧ (∀ s ∈ l, s.key.size ≤ reachBytes ∧ s.pre.size ≤ reachBytes ∧ s.suf.size ≤ reachBytes) := by
  obtain ⟨l, A, c, e, hr, ho, -, -⟩ := open_elems (fun s : CitL => [Value.string s.key, Value.string s.pre, Value.string s.suf, Value.bool s.bare]) (fun s => s.key.size ≤ reachBytes ∧ s.pre.size ≤ reachBytes ∧ s.suf.size ≤ reachBytes) Try.underlying35 co_cit (by decide) h hw fun n cs y _ hy hyw hl => by
    obtain ⟨xs, m, -, hxe, -, hxl, hf⟩ := DataW.trod_struct Try.underlying55 hy
    rw [hxe] at hyw
    have hwe := Wt.agg Try.underlying55 hyw
    obtain ⟨a0, a1, a2, a3, rfl⟩ := len4 hl
    obtain ⟨y0, h0, w0⟩ := fld hf (i := 0) (t := 9) (o := 0) hwe rfl hxl rfl rfl co_str
    obtain ⟨y1, h1, w1⟩ := fld hf (i := 1) (t := 9) (o := 1) hwe rfl hxl rfl rfl co_str
    obtain ⟨y2, h2, w2⟩ := fld hf (i := 2) (t := 9) (o := 2) hwe rfl hxl rfl rfl co_str
    obtain ⟨y3, h3, w3⟩ := fld hf (i := 3) (t := 4) (o := 3) hwe rfl hxl rfl rfl co_bool
    obtain ⟨s0, e0, hx0, -⟩ := DataW.trod_string Try.underlying9 h0
    have l0 : s0.size ≤ reachBytes := by rw [hx0] at w0; have := w0.str; rwa [Array.length_toList] at this
    obtain ⟨s1, e1, hx1, -⟩ := DataW.trod_string Try.underlying9 h1
    have l1 : s1.size ≤ reachBytes := by rw [hx1] at w1; have := w1.str; rwa [Array.length_toList] at this
    obtain ⟨s2, e2, hx2, -⟩ := DataW.trod_string Try.underlying9 h2
    have l2 : s2.size ≤ reachBytes := by rw [hx2] at w2; have := w2.str; rwa [Array.length_toList] at this
    obtain ⟨b3, e3, -⟩ := DataW.trod_bool Try.underlying4 h3
    have q0 : [a0] = [.string s0] := e0
    have q1 : [a1] = [.string s1] := e1
    have q2 : [a2] = [.string s2] := e2
    have q3 : [a3] = [.bool b3] := e3
    injection q0 with q0; injection q1 with q1; injection q2 with q2; injection q3 with q3; subst q0 q1 q2 q3
    exact ⟨⟨s0, s1, s2, b3⟩, rfl, l0, l1, l2⟩
  exact ⟨l, A, c, e, hr, ho⟩
theorem open_att (h : DataW.trod enc Try.prog w 0 spare held n 34 cs = some x) (hw : Wt Try.prog 34 x.1) : ∃ (a : AttrL) (A1 A2 : Option Addr) (c1 c2 : Nat), cs = [.string a.id, .slice A1 a.cl.length c1, .slice A2 a.pr.length c2] ∧ ReadsS w (fun b : Nat => b < w.heap.size) 1 A1 a.cl.length (strs a.cl) ∧ ReadsS w (fun b : Nat => b < w.heap.size) 2 A2 a.pr.length (prs a.pr) ∧ OkA a := by
  obtain ⟨xs, m, -, hxe, hl, hxl, hf⟩ := DataW.trod_struct Try.underlying34 h
  rw [hxe] at hw
  have hwe := Wt.agg Try.underlying34 hw
  rw [co_att] at hl
  obtain ⟨a0, a1, a2, rfl⟩ := len3 hl
  obtain ⟨y0, h0, w0⟩ := fld hf (i := 0) (t := 9) (o := 0) hwe rfl hxl rfl rfl co_str
  obtain ⟨y1, h1, w1⟩ := fld hf (i := 1) (t := 31) (o := 1) hwe rfl hxl rfl rfl co_strs
  obtain ⟨y2, h2, w2⟩ := fld hf (i := 2) (t := 32) (o := 2) hwe rfl hxl rfl rfl co_prs
  obtain ⟨s0, e0, hx0, -⟩ := DataW.trod_string Try.underlying9 h0
  have l0 : s0.size ≤ reachBytes := by rw [hx0] at w0; have := w0.str; rwa [Array.length_toList] at this
  obtain ⟨cl, A1, c1, e1, r1, o1⟩ := open_sstr h1 w1
  obtain ⟨pr, A2, c2, e2, r2, o2⟩ := open_sprs h2 w2
  have q0 : [a0] = [.string s0] := e0
  have q1 : [a1] = [.slice A1 cl.length c1] := e1
  have q2 : [a2] = [.slice A2 pr.length c2] := e2
  injection q0 with q0; injection q1 with q1; injection q2 with q2; subst q0 q1 q2
  exact ⟨⟨s0, cl, pr⟩, A1, A2, c1, c2, rfl, r1, r2, l0, o1, o2⟩
set_option maxHeartbeats 2000000 in
/-- An inline, to any depth. -/
theorem open_in : ∀ (n : Nat) (cs : List Value) (x : DataW H × List MemPlace), DataW.trod enc Try.prog w 0 spare held n 37 cs = some x → Wt Try.prog 37 x.1 → ∃ (t : InT) (v : Array Value), cs = v.toList ∧ RepI w (fun b : Nat => b < w.heap.size) v t ∧ okI t := fun n => by
  induction n using Nat.strongRecOn with
  | ind n ih =>
  intro cs x h hw
  obtain ⟨xs, m, hm, hxe, hl, hxl, hf⟩ := DataW.trod_struct Try.underlying37 h
  rw [hxe] at hw
  have hwe := Wt.agg Try.underlying37 hw
  rw [co_in] at hl
  obtain ⟨a0, a1, a2, a3, a4, a5, a6, a7, a8, a9, rfl⟩ := len10 hl
  obtain ⟨y0, h0, w0⟩ := fld hf (i := 0) (t := 3) (o := 0) hwe rfl hxl rfl rfl co_int
  obtain ⟨y1, h1, w1⟩ := fld hf (i := 1) (t := 9) (o := 1) hwe rfl hxl rfl rfl co_str
  obtain ⟨y2, h2, w2⟩ := fld hf (i := 2) (t := 9) (o := 2) hwe rfl hxl rfl rfl co_str
  obtain ⟨y3, h3, w3⟩ := fld hf (i := 3) (t := 9) (o := 3) hwe rfl hxl rfl rfl co_str
  obtain ⟨y4, h4, w4⟩ := fld hf (i := 4) (t := 34) (o := 4) hwe rfl hxl rfl rfl co_att
  obtain ⟨y5, h5, w5⟩ := fld hf (i := 5) (t := 31) (o := 7) hwe rfl hxl rfl rfl co_strs
  obtain ⟨y6, h6, w6⟩ := fld hf (i := 6) (t := 35) (o := 8) hwe rfl hxl rfl rfl co_cits
  obtain ⟨y7, h7, w7⟩ := fld hf (i := 7) (t := 26) (o := 9) hwe rfl hxl rfl rfl co_ins
  obtain ⟨k0, e0, -, -⟩ := DataW.trod_int Try.underlying3 h0
  obtain ⟨s1, e1, hx1, -⟩ := DataW.trod_string Try.underlying9 h1
  have l1 : s1.size ≤ reachBytes := by rw [hx1] at w1; have := w1.str; rwa [Array.length_toList] at this
  obtain ⟨s2, e2, hx2, -⟩ := DataW.trod_string Try.underlying9 h2
  have l2 : s2.size ≤ reachBytes := by rw [hx2] at w2; have := w2.str; rwa [Array.length_toList] at this
  obtain ⟨s3, e3, hx3, -⟩ := DataW.trod_string Try.underlying9 h3
  have l3 : s3.size ≤ reachBytes := by rw [hx3] at w3; have := w3.str; rwa [Array.length_toList] at this
  obtain ⟨att, A1, A2, c1, c2, e4, r4, r4', o4⟩ := open_att h4 w4
  obtain ⟨ar, A3, c3, e5, r5, o5⟩ := open_sstr h5 w5
  obtain ⟨ci, A4, c4, e6, r6, o6⟩ := open_scit h6 w6
  obtain ⟨kv, A5, c5, e7, r7, o7, -, -⟩ := open_elems (fun p : Array Value × InT => p.1.toList) (fun p => RepI w (fun b : Nat => b < w.heap.size) p.1 p.2 ∧ okI p.2) Try.underlying26 co_in (by decide) h7 w7 fun n' cs' y hn' hy hyw _ => by
    obtain ⟨t, v, e, hv, ho⟩ := ih n' (by omega) cs' y hy hyw
    exact ⟨(v, t), e, hv, ho⟩
  have q0 : [a0] = [.int .i64 k0] := e0
  have q1 : [a1] = [.string s1] := e1
  have q2 : [a2] = [.string s2] := e2
  have q3 : [a3] = [.string s3] := e3
  have q4 : [a4, a5, a6] = [.string att.id, .slice A1 att.cl.length c1, .slice A2 att.pr.length c2] := e4
  have q5 : [a7] = [.slice A3 ar.length c3] := e5
  have q6 : [a8] = [.slice A4 ci.length c4] := e6
  have q7 : [a9] = [.slice A5 kv.length c5] := e7
  injection q0 with q0; injection q1 with q1; injection q2 with q2; injection q3 with q3
  injection q4 with q4 q4'; injection q4' with q4' q4''; injection q4'' with q4''
  injection q5 with q5; injection q6 with q6; injection q7 with q7
  subst q0 q1 q2 q3 q4 q4' q4'' q5 q6 q7
  have hrep : ∀ (l : List (Array Value × InT)), (∀ p ∈ l, RepI w (fun b : Nat => b < w.heap.size) p.1 p.2 ∧ okI p.2) → RepIs w (fun b : Nat => b < w.heap.size) (l.map (·.1)) (l.map (·.2)) := by
    intro l
    induction l with
    | nil => intro _; exact .nil
    | cons p l ihl => intro hp; exact .cons _ _ _ _ (hp p (by simp)).1 (ihl fun q hq => hp q (List.mem_cons_of_mem _ hq))
  have hkl : (kv.map (·.2)).length = kv.length := List.length_map _
  have hfl : kv.flatMap (fun p => p.1.toList) = (kv.map (·.1)).flatMap Array.toList := by rw [List.flatMap_map]
  rw [hfl, ← hkl] at r7
  refine ⟨.mk k0 s1 s2 s3 att ar ci (kv.map (·.2)), #[.int .i64 k0, .string s1, .string s2, .string s3, .string att.id, .slice A1 att.cl.length c1, .slice A2 att.pr.length c2, .slice A3 ar.length c3, .slice A4 ci.length c4, .slice A5 (kv.map (·.2)).length c5], by rw [hkl], .mk _ _ _ _ _ _ _ _ _ _ _ _ _ _ _ _ _ _ _ r4 r4' r5 r6 (hrep kv o7) r7, ?_⟩
  rw [okI]
  exact ⟨⟨l1, l2, l3⟩, o4, o5, o6, okL_of _ fun t ht => by
    obtain ⟨p, hp, rfl⟩ := List.mem_map.1 ht
    exact (o7 p hp).2⟩

theorem pcW_list {v : Array Value} {p : PcT} {l : List Value} (h : l = v.toList) : .int .i64 p.kind :: (l ++ [.string p.ch, .int .i64 p.n, .bool p.opn, .bool p.clo, .bool p.img, .int .i64 p.bg, .int .i64 p.nd]) = (pcW v p).toList := by
  unfold pcW
  rw [Array.toList_append, Array.toList_append, ← h]
  rfl
theorem RepPc.of {w : World} {S : Nat → Prop} {v : Array Value} {p : PcT} (h : RepI w S v p.inl) : RepPc w S (pcW v p) p := ⟨v, h, rfl⟩
/-- What holds of a piece that comes as an argument. -/
def OkP (p : PcT) : Prop := okI p.inl ∧ p.ch.size ≤ reachBytes ∧ -9223372036854775808 ≤ p.n ∧ p.n ≤ 9223372036854775807
set_option maxHeartbeats 2000000 in
theorem open_pc (h : DataW.trod enc Try.prog w 0 spare held n 39 cs = some x) (hw : Wt Try.prog 39 x.1) (hl : cs.length = 18) : ∃ (p : PcT) (v : Array Value), cs = v.toList ∧ RepPc w (fun b : Nat => b < w.heap.size) v p ∧ OkP p := by
  obtain ⟨xs, m, -, hxe, -, hxl, hf⟩ := DataW.trod_struct Try.underlying39 h
  rw [hxe] at hw
  have hwe := Wt.agg Try.underlying39 hw
  obtain ⟨a0, a1, a2, a3, a4, a5, a6, a7, a8, a9, a10, a11, a12, a13, a14, a15, a16, a17, rfl⟩ := len18 hl
  obtain ⟨y0, h0, w0⟩ := fld hf (i := 0) (t := 3) (o := 0) hwe rfl hxl rfl rfl co_int
  obtain ⟨y1, h1, w1⟩ := fld hf (i := 1) (t := 37) (o := 1) hwe rfl hxl rfl rfl co_in
  obtain ⟨y2, h2, w2⟩ := fld hf (i := 2) (t := 9) (o := 11) hwe rfl hxl rfl rfl co_str
  obtain ⟨y3, h3, w3⟩ := fld hf (i := 3) (t := 3) (o := 12) hwe rfl hxl rfl rfl co_int
  obtain ⟨y4, h4, w4⟩ := fld hf (i := 4) (t := 4) (o := 13) hwe rfl hxl rfl rfl co_bool
  obtain ⟨y5, h5, w5⟩ := fld hf (i := 5) (t := 4) (o := 14) hwe rfl hxl rfl rfl co_bool
  obtain ⟨y6, h6, w6⟩ := fld hf (i := 6) (t := 4) (o := 15) hwe rfl hxl rfl rfl co_bool
  obtain ⟨y7, h7, w7⟩ := fld hf (i := 7) (t := 3) (o := 16) hwe rfl hxl rfl rfl co_int
  obtain ⟨y8, h8, w8⟩ := fld hf (i := 8) (t := 3) (o := 17) hwe rfl hxl rfl rfl co_int
  obtain ⟨k0, e0, -, -⟩ := DataW.trod_int Try.underlying3 h0
  obtain ⟨t, v, e1, hv, ho⟩ := open_in _ _ _ h1 w1
  obtain ⟨s2, e2, hx2, -⟩ := DataW.trod_string Try.underlying9 h2
  have l2 : s2.size ≤ reachBytes := by rw [hx2] at w2; have := w2.str; rwa [Array.length_toList] at this
  obtain ⟨k3, e3, -, wf3⟩ := DataW.trod_int Try.underlying3 h3
  obtain ⟨b4, e4, -⟩ := DataW.trod_bool Try.underlying4 h4
  obtain ⟨b5, e5, -⟩ := DataW.trod_bool Try.underlying4 h5
  obtain ⟨b6, e6, -⟩ := DataW.trod_bool Try.underlying4 h6
  obtain ⟨k7, e7, -, -⟩ := DataW.trod_int Try.underlying3 h7
  obtain ⟨k8, e8, -, -⟩ := DataW.trod_int Try.underlying3 h8
  have q0 : [a0] = [.int .i64 k0] := e0
  have q1 : [a1, a2, a3, a4, a5, a6, a7, a8, a9, a10] = v.toList := e1
  have q2 : [a11] = [.string s2] := e2
  have q3 : [a12] = [.int .i64 k3] := e3
  have q4 : [a13] = [.bool b4] := e4
  have q5 : [a14] = [.bool b5] := e5
  have q6 : [a15] = [.bool b6] := e6
  have q7 : [a16] = [.int .i64 k7] := e7
  have q8 : [a17] = [.int .i64 k8] := e8
  injection q0 with q0; injection q2 with q2; injection q3 with q3; injection q4 with q4; injection q5 with q5; injection q6 with q6; injection q7 with q7; injection q8 with q8
  subst q0 q2 q3 q4 q5 q6 q7 q8
  obtain ⟨b1, b2⟩ := bounds_i64 wf3
  have hrp : RepPc w (fun b : Nat => b < w.heap.size) (pcW v ⟨k0, t, s2, k3, b4, b5, b6, k7, k8⟩) ⟨k0, t, s2, k3, b4, b5, b6, k7, k8⟩ := RepPc.of hv
  have hcl := pcW_list (p := ⟨k0, t, s2, k3, b4, b5, b6, k7, k8⟩) q1
  clear hf h0 h1 h2 h3 h4 h5 h6 h7 h8 hv h hw hwe w0 w1 w2 w3 w4 w5 w6 w7 w8 hxe
  generalize hP : (⟨k0, t, s2, k3, b4, b5, b6, k7, k8⟩ : PcT) = P0 at *
  have g1 : P0.inl = t := by rw [← hP]
  have g2 : P0.ch = s2 := by rw [← hP]
  have g3 : P0.n = k3 := by rw [← hP]
  refine ⟨P0, pcW v P0, ?_, hrp, by show okI P0.inl; rw [g1]; exact ho, by show P0.ch.size ≤ _; rw [g2]; exact l2, by show _ ≤ P0.n; rw [g3]; exact b1, by show P0.n ≤ _; rw [g3]; exact b2⟩
  show _ = (pcW v P0).toList
  rw [← hcl, ← hP]
  rfl

/-- What holds of pieces that come as an argument. -/
def OkPs (ps : List PcT) : Prop := ps.length ≤ maxLen ∧ ∀ p ∈ ps, OkP p
set_option maxHeartbeats 2000000 in
theorem open_pcs (h : DataW.trod enc Try.prog w 0 spare held n 22 cs = some x) (hw : Wt Try.prog 22 x.1) : ∃ (ps : List PcT) (A : Option Addr) (c : Nat), cs = [.slice A ps.length c] ∧ PcsR w (fun b : Nat => b < w.heap.size) (.slice A ps.length c) ps ∧ OkPs ps := by
  obtain ⟨kv, A, c, e, r, o, -, -⟩ := open_elems (fun p : Array Value × PcT => p.1.toList) (fun p => RepPc w (fun b : Nat => b < w.heap.size) p.1 p.2 ∧ OkP p.2) Try.underlying22 co_pcs (by decide) h hw fun n cs y _ hy hyw hl => by
    obtain ⟨p, v, e, h1, h2⟩ := open_pc hy hyw hl
    exact ⟨(v, p), e, h1, h2⟩
  have hkl : (kv.map (·.2)).length = kv.length := List.length_map _
  have hfl : kv.flatMap (fun p => p.1.toList) = (kv.map (·.1)).flatMap Array.toList := by rw [List.flatMap_map]
  rw [hfl, ← hkl] at r
  have hP : PcsR w (fun b : Nat => b < w.heap.size) (.slice A (kv.map (·.2)).length c) (kv.map (·.2)) := by
    refine ⟨A, c, kv.map (·.1), rfl, by rw [List.length_map, List.length_map], fun i hi => ?_, r⟩
    have hi' : i < kv.length := by rwa [hkl] at hi
    have e1 : (kv.map (·.1)).getD i #[] = kv[i].1 := by rw [List.getD_eq_getElem?_getD, List.getElem?_map, List.getElem?_eq_getElem hi']; rfl
    have e2 : pcX (kv.map (·.2)) i = kv[i].2 := by unfold pcX; rw [List.getD_eq_getElem?_getD, List.getElem?_map, List.getElem?_eq_getElem hi']; rfl
    rw [e1, e2]
    exact (o kv[i] (List.getElem_mem hi')).1
  have hO : OkPs (kv.map (·.2)) := by
    refine ⟨r.1.2, fun p hp => ?_⟩
    obtain ⟨q, hq, rfl⟩ := List.mem_map.1 hp
    exact (o q hq).2
  exact ⟨kv.map (·.2), A, c, by rw [hkl]; exact e, hP, hO⟩

end
end Go.Proofs.Ytfnloonmeilhlaa
namespace Go.Pub
theorem take_rev {l : List Nat} {j : Nat} (h : j < l.length) : (l.take (j + 1)).reverse = l[j] :: (l.take j).reverse := by
  rw [List.take_succ_eq_append_getElem h, List.reverse_append]; rfl
theorem sk_ways (z1 z2 z3 z4 o : Bool) (hs : ¬ ((z1 || o) && !z2 && (z3 && !z4)) = true) : (z1 = true ∧ z2 = true) ∨ (z1 = true ∧ z2 = false ∧ z3 = false) ∨ (z1 = true ∧ z2 = false ∧ z3 = true ∧ (!z4) = false) ∨
    (z1 = false ∧ o = false) ∨ (z1 = false ∧ o = true ∧ z2 = true) ∨ (z1 = false ∧ o = true ∧ z2 = false ∧ z3 = false) ∨ (z1 = false ∧ o = true ∧ z2 = false ∧ z3 = true ∧ (!z4) = false) := by
  cases z1 <;> cases z2 <;> cases z3 <;> cases z4 <;> cases o <;> simp_all
theorem sk_ways2 (z1 z2 z3 z4 o : Bool) (hs : ((z1 || o) && !z2 && (z3 && !z4)) = true) : (z1 = true ∧ z2 = false ∧ z3 = true ∧ (!z4) = true) ∨ (z1 = false ∧ o = true ∧ z2 = false ∧ z3 = true ∧ (!z4) = true) := by
  cases z1 <;> cases z2 <;> cases z3 <;> cases z4 <;> cases o <;> simp_all
theorem openerF_sk {c : PcT} {ops : Nat → List Nat} {pv k : Nat} (hs : skipK c k = true) : openerF c ops pv (k + 1) = openerF c ops pv k := by
  rw [openerF, if_pos hs]
theorem openerF_at {c : PcT} {ops : Nat → List Nat} {pv k R : Nat} (hs : skipK c k = false) (h : nearL pv (openerF c ops pv k) (ops (charNum c.ch * 6 + k)).reverse = R) : openerF c ops pv (k + 1) = R := by
  rw [openerF, if_neg (by rw [hs]; decide)]; exact h
end Go.Pub
namespace Go.Proofs.Ytfnloonmeilhlaa
open Go.RowKit Go.Pub
theorem own_form {w : World} {base n s : Nat} {e : TypeId} {v : Value} {xs : List Value} (h : w.ownsRow base e s v n xs) : ∃ A c, v = .slice A n c ∧ n ≤ maxLen ∧ (0 < n → ∃ g, A = some ⟨g, 0, none⟩ ∧ g < w.heap.size ∧ ∀ j u, xs[j]? = some u → w.cell? ⟨g, j, none⟩ = some u) := by
  rcases Nat.eq_zero_or_pos n with h0 | h0
  · subst h0
    rcases h.2 with ⟨e, _⟩ | ⟨g', cap', cur, e, _⟩
    · exact ⟨_, _, e, Nat.zero_le _, fun h => absurd h (by omega)⟩
    · exact ⟨_, _, e, Nat.zero_le _, fun h => absurd h (by omega)⟩
  · obtain ⟨g, cap, e, h1, h2⟩ := h.form h0
    refine ⟨_, _, e, ?_, fun _ => ⟨g, rfl, h2, fun j u hj => ?_⟩⟩
    · rcases h.2 with ⟨_, h0⟩ | ⟨g', cap', cur, _, _, _, h1, h2, _⟩
      · omega
      · exact Nat.le_trans h1 h2
    subst e
    rw [h.cellAt j (by have := (List.getElem?_eq_some_iff.1 hj).1; have := h.1; omega)]
    exact hj
/-- A whole struct is loaded first. -/
theorem tkm {P : Program} {ops : Array Oper} {Q : Exit → Act → World → Prop} {S : World → Prop} {fuel : Nat} {listed : Array Bool} {a : Act} {w : World} (i : Nat) (ty : TypeId) (x : Operand) (b o : Nat) (cs : List Value) (d : TypeDesc) {oi : Oper} (hi : ops[i]? = some oi) (hS : S w)
    (ho : oi.op = .load ty x) (hr : ∀ w, S w → w.rangeAt b o cs) (hu : P.underlying ty = some d) (hd : d.isRow = true) (hz : (P.info? ty).map (·.size) = some cs.length)
    (h : wpAnyH P .any ops Q S fuel (listed.setIfInBounds i true) (a.put oi.dst (.agg cs.toArray)) w)
    (hs : Region.noSelect ops = true := by kernel_rfl) (hf : Region.free .any ops listed i = true := by kernel_rfl) (hrd : (Region.ready .any ops listed).contains i = true := by kernel_rfl)
    (hx : a.eval x = .pointer (some ⟨b, o, none⟩) := by kernel_rfl) (hw : Region.wanted oi (yielded ops a.tmps) = true := by kernel_rfl) (hQ : ∀ c a w, Q (.panic c) (a.put oi.dst (.agg cs.toArray)) w → Q (.panic c) a w := by exact fun _ _ _ h => h) : wpAnyH P .any ops Q S (fuel + 1) listed a w :=
  wpAnyH_take hi hs hf hrd hQ (yieldsIf_load_mid hw ty x ho b o hx cs d hr hu hd hz) hS h
theorem step_store_row' {ops : Array Oper} {o : Oper} {a : Act} {w : World} {K : Act → World → Prop} {Q : Exit → Act → World → Prop} {E : Prop} (hgd : o.guard = none) (ty : TypeId) (x y : Operand) (ho : o.op = .store ty x y)
    (g : Nat) (cells : Array Value) (hx : a.eval x = .pointer (some ⟨g, 0, none⟩)) (hy : a.eval y = .agg cells)
    (t : TypeId) (old : Array Value) (hg : w.heap[g]? = some (.cells old t (0, 0))) (hi : (Try.prog.info? ty).map (·.size) = some cells.size)
    (hold : old.size = cells.size) (h1 : cells.all (·.oneCell') = true)
    (h : K (a.put o.dst undef) (w.setRow g cells)) : if Region.wanted o (yielded ops a.tmps) = true then Oper.wp Try.prog o a w K Q else E := by
  have hw : Region.wanted o (yielded ops a.tmps) = true := by simp [Region.wanted, hgd]
  rw [if_pos hw]
  exact wp_store_row ty x y ho g cells hx hy t old hg hi hold h1 h
set_option maxRecDepth 100000 in
set_option maxHeartbeats 4000000 in
theorem e_opener {base p g n cap : Nat} {L vP : Value} {vO : Nat → Value} {S : Nat → Prop} {vs : List (Array Value)} {st : EmS} {ps : List PcT} (w : World) (h : EmR w base p L (.slice (some ⟨g, 0, none⟩) n cap) vO vP S vs st) (hL : PcsR w S L ps) (hbase : base ≤ w.heap.size)
    (c : Nat) (hc : c < st.xs.length) (hp : pX st.xs c < ps.length) (hn1 : 1 ≤ (pcX ps (pX st.xs c)).n) (hn2 : (pcX ps (pX st.xs c)).n ≤ 262144) (hnl0 : ∀ k x, x ∈ st.ops k → x < st.xs.length) (h0l : st.xs.length ≤ 1000000000) :
    Calls Try.prog 47 #[.pointer (some ⟨p, 0, none⟩), .int .i64 c] w fun e w' => e = .returned (.tuple #[.int .i64 (openA (pcX ps (pX st.xs c)) st.ops (bf st.xs c) : Nat), .bool (decide (0 < openA (pcX ps (pX st.xs c)) st.ops (bf st.xs c)))]) ∧ Below w.heap.size w w' := by
  have hn := own_len h.els
  subst hn
  have hnl : ∀ k, openerF (pcX ps (pX st.xs c)) st.ops (bf st.xs c) k < st.xs.length := fun k => by
    rcases openerF_spec (pcX ps (pX st.xs c)) st.ops (bf st.xs c) k with h | ⟨j, -, -, h, -⟩
    · omega
    · exact hnl0 _ _ h
  obtain ⟨b, off, cl, rfl, hSb, hpc⟩ := hL.opn (by omega)
  obtain ⟨x0, x1, x2, x3, x4, x5, x6, x7, x8, x9, hr, hrg, h1⟩ := hpc _ hp
  have hbl := (h.fro b hSb).1
  have hgl := (h.els.lt g rfl).2
  obtain ⟨cp, -, cb, -⟩ := h.at_ c hc
  have c0 : w.cell? ⟨p, 0, none⟩ = some (.slice (some ⟨b, off, none⟩) ps.length cl) := h.cel.c0
  have c1 : w.cell? ⟨p, 1, none⟩ = some (.slice (some ⟨g, 0, none⟩) st.xs.length cap) := h.cel.c1
  have hcn : (c : Int) < (st.xs.length : Int) := by omega
  have hqn : (pX st.xs c : Int) < (ps.length : Int) := by omega
  have cp : w.cell? ⟨g, c * 15 + 11, none⟩ = some (.int .i64 (pX st.xs c : Nat)) := cp
  have HA : Hid (openA (pcX ps (pX st.xs c)) st.ops (bf st.xs c) = openerF (pcX ps (pX st.xs c)) st.ops (bf st.xs c) 6) := Lib.hid rfl
  generalize hP : pcX ps (pX st.xs c) = P at *
  generalize hq : pX st.xs c = q at *
  generalize hbf : bf st.xs c = pv at *
  obtain ⟨kind, inl, ch, n, o, cc, im, bg, nd⟩ := P
  dsimp only at hrg h1 hn1 hn2
  obtain ⟨m, rfl⟩ : ∃ m : Nat, n = m := ⟨n.toNat, by omega⟩
  have HPV := Lib.hid hbf
  have HN : Hid (∀ k, openerF ⟨kind, inl, ch, (m : Int), o, cc, im, bg, nd⟩ st.ops pv k < st.xs.length) := Lib.hid fun k => hnl k
  have hq0 : (0 : Int) ≤ (q : Int) := by omega
  have HH := Lib.hid h
  have HL := Lib.hid hL
  have HR := Lib.hid hrg
  have H1 := Lib.hid h1
  have HC := Lib.hid fun W => e_char ch W
  clear h hL hrg h1 hr hpc hP hq hbf
  go_enter Try.func47, Try.ntmps47
  go_wp2_with fail
  go_step3
  go_wp2_with fail
  have K0 := Lib.hid fun (W' : World) (hb : Below w.heap.size w W') => (hb.cell (p := ⟨p, 0, none⟩) HH.out.cel.lt).trans c0
  have K1 := Lib.hid fun (W' : World) (hb : Below w.heap.size w W') => (hb.cell (p := ⟨p, 1, none⟩) HH.out.cel.lt).trans c1
  have K2 := Lib.hid fun (W' : World) (hb : Below w.heap.size w W') => (hb.cell (p := ⟨g, c * 15 + 11, none⟩) hgl).trans cp
  have KR := Lib.hid fun (W' : World) (hb : Below w.heap.size w W') => (show W'.rangeAt b (off + q * 18) [.int .i64 kind, x0, x1, x2, x3, x4, x5, x6, x7, x8, x9, .string ch, .int .i64 m, .bool o, .bool cc, .bool im, .int .i64 bg, .int .i64 nd] from fun j v hj => (hb.cell (p := ⟨b, off + q * 18 + j, none⟩) hbl).trans (HR.out j v hj))
  clear c0 c1 cp cb
  refine wp_region_held_drew (S := fun W' => Below w.heap.size w W') (by kernel_rfl) (Below.refl _ w).drew (fun hHeld => ?_)
  refine tk 0 (.pointer (some ⟨p, 0, none⟩)) rfl hHeld (fun W' hSw => ?_) ?_
  · go_simp
  refine tk 1 (.pointer (some ⟨p, 0, none⟩)) rfl hHeld (fun W' hSw => ?_) ?_
  · go_simp
  refine tk 2 (.pointer (some ⟨p, 0, none⟩)) rfl hHeld (fun W' hSw => ?_) ?_
  · go_simp
  refine tk 3 (.slice (some ⟨b, off, none⟩) ps.length cl) rfl hHeld (fun W' hSw => ?_) ?_
  · have := K0.out W' hSw
    go_simp
  refine tk 4 (.pointer (some ⟨p, 0, none⟩)) rfl hHeld (fun W' hSw => ?_) ?_
  · go_simp
  refine tk 5 (.pointer (some ⟨p, 0, none⟩)) rfl hHeld (fun W' hSw => ?_) ?_
  · go_simp
  refine tk 6 (.pointer (some ⟨p, 1, none⟩)) rfl hHeld (fun W' hSw => ?_) ?_
  · go_simp
  refine tk 7 (.slice (some ⟨g, 0, none⟩) st.xs.length cap) rfl hHeld (fun W' hSw => ?_) ?_
  · have := K1.out W' hSw
    go_simp
  refine tk 8 (.int .i64 c) rfl hHeld (fun W' hSw => ?_) ?_
  · go_simp
  refine tk 9 (.pointer (some ⟨g, c * 15, none⟩)) rfl hHeld (fun W' hSw => ?_) ?_
  · go_simp
  refine tk 10 (.pointer (some ⟨g, c * 15 + 11, none⟩)) rfl hHeld (fun W' hSw => ?_) ?_
  · go_simp
  refine tk 11 (.int .i64 q) rfl hHeld (fun W' hSw => ?_) ?_
  · have := K2.out W' hSw
    go_simp
  refine tk 12 (.pointer (some ⟨b, off + q * 18, none⟩)) rfl hHeld (fun W' hSw => ?_) ?_
  · go_simp
  refine tkm 13 39 (.tmp 25) b (off + q * 18) [.int .i64 kind, x0, x1, x2, x3, x4, x5, x6, x7, x8, x9, .string ch, .int .i64 m, .bool o, .bool cc, .bool im, .int .i64 bg, .int .i64 nd] _ rfl hHeld rfl KR.out Try.underlying39 rfl pcE_size ?_
  refine rd1 14 rfl (fun K hK => ?_)
  go_simp
  have B1 : Below w.heap.size w (w.drew.alloc (.cells #[.int .i64 0, .int .i64 0, .string ⟨#[]⟩, .string ⟨#[]⟩, .string ⟨#[]⟩, .string ⟨#[]⟩, .slice none 0 0, .slice none 0 0, .slice none 0 0, .slice none 0 0, .slice none 0 0, .string ⟨#[]⟩, .int .i64 0, .bool false, .bool false, .bool false, .int .i64 0, .int .i64 0] 39)) := (Below.refl _ w).drew.alloc (Nat.le_refl _) _
  refine hK.out _ _ B1 (fun hHeld => ?_)
  clear hK K
  refine rd1 15 rfl (fun K hK => ?_)
  refine step_store_row' rfl 39 (.tmp 6) (.tmp 26) rfl w.heap.size #[.int .i64 kind, x0, x1, x2, x3, x4, x5, x6, x7, x8, x9, .string ch, .int .i64 m, .bool o, .bool cc, .bool im, .int .i64 bg, .int .i64 nd] (by kernel_rfl) (by kernel_rfl) 39 _ (Blk.new w.drew _ _) pcE_size (by rfl) (by simpa using H1.out) ?_
  have HS : (w.alloc (.cells #[.int .i64 0, .int .i64 0, .string ⟨#[]⟩, .string ⟨#[]⟩, .string ⟨#[]⟩, .string ⟨#[]⟩, .slice none 0 0, .slice none 0 0, .slice none 0 0, .slice none 0 0, .slice none 0 0, .string ⟨#[]⟩, .int .i64 0, .bool false, .bool false, .bool false, .int .i64 0, .int .i64 0] 39)).drew.setRow w.heap.size #[.int .i64 kind, x0, x1, x2, x3, x4, x5, x6, x7, x8, x9, .string ch, .int .i64 m, .bool o, .bool cc, .bool im, .int .i64 bg, .int .i64 nd] = (w.alloc (.cells #[.int .i64 kind, x0, x1, x2, x3, x4, x5, x6, x7, x8, x9, .string ch, .int .i64 m, .bool o, .bool cc, .bool im, .int .i64 bg, .int .i64 nd] 39)).drew := World.setRow_alloc_new w.drew _ _ _
  rw [HS]
  clear HS
  have B2 : Below w.heap.size w (w.alloc (.cells #[.int .i64 kind, x0, x1, x2, x3, x4, x5, x6, x7, x8, x9, .string ch, .int .i64 m, .bool o, .bool cc, .bool im, .int .i64 bg, .int .i64 nd] 39)).drew := ((Below.refl _ w).alloc (Nat.le_refl _) _).drew
  refine hK.out _ _ B2 (fun hHeld => ?_)
  clear hK K B1
  refine wpAnyH_done (by kernel_rfl) ?_ _
  have X1 : Blk (w.alloc (.cells #[.int .i64 kind, x0, x1, x2, x3, x4, x5, x6, x7, x8, x9, .string ch, .int .i64 m, .bool o, .bool cc, .bool im, .int .i64 bg, .int .i64 nd] 39)).drew w.heap.size 39 #[.int .i64 kind, x0, x1, x2, x3, x4, x5, x6, x7, x8, x9, .string ch, .int .i64 m, .bool o, .bool cc, .bool im, .int .i64 bg, .int .i64 nd] := Blk.new w _ _
  generalize (w.alloc (.cells #[.int .i64 kind, x0, x1, x2, x3, x4, x5, x6, x7, x8, x9, .string ch, .int .i64 m, .bool o, .bool cc, .bool im, .int .i64 bg, .int .i64 nd] 39)).drew = W1 at *
  go_wp2_with fail
  go_step3
  go_wp2_with fail
  have hB1 := Lib.hid B2
  have HWB := Lib.hid fun (wr : World) (hb : Below W1.heap.size W1 wr) => X1.below hb X1.lt
  have HBW := Lib.hid fun (wr : World) (hb : Below W1.heap.size W1 wr) => (B2.trans (hb.mono B2.size))
  have hWs := B2.size
  clear X1 B2 hHeld K0 K1 K2 KR
  go_loopw [7, 27] (fun v7 v27 wr => ∃ k : Nat, k ≤ 6 ∧ v27 = .int .i64 k ∧ v7 = .int .i64 (openerF ⟨kind, inl, ch, (m : Int), o, cc, im, bg, nd⟩ st.ops pv k : Nat) ∧ Hid (Below W1.heap.size W1 wr)) (fun _ v27 _ => 6 - (intOf v27).toNat)
  case atStart => exact ⟨0, by omega, rfl, rfl, Lib.hid (Below.refl _ _)⟩
  case round =>
    obtain ⟨k, hk6, rfl, rfl, HB⟩ := hrel
    rename World => wo
    have X3 := HWB.out _ HB.out
    have hb3 := HBW.out _ HB.out
    by_cases hk : k < 6
    · have hki : (k : Int) < 6 := by omega
      have hk0 : (0 : Int) ≤ (k : Int) := by omega
      have r2 : wo.cell? ⟨w.heap.size, 11, none⟩ = some (.string ch) := X3.cell 11
      have r3 : wo.cell? ⟨w.heap.size, 12, none⟩ = some (.int .i64 m) := X3.cell 12
      have r4 : wo.cell? ⟨w.heap.size, 13, none⟩ = some (.bool o) := X3.cell 13
      obtain ⟨a, ha⟩ : ∃ a, a = k / 2 := ⟨_, rfl⟩
      obtain ⟨bb, hbb⟩ : ∃ bb, bb = k % 2 := ⟨_, rfl⟩
      obtain ⟨md, hmd⟩ : ∃ md, md = (a + m) % 3 := ⟨_, rfl⟩
      have e1 : (k : Int) / 2 = (a : Int) := by omega
      have e2 : (k : Int) % 2 = (bb : Int) := by omega
      have e3 : ((a : Int) + (m : Int)) % 3 = (md : Int) := by omega
      have ha3 : (a : Int) < 3 := by omega
      have ha0 : (0 : Int) ≤ (a : Int) := by omega
      have hb2 : (bb : Int) < 2 := by omega
      have hb0 : (0 : Int) ≤ (bb : Int) := by omega
      have hsk : skipK ⟨kind, inl, ch, (m : Int), o, cc, im, bg, nd⟩ k = ((decide (bb = 1) || o) && !decide (ch.toList = [126]) && (decide (md = 0) && !decide (a = 0))) := by
        unfold skipK; rw [hmd, ha, hbb]; simp only [Int.toNat_natCast]
      have hjx : charNum ch * 6 + k < 18 := by have := charNum_lt ch; omega
      have hof : 2 + (charNum ch * 6 + k) = 2 + charNum ch * 6 + a * 2 + bb := by omega
      have hem := HH.out.below hb3
      have rO := hem.cel.cO _ hjx
      rw [hof] at rO
      obtain ⟨A, ca, hv, hlm, hA⟩ := own_form (hem.ops _ hjx)
      unfold maxLen at hlm
      rw [hv] at rO
      have HCK : Hid (∀ wr', Below wo.heap.size wo wr' → wr'.cell? ⟨g, c * 15 + 13, none⟩ = some (.int .i64 (pv : Nat)) ∧ wr'.cell? ⟨p, 1, none⟩ = some (.slice (some ⟨g, 0, none⟩) st.xs.length cap)) := Lib.hid fun wr' hb' => by
        have h2 := hem.below hb'
        exact ⟨by rw [← HPV.out]; exact (h2.at_ c hc).2.2.1, h2.cel.c1⟩
      have HS := Lib.hid hsk
      have HA2 := Lib.hid hA
      have HSTEP := Lib.hid fun (R : Nat) => openerF_at (c := ⟨kind, inl, ch, (m : Int), o, cc, im, bg, nd⟩) (ops := st.ops) (pv := pv) (k := k) (R := R)
      have HSK := Lib.hid (openerF_sk (c := ⟨kind, inl, ch, (m : Int), o, cc, im, bg, nd⟩) (ops := st.ops) (pv := pv) (k := k))
      have hNl := HN.out k
      obtain ⟨hc3, hc0⟩ : (charNum ch : Int) < 3 ∧ (0 : Int) ≤ (charNum ch : Int) := by have := charNum_lt ch; omega
      have HB2 := Lib.hid hb3
      clear hem hv hA hsk hof hmd ha hbb X3 hb3
      generalize hlo : st.ops (charNum ch * 6 + k) = lo at *
      clear hlo hjx
      generalize charNum ch = cq at *
      generalize openerF ⟨kind, inl, ch, (m : Int), o, cc, im, bg, nd⟩ st.ops pv k = nr at *
      by_cases hs : skipK ⟨kind, inl, ch, (m : Int), o, cc, im, bg, nd⟩ k = true
      · have HN2 : (((bb : Int) == 1) = true ∧ (ch.toList == [126]) = false ∧ ((md : Int) == 0) = true ∧ ((a : Int) != 0) = true) ∨ (((bb : Int) == 1) = false ∧ o = true ∧ (ch.toList == [126]) = false ∧ ((md : Int) == 0) = true ∧ ((a : Int) != 0) = true) := by
          have hs2 := hs
          rw [HS.out] at hs2
          have q1 : ((bb : Int) == 1) = decide (bb = 1) := by by_cases h : bb = 1 <;> simp [h]; omega
          have q2 : (ch.toList == [126]) = decide (ch.toList = [126]) := by by_cases h : ch.toList = [126] <;> simp [h]
          have q3 : ((md : Int) == 0) = decide (md = 0) := by by_cases h : md = 0 <;> simp [h]
          have q4 : ((a : Int) != 0) = !decide (a = 0) := by by_cases h : a = 0 <;> simp [h]
          rw [q1, q2, q3, q4]
          generalize decide (bb = 1) = z1 at *
          generalize decide (ch.toList = [126]) = z2 at *
          generalize decide (md = 0) = z3 at *
          generalize decide (a = 0) = z4 at *
          exact sk_ways2 z1 z2 z3 z4 o hs2
        rcases HN2 with ⟨g1, g2, g3, g4⟩ | ⟨g1, rfl, g3, g4, g5⟩
        all_goals
          go_wp2_with fail
          go_roundw
          case rel => exact ⟨k + 1, by omega, by go_num, by rw [HSK.out hs], HB⟩
          case measure => simp [intOf]; omega
      · have HN2 : (((bb : Int) == 1) = true ∧ (ch.toList == [126]) = true) ∨ (((bb : Int) == 1) = true ∧ (ch.toList == [126]) = false ∧ ((md : Int) == 0) = false) ∨ (((bb : Int) == 1) = true ∧ (ch.toList == [126]) = false ∧ ((md : Int) == 0) = true ∧ ((a : Int) != 0) = false) ∨
            (((bb : Int) == 1) = false ∧ o = false) ∨ (((bb : Int) == 1) = false ∧ o = true ∧ (ch.toList == [126]) = true) ∨ (((bb : Int) == 1) = false ∧ o = true ∧ (ch.toList == [126]) = false ∧ ((md : Int) == 0) = false) ∨ (((bb : Int) == 1) = false ∧ o = true ∧ (ch.toList == [126]) = false ∧ ((md : Int) == 0) = true ∧ ((a : Int) != 0) = false) := by
          rw [HS.out] at hs
          have q1 : ((bb : Int) == 1) = decide (bb = 1) := by by_cases h : bb = 1 <;> simp [h]; omega
          have q2 : (ch.toList == [126]) = decide (ch.toList = [126]) := by by_cases h : ch.toList = [126] <;> simp [h]
          have q3 : ((md : Int) == 0) = decide (md = 0) := by by_cases h : md = 0 <;> simp [h]
          have q4 : ((a : Int) != 0) = !decide (a = 0) := by by_cases h : a = 0 <;> simp [h]
          rw [q1, q2, q3, q4]
          generalize decide (bb = 1) = z1 at *
          generalize decide (ch.toList = [126]) = z2 at *
          generalize decide (md = 0) = z3 at *
          generalize decide (a = 0) = z4 at *
          exact sk_ways z1 z2 z3 z4 o hs
        rcases HN2 with ⟨g1, g2⟩ | ⟨g1, g2, g3⟩ | ⟨g1, g2, g3, g4⟩ | ⟨g1, rfl⟩ | ⟨g1, rfl, g3⟩ | ⟨g1, rfl, g3, g4⟩ | ⟨g1, rfl, g3, g4, g5⟩
        all_goals
          have hsF : skipK ⟨kind, inl, ch, (m : Int), _, cc, im, bg, nd⟩ k = false := eq_false_of_ne_true hs
          go_wp2_with fail
          go_quiet ((go_at_call 49; exact quiet_l (HC.out _)))
          go_wp2_with fail
          have H4 : Hid (Below W1.heap.size W1 (wo.drewN nq)) := Lib.hid (below_drewN HB.out nq)
          have H5 : Hid (Below wo.heap.size wo (wo.drewN nq)) := Lib.hid (below_drewN (Below.refl _ _) nq)
          generalize wo.drewN nq = wq at *
          clear r2 r3 r4 rO
          go_loopw [7, 12] (fun v7 v12 wx => ∃ m2 : Nat, m2 ≤ lo.length ∧ v7 = .int .i64 (nr : Nat) ∧ v12 = .int .i64 ((m2 : Int) - 1) ∧ Hid (nearL pv nr (lo.take m2).reverse = nearL pv nr lo.reverse) ∧ Hid (Below W1.heap.size W1 wx) ∧ Hid (Below wo.heap.size wo wx)) (fun _ v12 _ => (intOf v12 + 1).toNat)
          case atStart => exact ⟨lo.length, Nat.le_refl _, rfl, rfl, Lib.hid (by rw [List.take_length]), H4, H5⟩
          case round =>
            obtain ⟨m2, hm2, rfl, rfl, HT, H6, H7⟩ := hrel
            rename World => wx
            clear H4 H5
            rcases m2 with _ | j
            · rw [show ((0 : Nat) : Int) - 1 = -1 from rfl]
              go_wp2_with fail
              go_roundw
              case rel => exact ⟨k + 1, by omega, by go_num, by rw [HSTEP.out nr hsF HT.out.symm], H6⟩
              case measure => simp [intOf]; omega
            · rw [show ((j + 1 : Nat) : Int) - 1 = (j : Int) by omega]
              have hj : j < lo.length := hm2
              obtain ⟨gg, hA', hgo, hcell⟩ := HA2.out (by omega)
              subst hA'
              have hcj : wx.cell? ⟨gg, j, none⟩ = some (.int .i64 (lo[j] : Nat)) := (H7.out.cell (p := ⟨gg, j, none⟩) hgo).trans (hcell j _ (by unfold intsV; simp [hj]))
              obtain ⟨hpv, hp1⟩ := HCK.out wx H7.out
              have HT2 : Hid (nearL pv nr (lo[j] :: (lo.take j).reverse) = nearL pv nr lo.reverse) := Lib.hid (by rw [← take_rev hj]; exact HT.out)
              have hjl : (j : Int) < (lo.length : Int) := by omega
              have hj0 : (0 : Int) ≤ (j : Int) := by omega
              clear hcell HT
              generalize lo[j] = x at *
              by_cases hx : x ≤ nr
              · have d1 : decide (x ≤ nr) = true := decide_eq_true hx
                have HR : Hid (nearL pv nr lo.reverse = nr) := Lib.hid (by rw [← HT2.out]; simp [nearL, hx])
                go_wp2_with fail
                go_roundw
                case rel => exact ⟨k + 1, by omega, by go_num, by rw [HSTEP.out nr hsF HR.out], H6⟩
                case measure => simp [intOf]; omega
              · have d1 : decide (x ≤ nr) = false := decide_eq_false hx
                by_cases hy : pv = x
                · have d2 : ((pv : Int) != (x : Int)) = false := by rw [hy]; simp
                  have HR : Hid (nearL pv nr (lo.take j).reverse = nearL pv nr lo.reverse) := Lib.hid (by rw [← HT2.out]; simp [nearL, hx, hy])
                  clear hy
                  go_wp2_with fail
                  go_quiet (fail)
                  go_wp2_with fail
                  go_roundw
                  case rel => exact ⟨j, by omega, rfl, rfl, HR, Lib.hid (below_drewN H6.out _), Lib.hid (below_drewN H7.out _)⟩
                  case measure => simp [intOf]
                · have d2 : ((pv : Int) != (x : Int)) = true := bne_iff_ne.2 (by omega)
                  have HR : Hid (nearL pv nr lo.reverse = x) := Lib.hid (by rw [← HT2.out]; simp [nearL, hx, hy])
                  clear hy
                  go_wp2_with fail
                  go_quiet (fail)
                  go_wp2_with fail
                  go_roundw
                  case rel => exact ⟨k + 1, by omega, by go_num, by rw [HSTEP.out x hsF HR.out], Lib.hid (below_drewN H6.out _)⟩
                  case measure => simp [intOf]; omega
    · obtain rfl : k = 6 := by omega
      generalize openerF ⟨kind, inl, ch, (m : Int), o, cc, im, bg, nd⟩ st.ops pv 6 = R at *
      go_wp2_with fail
      rw [Exit.noGoto_ret]
      refine bodyPost_ret (v := .tuple #[.int .i64 (R : Nat), .bool (decide (0 < R))]) (by simp [results, Try.results47, go_sem]) rfl ⟨?_, HBW.out _ HB.out⟩
      rw [HA.out]

end Go.Proofs.Ytfnloonmeilhlaa
namespace Go.Pub
theorem popW_snoc (k x : Nat) (l : List Nat) : popW k (l ++ [x]) = if k < x then popW k l else l ++ [x] := by
  unfold popW
  rw [List.reverse_append, List.reverse_singleton, List.singleton_append, List.dropWhile_cons]
  by_cases h : k < x
  · rw [if_pos h, if_pos (decide_eq_true h)]
  · rw [if_neg h, if_neg (by simpa using h), List.reverse_cons, List.reverse_reverse]
/-- The lists of openers, the first n of them shortened. -/
def exclO (last n : Nat) (ops : Nat → List Nat) : Nat → List Nat := fun j => if j < n then popW last (ops j) else ops j
theorem exclO_succ (last n : Nat) (ops : Nat → List Nat) (j : Nat) : exclO last (n + 1) ops j = if j = n then popW last (ops n) else exclO last n ops j := by
  unfold exclO
  by_cases h : j = n
  · subst h; rw [if_pos (by omega), if_pos rfl]
  · rw [if_neg h]
    by_cases h2 : j < n
    · rw [if_pos (by omega), if_pos h2]
    · rw [if_neg (by omega), if_neg h2]
theorem exclO_at (last n : Nat) (ops : Nat → List Nat) : exclO last n ops n = ops n := by unfold exclO; rw [if_neg (by omega)]
end Go.Pub
namespace Go.Proofs.Ytfnloonmeilhlaa
open Go.RowKit Go.Pub
/-- Blocks that are known to stay. -/
def KpS (S : Nat → Prop) (w w' : World) : Prop := ∀ q, S q → w'.heap[q]? = w.heap[q]?
/-- Lists of openers in memory: what is left of EmR when elements and matches stay. -/
def ExPost (base p : Nat) (L vE vP : Value) (S : Nat → Prop) (vs : List (Array Value)) (st' : EmS) (w : World) (e : Ending) (w' : World) : Prop :=
  ∃ vO', e = .returned (.tuple #[]) ∧ EmR w' base p L vE vO' vP S vs st' ∧ Below base w w' ∧ KpS S w w'
theorem own_cap {w : World} {base n m s : Nat} {e : TypeId} {A : Option Addr} {c : Nat} {xs : List Value} (h : w.ownsRow base e s (.slice A n c) m xs) : m ≤ c := by
  rcases h.2 with ⟨e, h0⟩ | ⟨g', cap', cur, e, h0, hg, h1, _⟩
  · omega
  · injection e with e1 e2 e3
    omega
theorem own_prefix {w : World} {base n m : Nat} {e : TypeId} {A : Option Addr} {c : Nat} {l : List Nat} (h : w.ownsRow base e 1 (.slice A n c) n (intsV l)) (hm : m ≤ n) : w.ownsRow base e 1 (.slice A m c) m (intsV (l.take m)) := by
  have hl : l.length = n := by have := h.1; rw [intsV_len] at this; omega
  refine ⟨by rw [intsV_len, List.length_take]; omega, ?_⟩
  rcases h.2 with ⟨e, h0⟩ | ⟨g', cap', cur, e, h0, hg, h1, h2, h3, h4⟩
  · injection e with e1 e2 e3
    subst e1; subst e3
    exact .inl ⟨by rw [show m = 0 by omega], by omega⟩
  · injection e with e1 e2 e3
    subst e1; subst e3
    refine .inr ⟨g', c, cur, rfl, h0, hg, by omega, h2, h3, ?_⟩
    have : intsV (l.take m) = (intsV l).take m := by unfold intsV; rw [List.map_take]
    rw [this, ← h4, List.take_take]
    congr 1; omega
section
variable {w w' : World} {base p : Nat} {L vE vP : Value} {vO : Nat → Value} {S : Nat → Prop} {vs : List (Array Value)} {st : EmS}
theorem EmR.opsEq (h : EmR w base p L vE vO vP S vs st) {ops' : Nat → List Nat} (he : ∀ j, j < 18 → ops' j = st.ops j) : EmR w base p L vE vO vP S vs { st with ops := ops' } :=
  ⟨h.bp, h.cel, h.els, h.rep, fun j hj => by show World.ownsRow _ _ _ _ _ (ops' j).length (intsV (ops' j)); rw [he j hj]; exact h.ops j hj, h.prs, h.apart, h.low, h.fro⟩
theorem EmR.setOp (h : EmR w base p L vE vO vP S vs st) (j : Nat) (hj : j < 18) {v : Value} {l : List Nat} (hv : w.ownsRow base 3 1 v l.length (intsV l)) (hb : v.ownBlock = none ∨ v.ownBlock = (vO j).ownBlock) :
    EmR (w.setCell ⟨p, 2 + j, none⟩ v) base p L vE (fun i => if i = j then v else vO i) vP S vs { st with ops := fun i => if i = j then l else st.ops i } ∧ Below base w (w.setCell ⟨p, 2 + j, none⟩ v) ∧ ∀ q, S q → (w.setCell ⟨p, 2 + j, none⟩ v).heap[q]? = w.heap[q]? := by
  obtain ⟨cs, hbk, _⟩ := h.cel.blk
  have hkeep : ∀ {n s : Nat} {t : TypeId} {u : Value} {x : List Value}, w.ownsRow base t s u n x → t ≠ 69 → (w.setCell ⟨p, 2 + j, none⟩ v).ownsRow base t s u n x := fun ho h2 =>
    ho.kept (row := some p) ⟨rfl, rfl, rfl, by simp [World.setCell], fun k _ hk => Below.heap_setCell w ⟨p, 2 + j, none⟩ _ k (fun e => hk (by rw [e]))⟩ (.inr (own_blk ho hbk h2))
  refine ⟨⟨h.bp, h.cel.setO j hj v, hkeep h.els (by decide), h.rep.keep (fun k hk => Below.heap_setCell w ⟨p, 2 + j, none⟩ _ k (h.notS hk).1) fun _ h => h, fun i hi => ?_, hkeep h.prs (by decide), fun i k hi hk hne => ?_, h.low, fun k hk => ⟨by simpa [World.setCell] using (h.fro k hk).1, fun hbk => ?_⟩⟩, (Below.refl _ w).setCell (p := ⟨p, 2 + j, none⟩) h.bp v, fun q hq => Below.heap_setCell w ⟨p, 2 + j, none⟩ _ q (h.notS hq).1⟩
  · by_cases hij : i = j
    · subst hij
      show World.ownsRow _ _ _ _ (if i = i then v else vO i) (if i = i then l else st.ops i).length (intsV (if i = i then l else st.ops i))
      rw [if_pos rfl, if_pos rfl]
      exact hkeep hv (by decide)
    · show World.ownsRow _ _ _ _ (if i = j then v else vO i) (if i = j then l else st.ops i).length (intsV (if i = j then l else st.ops i))
      rw [if_neg hij, if_neg hij]
      exact hkeep (h.ops i hi) (by decide)
  · show (if i = j then v else vO i).ownBlock = none ∨ (if i = j then v else vO i).ownBlock ≠ (if k = j then v else vO k).ownBlock
    by_cases hij : i = j
    · rw [if_pos hij, if_neg (by omega)]
      rcases hb with hb | hb
      · exact .inl hb
      · rw [hb]; exact h.apart j k hj hk (by omega)
    · rw [if_neg hij]
      by_cases hkj : k = j
      · rw [if_pos hkj]
        rcases h.apart i j hi hj hij with hh | hh
        · exact .inl hh
        · rcases hb with hb | hb
          · rw [hb]
            cases hx : (vO i).ownBlock with
            | none => exact .inl rfl
            | some q => exact .inr (by simp)
          · rw [hb]; exact .inr hh
      · rw [if_neg hkj]; exact h.apart i k hi hk hne
  · obtain ⟨n1, n2, n3, n4⟩ := h.notS hk
    refine ⟨n1, n2, fun i hi => ?_, n4⟩
    show (if i = j then v else vO i).ownBlock ≠ some k
    by_cases hij : i = j
    · rw [if_pos hij]
      rcases hb with hb | hb
      · rw [hb]; simp
      · rw [hb]; exact n3 j hj
    · rw [if_neg hij]; exact n3 i hi
end
set_option maxRecDepth 100000 in
set_option maxHeartbeats 4000000 in
theorem e_exclude {base p : Nat} {L vE vP : Value} {vO : Nat → Value} {S : Nat → Prop} {vs : List (Array Value)} {st : EmS} (w : World) (h : EmR w base p L vE vO vP S vs st) (last : Nat) :
    Calls Try.prog 60 #[.pointer (some ⟨p, 0, none⟩), .int .i64 last] w (ExPost base p L vE vP S vs { st with ops := fun j => popW last (st.ops j) } w) := by
  have h0 : EmR w base p L vE vO vP S vs { st with ops := exclO last 0 st.ops } := h.opsEq (fun j _ => by unfold exclO; rw [if_neg (by omega)])
  have H0 : Hid (∃ vO', EmR w base p L vE vO' vP S vs { st with ops := exclO last 0 st.ops } ∧ Below base w w ∧ KpS S w w) := Lib.hid ⟨_, h0, Below.refl _ _, fun _ _ => rfl⟩
  clear h h0
  go_enter Try.func60, Try.ntmps60
  go_wp2_with fail
  go_loopw [8] (fun v8 wr => ∃ c : Nat, c ≤ 3 ∧ v8 = .int .i64 c ∧ Hid (∃ vO', EmR wr base p L vE vO' vP S vs { st with ops := exclO last (c * 6) st.ops } ∧ Below base w wr ∧ KpS S w wr)) (fun v8 _ => 3 - (intOf v8).toNat)
  case atStart => exact ⟨0, by omega, rfl, H0⟩
  case round =>
    clear H0
    obtain ⟨c, hc, rfl, HI⟩ := hrel
    rename World => w1
    by_cases hc3 : c < 3
    · have hci : (c : Int) < 3 := by omega
      have hc0 : (0 : Int) ≤ (c : Int) := by omega
      go_wp2_with fail
      go_loopw [11] (fun v11 wr => ∃ d : Nat, d ≤ 3 ∧ v11 = .int .i64 d ∧ Hid (∃ vO', EmR wr base p L vE vO' vP S vs { st with ops := exclO last (c * 6 + d * 2) st.ops } ∧ Below base w wr ∧ KpS S w wr)) (fun v11 _ => 3 - (intOf v11).toNat)
      case atStart => exact ⟨0, by omega, rfl, HI⟩
      case round =>
        clear HI
        obtain ⟨d, hd, rfl, HI⟩ := hrel
        rename World => w2
        by_cases hd3 : d < 3
        · have hdi : (d : Int) < 3 := by omega
          have hd0 : (0 : Int) ≤ (d : Int) := by omega
          go_wp2_with fail
          go_loopw [14] (fun v14 wr => ∃ b : Nat, b ≤ 2 ∧ v14 = .int .i64 b ∧ Hid (∃ vO', EmR wr base p L vE vO' vP S vs { st with ops := exclO last (c * 6 + d * 2 + b) st.ops } ∧ Below base w wr ∧ KpS S w wr)) (fun v14 _ => 2 - (intOf v14).toNat)
          case atStart => exact ⟨0, by omega, rfl, HI⟩
          case round =>
            clear HI
            obtain ⟨b, hb, rfl, HI⟩ := hrel
            rename World => w3
            by_cases hb2 : b < 2
            · have hbi : (b : Int) < 2 := by omega
              have hb0 : (0 : Int) ≤ (b : Int) := by omega
              obtain ⟨vO', hE, hB, hKp⟩ := HI.out
              have hj : c * 6 + d * 2 + b < 18 := by omega
              have hcell := hE.cel.cO _ hj
              have hfz := hE.cel.frozen (2 + (c * 6 + d * 2 + b))
              rw [show 2 + (c * 6 + d * 2 + b) = 2 + c * 6 + d * 2 + b by omega] at hcell hfz
              have hown : w3.ownsRow base 3 1 (vO' (c * 6 + d * 2 + b)) (st.ops (c * 6 + d * 2 + b)).length (intsV (st.ops (c * 6 + d * 2 + b))) := by
                have := hE.ops _ hj
                rw [show EmS.ops _ = exclO last (c * 6 + d * 2 + b) st.ops from rfl, exclO_at] at this
                exact this
              obtain ⟨A, ca, hv, hlm, hA⟩ := own_form hown
              unfold maxLen at hlm
              rw [hv] at hcell hown
              have HE := Lib.hid hE
              have HV := Lib.hid hv
              have HB := Lib.hid hB
              have HKp := Lib.hid hKp
              have hcap := own_cap hown
              have HO := Lib.hid hown
              have HA := Lib.hid hA
              have HX := Lib.hid (exclO_succ last (c * 6 + d * 2 + b) st.ops)
              clear hE hv hB hown hA HI hKp
              generalize hlo : st.ops (c * 6 + d * 2 + b) = lo at *
              have HLO := Lib.hid hlo
              clear hlo
              go_wp2_with fail
              go_loop [7] (fun v7 => ∃ m : Nat, m ≤ lo.length ∧ v7 = .slice A m ca ∧ Hid (popW last (lo.take m) = popW last lo)) (fun v7 => match v7 with | .slice _ n _ => n | _ => 0)
              case atStart => exact ⟨lo.length, Nat.le_refl _, rfl, Lib.hid (by rw [List.take_length])⟩
              case round =>
                obtain ⟨m, hm, rfl, HT⟩ := hrel
                have HEND : Hid (popW last lo = lo.take m → ∀ W, W = w3.setCell ⟨p, 2 + c * 6 + d * 2 + b, none⟩ (.slice A m ca) → ∃ vO'', EmR W base p L vE vO'' vP S vs { st with ops := exclO last (c * 6 + d * 2 + (b + 1)) st.ops } ∧ Below base w W ∧ KpS S w W) := Lib.hid fun hp W hW => by
                  subst hW
                  obtain ⟨q1, q2, q3⟩ := HE.out.setOp _ hj (v := .slice A m ca) (l := lo.take m) (by
                    have := own_prefix HO.out hm
                    rwa [show (lo.take m).length = m by rw [List.length_take]; omega]) (.inr (by rw [HV.out]; cases A <;> rfl))
                  rw [show 2 + (c * 6 + d * 2 + b) = 2 + c * 6 + d * 2 + b by omega] at q1 q2 q3
                  refine ⟨_, q1.opsEq (ops' := exclO last (c * 6 + d * 2 + (b + 1)) st.ops) (fun j hj => ?_), HB.out.trans q2, fun q hq => (q3 q hq).trans (HKp.out q hq)⟩
                  rw [show c * 6 + d * 2 + (b + 1) = c * 6 + d * 2 + b + 1 by omega, HX.out, hp]
                rcases m with _ | j
                · have HF := Lib.hid (HEND.out (by rw [← HT.out]; rfl) _ rfl)
                  clear HEND
                  go_wp2_with fail
                  go_roundw
                  case rel => exact ⟨b + 1, by omega, by go_num, HF⟩
                  case measure => simp [intOf]; omega
                · have hjl : j < lo.length := hm
                  obtain ⟨gg, hA', hgo, hc2⟩ := HA.out (by omega)
                  subst hA'
                  have hcj : w3.cell? ⟨gg, j, none⟩ = some (.int .i64 (lo[j] : Nat)) := hc2 j _ (by unfold intsV; simp [hjl])
                  have hts : lo.take (j + 1) = lo.take j ++ [lo[j]] := List.take_succ_eq_append_getElem hjl
                  have HP := Lib.hid (popW_snoc last lo[j] (lo.take j))
                  rw [← hts] at HP
                  have hji : (j : Int) < (lo.length : Int) := by omega
                  have hjc : j ≤ ca := by omega
                  have hj0 : (0 : Int) ≤ (j : Int) := by omega
                  have e1 : ((j + 1 : Nat) : Int) - 1 = (j : Int) := by omega
                  clear hc2 hts
                  generalize lo[j] = x at *
                  by_cases hx : last < x
                  · have d1 : decide (x > last) = true := decide_eq_true hx
                    have d2 : decide (last < x) = true := decide_eq_true hx
                    have HF : Hid (popW last (lo.take j) = popW last lo) := Lib.hid (by rw [← HT.out, HP.out, if_pos hx])
                    clear HEND HP HT
                    go_wp2_with fail
                    go_round
                    case rel => exact ⟨j, by omega, rfl, HF⟩
                    case measure => simp
                  · have d1 : decide (x > last) = false := decide_eq_false hx
                    have d2 : decide (last < x) = false := decide_eq_false hx
                    have HF := Lib.hid (HEND.out (by rw [← HT.out, HP.out, if_neg hx]) _ rfl)
                    clear HEND HP HT
                    go_wp2_with fail
                    go_roundw
                    case rel => exact ⟨b + 1, by omega, by go_num, HF⟩
                    case measure => simp [intOf]; omega
            · obtain rfl : b = 2 := by omega
              have HF : Hid (∃ vO', EmR w3 base p L vE vO' vP S vs { st with ops := exclO last (c * 6 + (d + 1) * 2) st.ops } ∧ Below base w w3 ∧ KpS S w w3) := Lib.hid (by rw [show c * 6 + (d + 1) * 2 = c * 6 + d * 2 + 2 by omega]; exact HI.out)
              clear HI
              go_wp2_with fail
              go_roundw
              case rel => exact ⟨d + 1, by omega, by go_num, HF⟩
              case measure => simp [intOf]; omega
        · obtain rfl : d = 3 := by omega
          have HF : Hid (∃ vO', EmR w2 base p L vE vO' vP S vs { st with ops := exclO last ((c + 1) * 6) st.ops } ∧ Below base w w2 ∧ KpS S w w2) := Lib.hid (by rw [show (c + 1) * 6 = c * 6 + 3 * 2 by omega]; exact HI.out)
          clear HI
          go_wp2_with fail
          go_roundw
          case rel => exact ⟨c + 1, by omega, by go_num, HF⟩
          case measure => simp [intOf]; omega
    · obtain rfl : c = 3 := by omega
      go_wp2_with fail
      go_end0
      obtain ⟨vO', q1, q2⟩ := HI.out
      exact ⟨vO', rfl, q1.opsEq (fun j hj => by show popW last (st.ops j) = exclO last 18 st.ops j; unfold exclO; rw [if_pos hj]), q2⟩

end Go.Proofs.Ytfnloonmeilhlaa
namespace Go.Pub
open Go.RowKit
/-- A list with others set from o on. -/
def setL : List Value → Nat → List Value → List Value
  | xs, _, [] => xs
  | xs, o, v :: r => setL (xs.set o v) (o + 1) r
theorem setL_app : ∀ (vs a b : List Value), b.length = vs.length → setL (a ++ b) a.length vs = a ++ vs
  | [], a, b, h => by
    have : b = [] := List.length_eq_zero_iff.1 h
    subst this; rfl
  | v :: r, a, b, h => by
    cases b with
    | nil => cases h
    | cons x b =>
      unfold setL
      rw [List.set_append_right _ _ (Nat.le_refl _), Nat.sub_self, List.set_cons_zero]
      have e : a ++ v :: b = (a ++ [v]) ++ b := by simp
      rw [e, show a.length + 1 = (a ++ [v]).length by simp, setL_app r (a ++ [v]) b (by simpa using h)]
      simp
theorem heap_setCells (g k : Nat) (h : k ≠ g) : ∀ (vs : List Value) (o : Nat) (W : World), (W.setCells g o vs).heap[k]? = W.heap[k]?
  | [], _, _ => rfl
  | v :: r, o, W => by
    rw [World.setCells, heap_setCells g k h r (o + 1) _]
    exact Below.heap_setCell W ⟨g, o, none⟩ v k h
theorem size_setCells (g : Nat) : ∀ (vs : List Value) (o : Nat) (W : World), (W.setCells g o vs).heap.size = W.heap.size
  | [], _, _ => rfl
  | v :: r, o, W => by
    rw [World.setCells, size_setCells g r (o + 1) _]
    simp [World.setCell]
theorem below_setCells {B : Nat} {w : World} (g : Nat) (hg : B ≤ g) : ∀ (vs : List Value) (o : Nat) (W : World), Below B w W → Below B w (W.setCells g o vs)
  | [], _, _, h => h
  | v :: r, o, W, h => by
    rw [World.setCells]
    exact below_setCells g hg r (o + 1) _ (h.setCell (p := ⟨g, o, none⟩) hg v)
theorem own_setCells {base : Nat} {e : TypeId} {size g cap n : Nat} : ∀ (vs : List Value) (o : Nat) (xs : List Value) (W : World), W.ownsRow base e size (.slice (some ⟨g, 0, none⟩) n cap) n xs → (W.setCells g o vs).ownsRow base e size (.slice (some ⟨g, 0, none⟩) n cap) n (setL xs o vs)
  | [], _, _, _, h => h
  | v :: r, o, xs, W, h => by
    rw [World.setCells]
    unfold setL
    exact own_setCells r (o + 1) _ _ (h.stored o v).1
end Go.Pub
namespace Go.Pub
theorem repL_eq (c : ByteArray) : ∀ n, Lib.repeatL c.data.toList n = repB c n
  | 0 => rfl
  | n + 1 => by
    show c.data.toList ++ Lib.repeatL c.data.toList n = _
    rw [repL_eq c n]
    show _ = c.toList ++ repB c n
    rw [Lib.toList_data]
end Go.Pub
namespace Go.Proofs.Ytfnloonmeilhlaa
open Go.RowKit Go.Pub
set_option maxRecDepth 100000 in
theorem inl_info : (Try.prog.info? 37).map (fun i => (i.zero, i.size, i.bytes)) = some (some (.agg #[.int .i64 0, .string ⟨#[]⟩, .string ⟨#[]⟩, .string ⟨#[]⟩, .string ⟨#[]⟩, .slice none 0 0, .slice none 0 0, .slice none 0 0, .slice none 0 0, .slice none 0 0]), 10, 192) := by kernel_rfl

theorem inl_size : (Try.prog.info? 37).map (·.size) = some 10 := by
  obtain ⟨i0, hi0, hz0, hz1, hz2⟩ := info_parts inl_info
  rw [hi0]; show some i0.size = _; rw [hz1]
set_option maxRecDepth 100000 in
theorem inl_fill (x0 x1 x2 x3 x4 x5 x6 x7 x8 x9 : Value) : Instr.fill (fun i => some (i * 10, 10)) ((Array.range (1 * 10)).map ((Value.agg #[.int .i64 0, .string ⟨#[]⟩, .string ⟨#[]⟩, .string ⟨#[]⟩, .string ⟨#[]⟩, .slice none 0 0, .slice none 0 0, .slice none 0 0, .slice none 0 0, .slice none 0 0]).cells[· % (Value.agg #[.int .i64 0, .string ⟨#[]⟩, .string ⟨#[]⟩, .string ⟨#[]⟩, .string ⟨#[]⟩, .slice none 0 0, .slice none 0 0, .slice none 0 0, .slice none 0 0, .slice none 0 0]).cells.size]!)) [(0, .agg #[x0, x1, x2, x3, x4, x5, x6, x7, x8, x9])] = some #[x0, x1, x2, x3, x4, x5, x6, x7, x8, x9] := by kernel_rfl

/-- A slice of one inline is laid. -/
theorem step_inSlice {ops : Array Oper} {o : Oper} {a : Act} {w : World} {K : Act → World → Prop} {Q : Exit → Act → World → Prop} {E : Prop} (hgd : o.guard = none) (x : Operand) (ho : o.op = .buildSlice 26 1 #[(0, x)])
    (x0 x1 x2 x3 x4 x5 x6 x7 x8 x9 : Value) (hx : a.eval x = .agg #[x0, x1, x2, x3, x4, x5, x6, x7, x8, x9])
    (h : K (a.put o.dst (.slice (some ⟨w.heap.size, 0, none⟩) 1 1)) (w.alloc (.cells #[x0, x1, x2, x3, x4, x5, x6, x7, x8, x9] 37))) :
    if Region.wanted o (yielded ops a.tmps) = true then Oper.wp Try.prog o a w K Q else E := by
  have hw : Region.wanted o (yielded ops a.tmps) = true := by simp [Region.wanted, hgd]
  rw [if_pos hw]
  obtain ⟨i0, hi0, hz0, hz1, hz2⟩ := info_parts inl_info
  refine wp_buildSlice 26 37 1 _ ho _ i0 _ Try.underlying26 hi0 hz0 (by rw [hz1]; decide) (by rw [hz1]; decide) ?_ h
  rw [hz1]
  have e : (#[((0 : Nat), x)].map fun (q : Nat × Operand) => (q.1, a.eval q.2)).toList = [(0, a.eval x)] := by simp
  rw [hx] at e
  show Instr.fill _ _ (#[((0 : Nat), x)].map fun (q : Nat × Operand) => (q.1, a.eval q.2)).toList = _
  rw [e]
  exact inl_fill x0 x1 x2 x3 x4 x5 x6 x7 x8 x9
/-- What the closure leaves. -/
def Bet1Post (B sb ob n : Nat) (S : Nat → Prop) (xs : List Value) (t : InT) (w : World) (e : Ending) (w' : World) : Prop :=
  ∃ g cap v, e = .returned (.tuple #[]) ∧ RepI w' S v t ∧ Blk w' ob 26 #[.slice (some ⟨g, 0, none⟩) (n + 1) cap] ∧ w'.ownsRow B 37 10 (.slice (some ⟨g, 0, none⟩) (n + 1) cap) (n + 1) (xs ++ v.toList) ∧ Below B w w' ∧ w'.heap[sb]? = w.heap[sb]?
/-- What the closure leaves, whichever of its two stores comes first. -/
theorem bet1_end {B sb ob n g2 cap2 : Nat} {S : Nat → Prop} {xs zs : List Value} {v : Value} {t : InT} {w W3 w2 : World} {u : Array Value} {cs : Array Value} {x : Obj} (hu : u.toList.length = 10) (hob : Blk w ob 26 #[v]) (hsb : Blk w sb 56 cs) (hso : sb ≠ ob) (hBs : B ≤ sb) (hBo : B ≤ ob) (hSB : ∀ g, S g → g < B)
    (hBw : B ≤ w.heap.size) (hown0 : w.ownsRow B 37 10 v n xs) (q1 : Below w.heap.size w W3) (q3 : RepI W3 S u t) (hown : w2.ownsRow B 37 10 (.slice (some ⟨g2, 0, none⟩) (n + 1) cap2) (n + 1) (xs ++ zs)) (hz : zs.length = 10) (hgrow : (W3.drew.alloc x).grownBy w2 v.ownBlock) :
    Blk w2 ob 26 #[v] ∧ g2 ≠ ob ∧ w2.there g2 (n * 10) 10 ∧ w2.heap[w.heap.size]? = (W3.drew.alloc x).heap[w.heap.size]? ∧ ∀ W5, (W5 = (w2.setCells g2 (n * 10) u.toList).setCell ⟨ob, 0, none⟩ (.slice (some ⟨g2, 0, none⟩) (n + 1) cap2) ∨ W5 = (w2.setCell ⟨ob, 0, none⟩ (.slice (some ⟨g2, 0, none⟩) (n + 1) cap2)).setCells g2 (n * 10) u.toList) → Bet1Post B sb ob n S xs t w (.returned (.tuple #[])) W5 := by
  have hxl : xs.length = n * 10 := hown0.1
  have hal : Below w.heap.size w (W3.drew.alloc x) := (q1.drew).alloc (by have := q1.size; show w.heap.size ≤ W3.heap.size; omega) x
  have hlt := hown0.lt
  have hvo : v.ownBlock ≠ some ob := own_blk hown0 hob (by decide)
  have hvs : v.ownBlock ≠ some sb := own_blk hown0 hsb (by decide)
  have hb2 : ∀ k, k < w.heap.size → v.ownBlock ≠ some k → w2.heap[k]? = w.heap[k]? := fun k hk hne => (hgrow.block k (by have := hal.size; omega) (fun e => hne e.symm)).trans (hal.block k hk)
  have hob2 : Blk w2 ob 26 #[v] := (hb2 ob hob.lt hvo).trans hob
  have hsb2 : Blk w2 sb 56 cs := (hb2 sb hsb.lt hvs).trans hsb
  have hgo : g2 ≠ ob := fun e => own_blk hown hob2 (by decide) (by rw [e]; rfl)
  have hgs : g2 ≠ sb := fun e => own_blk hown hsb2 (by decide) (by rw [e]; rfl)
  have hBg : B ≤ g2 := (hown.lt g2 rfl).1
  have hth : w2.there g2 (n * 10) 10 := fun j hj => by
    refine ⟨?_, hown.frozenAt _⟩
    rw [hown.cellAt _ (by omega), List.getElem?_eq_getElem (by rw [List.length_append]; omega)]
    rfl
  have hBel2 : Below B w w2 := ⟨hgrow.os.trans hal.os, hgrow.tape.trans hal.tape, hgrow.output.trans hal.output, by have := hgrow.size; have := hal.size; omega, fun k hk => hb2 k (by omega) (fun e => by have := (hlt k e).1; omega)⟩
  refine ⟨hob2, hgo, hth, hgrow.block w.heap.size (by rw [World.size_alloc]; have := q1.size; show w.heap.size < W3.heap.size + 1; omega) (fun e => by have := (hlt _ e.symm).2; omega), fun W5 hW => ?_⟩
  have hq3 : ∀ W5 : World, Below B w W5 → RepI W5 S u t := fun W5 hb => q3.keep (fun g hg => (hb.block g (hSB g hg)).trans (q1.block g (by have := hSB g hg; omega)).symm) fun _ h => h
  have hset : ∀ (W : World), W.ownsRow B 37 10 (.slice (some ⟨g2, 0, none⟩) (n + 1) cap2) (n + 1) (xs ++ zs) → (W.setCells g2 (n * 10) u.toList).ownsRow B 37 10 (.slice (some ⟨g2, 0, none⟩) (n + 1) cap2) (n + 1) (xs ++ u.toList) := fun W h => by
    have := own_setCells u.toList (n * 10) _ _ h
    rwa [show setL (xs ++ zs) (n * 10) u.toList = xs ++ u.toList by rw [← hxl]; exact setL_app _ _ _ (by omega)] at this
  have hst : ∀ (W : World), Blk W ob 26 #[v] → W.ownsRow B 37 10 (.slice (some ⟨g2, 0, none⟩) (n + 1) cap2) (n + 1) (xs ++ u.toList) ∨ W.ownsRow B 37 10 (.slice (some ⟨g2, 0, none⟩) (n + 1) cap2) (n + 1) (xs ++ zs) → True := fun _ _ _ => trivial
  have hk1 : ∀ (W : World) (ys : List Value), W.ownsRow B 37 10 (.slice (some ⟨g2, 0, none⟩) (n + 1) cap2) (n + 1) ys → (W.setCell ⟨ob, 0, none⟩ (.slice (some ⟨g2, 0, none⟩) (n + 1) cap2)).ownsRow B 37 10 (.slice (some ⟨g2, 0, none⟩) (n + 1) cap2) (n + 1) ys := fun W ys h =>
    h.kept (row := some ob) ⟨rfl, rfl, rfl, by simp [World.setCell], fun k _ hk => Below.heap_setCell W ⟨ob, 0, none⟩ _ k (fun e => hk (by rw [e]))⟩ (.inr (fun e => hgo (by simpa [Value.ownBlock] using e)))
  rcases hW with rfl | rfl
  · have hb5 : Below B w ((w2.setCells g2 (n * 10) u.toList).setCell ⟨ob, 0, none⟩ (.slice (some ⟨g2, 0, none⟩) (n + 1) cap2)) := (below_setCells g2 hBg _ _ _ hBel2).setCell (p := ⟨ob, 0, none⟩) hBo _
    refine ⟨g2, cap2, u, rfl, hq3 _ hb5, ?_, hk1 _ _ (hset _ hown), hb5, ?_⟩
    · exact Blk.set_ ((heap_setCells g2 ob (Ne.symm hgo) _ _ _).trans hob2) 0 _
    · exact (Below.heap_setCell _ ⟨ob, 0, none⟩ _ sb hso).trans ((heap_setCells g2 sb (Ne.symm hgs) _ _ _).trans (hb2 sb hsb.lt hvs))
  · have hb5 : Below B w ((w2.setCell ⟨ob, 0, none⟩ (.slice (some ⟨g2, 0, none⟩) (n + 1) cap2)).setCells g2 (n * 10) u.toList) := below_setCells g2 hBg _ _ _ (hBel2.setCell (p := ⟨ob, 0, none⟩) hBo _)
    refine ⟨g2, cap2, u, rfl, hq3 _ hb5, ?_, hset _ (hk1 _ _ hown), hb5, ?_⟩
    · exact (heap_setCells g2 ob (Ne.symm hgo) _ _ _).trans (Blk.set_ hob2 0 _)
    · exact (heap_setCells g2 sb (Ne.symm hgs) _ _ _).trans ((Below.heap_setCell _ ⟨ob, 0, none⟩ _ sb hso).trans (hb2 sb hsb.lt hvs))
theorem step_store_mid {ops : Array Oper} {o : Oper} {a : Act} {w : World} {K : Act → World → Prop} {Q : Exit → Act → World → Prop} {E : Prop} (hgd : o.guard = none) (ty : TypeId) (x y : Operand) (ho : o.op = .store ty x y)
    (b f : Nat) (cells : Array Value) (hx : a.eval x = .pointer (some ⟨b, f, none⟩)) (hy : a.eval y = .agg cells) (ht : w.there b f cells.size) (hi : (Try.prog.info? ty).map (·.size) = some cells.size) (h1 : cells.all (·.oneCell') = true)
    (h : K (a.put o.dst undef) (w.setCells b f cells.toList)) : if Region.wanted o (yielded ops a.tmps) = true then Oper.wp Try.prog o a w K Q else E := by
  have hw : Region.wanted o (yielded ops a.tmps) = true := by simp [Region.wanted, hgd]
  rw [if_pos hw]
  exact wp_store_mid ty x y ho b f cells hx hy ht hi h1 h
set_option maxRecDepth 100000 in
set_option maxHeartbeats 4000000 in
theorem e_bet1 {B sb ob p n : Nat} {S : Nat → Prop} {L v : Value} {ps : List PcT} {xs : List Value} (w : World) (hL : PcsR w S L ps) (hSB : ∀ g, S g → g < B) (hp : p < B) (c0 : w.cell? ⟨p, 0, none⟩ = some L)
    (hsb : Blk w sb 56 #[.pointer (some ⟨p, 0, none⟩)]) (hob : Blk w ob 26 #[v]) (hBs : B ≤ sb) (hBo : B ≤ ob) (hown : w.ownsRow B 37 10 v n xs) (hn : n ≤ 1000000)
    (x0 x1 x2 x3 x4 x5 x6 x7 x8 x9 : Value) (e : ElL) (hr : RepI w S #[x0, x1, x2, x3, x4, x5, x6, x7, x8, x9] e.t) (hrun : e.run = true → e.pc < ps.length ∧ (pcX ps e.pc).ch.size * e.left ≤ 1000000 ∧ e.left ≤ 1000000) :
    Calls Try.prog 38 #[.agg #[x0, x1, x2, x3, x4, x5, x6, x7, x8, x9, .bool e.run, .int .i64 e.pc, .int .i64 e.left, .int .i64 e.before, .int .i64 e.next], .pointer (some ⟨sb, 0, none⟩), .pointer (some ⟨ob, 0, none⟩)] w (Bet1Post B sb ob n S xs (toI ps e) w) := by
  have hBw : B ≤ w.heap.size := by have := hsb.lt; omega
  have hso : sb ≠ ob := fun h => by
    subst h
    unfold Blk at hsb hob
    rw [hsb] at hob
    injection hob with hob
    injection hob with _ ht
    exact absurd ht (by decide)
  have s1 : w.cell? ⟨sb, 0, none⟩ = some (.pointer (some ⟨p, 0, none⟩)) := hsb.cell 0
  have HK : Hid (∀ W' x0' x1' x2' x3' x4' x5' x6' x7' x8' x9', Below w.heap.size w W' → W'.rangeAt w.heap.size 0 [x0', x1', x2', x3', x4', x5', x6', x7', x8', x9'] → RepI W' S #[x0', x1', x2', x3', x4', x5', x6', x7', x8', x9'] (toI ps e) → True) := Lib.hid fun _ _ _ _ _ _ _ _ _ _ _ _ _ _ => trivial
  have hz1 := hsb.lt
  have hz2 := hob.lt
  have HO := Lib.hid hob
  have HS := Lib.hid hsb
  have HW := Lib.hid hown
  have HR := Lib.hid hr
  have H10 := Lib.hid hr.one
  clear hsb hob hown hr HK
  obtain ⟨t, run, pc, left, bfr, nxt⟩ := e
  cases run
  have HT : Hid (toI ps ⟨t, false, pc, left, bfr, nxt⟩ = t) := Lib.hid (by unfold toI; rw [if_neg (by simp)])
  generalize toI ps ⟨t, false, pc, left, bfr, nxt⟩ = R at *
  clear hrun
  go_enter Try.func38, Try.ntmps38
  go_wp2_with fail
  have HX : ∃ u0 u1 u2 u3 u4 u5 u6 u7 u8 u9, Hid (Below w.heap.size w (w.alloc (.cells #[x0, x1, x2, x3, x4, x5, x6, x7, x8, x9, .bool false, .int .i64 pc, .int .i64 left, .int .i64 bfr, .int .i64 nxt] 76)) ∧ (w.alloc (.cells #[x0, x1, x2, x3, x4, x5, x6, x7, x8, x9, .bool false, .int .i64 pc, .int .i64 left, .int .i64 bfr, .int .i64 nxt] 76)).rangeAt w.heap.size 0 [u0, u1, u2, u3, u4, u5, u6, u7, u8, u9] ∧ RepI (w.alloc (.cells #[x0, x1, x2, x3, x4, x5, x6, x7, x8, x9, .bool false, .int .i64 pc, .int .i64 left, .int .i64 bfr, .int .i64 nxt] 76)) S #[u0, u1, u2, u3, u4, u5, u6, u7, u8, u9] R ∧ w.heap.size < (w.alloc (.cells #[x0, x1, x2, x3, x4, x5, x6, x7, x8, x9, .bool false, .int .i64 pc, .int .i64 left, .int .i64 bfr, .int .i64 nxt] 76)).heap.size) := by
    have hb : Below w.heap.size w (w.alloc (.cells #[x0, x1, x2, x3, x4, x5, x6, x7, x8, x9, .bool false, .int .i64 pc, .int .i64 left, .int .i64 bfr, .int .i64 nxt] 76)) := (Below.refl _ w).alloc (Nat.le_refl _) _
    have hk := Blk.new w 76 #[x0, x1, x2, x3, x4, x5, x6, x7, x8, x9, .bool false, .int .i64 pc, .int .i64 left, .int .i64 bfr, .int .i64 nxt]
    refine ⟨x0, x1, x2, x3, x4, x5, x6, x7, x8, x9, Lib.hid ⟨hb, fun j u hj => ?_, ?_, by simp⟩⟩
    · have hj10 := (List.getElem?_eq_some_iff.1 hj).1
      simp only [List.length_cons, List.length_nil] at hj10
      rw [Nat.zero_add, hk.cell j, ← hj, ← Array.getElem?_toList]
      exact (List.getElem?_append_left (l₁ := [x0, x1, x2, x3, x4, x5, x6, x7, x8, x9]) (l₂ := [.bool false, .int .i64 pc, .int .i64 left, .int .i64 bfr, .int .i64 nxt]) (by simpa using hj10))
    · rw [HT.out]
      exact HR.out.keep (fun g hg => hb.block g (by have := hSB g hg; omega)) fun _ h => h
  generalize w.alloc (.cells #[x0, x1, x2, x3, x4, x5, x6, x7, x8, x9, .bool false, .int .i64 pc, .int .i64 left, .int .i64 bfr, .int .i64 nxt] 76) = W3 at *
  clear s1 c0 hL
  rotate_left
  obtain ⟨hpcl, hsz, hlf⟩ := hrun (by simp)
  try dsimp only at hpcl hsz hlf
  obtain ⟨bb, off, cl, rfl, hSb, hpc⟩ := hL.opn (by omega)
  obtain ⟨y0, y1, y2, y3, y4, y5, y6, y7, y8, y9, -, hrg, -⟩ := hpc pc hpcl
  have hch : w.cell? ⟨bb, off + pc * 18 + 11, none⟩ = some (.string (pcX ps pc).ch) := hrg 11 _ rfl
  have hbl : bb < w.heap.size := by have := hSB bb hSb; omega
  have hpw : p < w.heap.size := by omega
  have hpi : (pc : Int) < (ps.length : Int) := by omega
  have hp0 : (0 : Int) ≤ (pc : Int) := by omega
  have HREP := Lib.hid fun W => Try.strings_Repeat (pcX ps pc).ch left W (by omega) (by omega)
  have HT : Hid (toI ps ⟨t, true, pc, left, bfr, nxt⟩ = txtT 1 ⟨(Lib.repeatL (pcX ps pc).ch.data.toList left).toArray⟩) := Lib.hid (by unfold toI; rw [if_pos rfl, repL_eq])
  generalize toI ps ⟨t, true, pc, left, bfr, nxt⟩ = R at *
  generalize (⟨(Lib.repeatL (pcX ps pc).ch.data.toList left).toArray⟩ : ByteArray) = tx at *
  generalize (pcX ps pc).ch = ch at *
  clear hrun hrg hpc hL
  go_enter Try.func38, Try.ntmps38
  go_wp2_with fail
  go_quiet (fail)
  go_wp2_with fail
  have hb1 : Below w.heap.size w ((w.alloc (.cells #[x0, x1, x2, x3, x4, x5, x6, x7, x8, x9, .bool true, .int .i64 pc, .int .i64 left, .int .i64 bfr, .int .i64 nxt] 76)).drewN nq) := below_drewN ((Below.refl _ w).alloc (Nat.le_refl _) _) nq
  have hk1 : Blk ((w.alloc (.cells #[x0, x1, x2, x3, x4, x5, x6, x7, x8, x9, .bool true, .int .i64 pc, .int .i64 left, .int .i64 bfr, .int .i64 nxt] 76)).drewN nq) w.heap.size 76 #[x0, x1, x2, x3, x4, x5, x6, x7, x8, x9, .bool true, .int .i64 pc, .int .i64 left, .int .i64 bfr, .int .i64 nxt] := Blk.new w 76 #[x0, x1, x2, x3, x4, x5, x6, x7, x8, x9, .bool true, .int .i64 pc, .int .i64 left, .int .i64 bfr, .int .i64 nxt]
  generalize (w.alloc (.cells #[x0, x1, x2, x3, x4, x5, x6, x7, x8, x9, .bool true, .int .i64 pc, .int .i64 left, .int .i64 bfr, .int .i64 nxt] 76)).drewN nq = W1 at *
  ((with_reducible refine (HREP.out _).mono ?_))
  rintro e W2 ⟨rfl, hb2⟩
  have hk2 := hk1.below hb2 hk1.lt
  have hb3 := hb1.trans (hb2.mono hb1.size)
  have hth : W2.there w.heap.size 0 10 := fun j hj => by
    refine ⟨?_, by rw [Nat.zero_add]; exact hk2.frozen j⟩
    rw [Nat.zero_add, hk2.cell j, Array.getElem?_eq_getElem (by show j < 15; omega)]
    rfl
  have HTH := Lib.hid hth
  have HB3 := Lib.hid hb3
  have HK2 := Lib.hid hk2
  clear hth hb3 hk2 hb2 hk1 hb1 s1 hch c0
  go_wp2_with (refine wpList_store_mid rfl 37 (.tmp 21) (.tmp 20) rfl w.heap.size 0 #[.int .i64 1, .string tx, .string ⟨#[]⟩, .string ⟨#[]⟩, .string ⟨#[]⟩, .slice none 0 0, .slice none 0 0, .slice none 0 0, .slice none 0 0, .slice none 0 0] rfl rfl HTH.out inl_size (by simp [Value.oneCell']) ?_)
  have HX : ∃ u0 u1 u2 u3 u4 u5 u6 u7 u8 u9, Hid (Below w.heap.size w (W2.setCells w.heap.size 0 #[.int .i64 1, .string tx, .string ⟨#[]⟩, .string ⟨#[]⟩, .string ⟨#[]⟩, .slice none 0 0, .slice none 0 0, .slice none 0 0, .slice none 0 0, .slice none 0 0].toList) ∧ (W2.setCells w.heap.size 0 #[.int .i64 1, .string tx, .string ⟨#[]⟩, .string ⟨#[]⟩, .string ⟨#[]⟩, .slice none 0 0, .slice none 0 0, .slice none 0 0, .slice none 0 0, .slice none 0 0].toList).rangeAt w.heap.size 0 [u0, u1, u2, u3, u4, u5, u6, u7, u8, u9] ∧ RepI (W2.setCells w.heap.size 0 #[.int .i64 1, .string tx, .string ⟨#[]⟩, .string ⟨#[]⟩, .string ⟨#[]⟩, .slice none 0 0, .slice none 0 0, .slice none 0 0, .slice none 0 0, .slice none 0 0].toList) S #[u0, u1, u2, u3, u4, u5, u6, u7, u8, u9] R ∧ w.heap.size < (W2.setCells w.heap.size 0 #[.int .i64 1, .string tx, .string ⟨#[]⟩, .string ⟨#[]⟩, .string ⟨#[]⟩, .slice none 0 0, .slice none 0 0, .slice none 0 0, .slice none 0 0, .slice none 0 0].toList).heap.size) := by
    refine ⟨.int .i64 1, .string tx, .string ⟨#[]⟩, .string ⟨#[]⟩, .string ⟨#[]⟩, .slice none 0 0, .slice none 0 0, .slice none 0 0, .slice none 0 0, .slice none 0 0, Lib.hid ⟨below_setCells _ (Nat.le_refl _) _ _ _ HB3.out, World.rangeAt_setCells_same _ _ _ _ HTH.out, ?_, by rw [size_setCells]; exact HK2.out.lt⟩⟩
    rw [HT.out]
    exact .mk 1 tx ⟨#[]⟩ ⟨#[]⟩ noAt [] [] [] none none none none none 0 0 0 0 0 [] ReadsS.none_ ReadsS.none_ ReadsS.none_ ReadsS.none_ .nil ReadsS.none_
  generalize W2.setCells w.heap.size 0 #[.int .i64 1, .string tx, .string ⟨#[]⟩, .string ⟨#[]⟩, .string ⟨#[]⟩, .slice none 0 0, .slice none 0 0, .slice none 0 0, .slice none 0 0, .slice none 0 0].toList = W3 at *
  clear HTH HB3 HK2 HT HREP
  rotate_left
  all_goals
    obtain ⟨u0, u1, u2, u3, u4, u5, u6, u7, u8, u9, HX⟩ := HX
    obtain ⟨q1, q2, q3, q4⟩ := HX.out
    obtain ⟨A, cc, hv, hlm, -⟩ := own_form HW.out
    subst hv
    obtain ⟨i0, hi0, hz0, hz1, hz2'⟩ := info_parts inl_info
    have o1 : W3.cell? ⟨ob, 0, none⟩ = some (.slice A n cc) := (HO.out.below q1 hz2).cell 0
    have HW3 := own_below HW.out q1
    have HK : Hid (∀ W' : World, W'.heap[w.heap.size]? = W3.heap[w.heap.size]? → W'.rangeAt w.heap.size 0 [u0, u1, u2, u3, u4, u5, u6, u7, u8, u9]) := Lib.hid fun W' h j u hj => (World.cell?_of_block h).trans (q2 j u hj)
    have H1 := Lib.hid q3.one
    have HEND := Lib.hid fun (w2 : World) (g2 cap2 : Nat) (x : Obj) (zs : List Value) (hown : w2.ownsRow B 37 10 (.slice (some ⟨g2, 0, none⟩) (n + 1) cap2) (n + 1) (xs ++ zs)) (hz : zs.length = 10) (hgrow : (W3.drew.alloc x).grownBy w2 (Value.slice A n cc).ownBlock) => bet1_end (u := #[u0, u1, u2, u3, u4, u5, u6, u7, u8, u9]) rfl HO.out HS.out hso hBs hBo hSB hBw HW.out q1 q3 hown hz hgrow
    have hz3 := q1.size
    have HQ3 := Lib.hid q3
    have HQ1 := Lib.hid q1
    clear q1 q2 q3 HX HR
    refine wp_region_held_drew (S := fun W' => W'.heap[w.heap.size]? = W3.heap[w.heap.size]?) (by kernel_rfl) rfl (fun hHeld => ?_)
    refine tk 1 (.pointer (some ⟨w.heap.size, 0, none⟩)) rfl hHeld (fun W' hSw => ?_) ?_
    · go_simp
    refine tkm 2 37 (.tmp 23) w.heap.size 0 [u0, u1, u2, u3, u4, u5, u6, u7, u8, u9] _ rfl hHeld rfl HK.out Try.underlying37 rfl inl_size ?_
    refine wpAnyH_ready (rs := [0, 4]) (by kernel_rfl) (by simp) (AllReadyH.cons rfl (fun K hK => ?_) (AllReadyH.cons rfl (fun K hK => ?_) AllReadyH.nil))
    go_simp
    refine hK.out _ _ rfl (fun hHeld => ?_)
    clear hK K
    refine tk 3 (.int .i64 n) rfl hHeld (fun W' hSw => ?_) ?_
    · go_simp
    refine rd1 4 rfl (fun K hK => ?_)
    refine step_inSlice rfl _ rfl (.int .i64 0) (.string ⟨#[]⟩) (.string ⟨#[]⟩) (.string ⟨#[]⟩) (.string ⟨#[]⟩) (.slice none 0 0) (.slice none 0 0) (.slice none 0 0) (.slice none 0 0) (.slice none 0 0) rfl ?_
    refine hK.out _ _ (Below.heap_alloc W3.drew _ _ (by show w.heap.size < W3.heap.size; omega)) (fun hHeld => ?_)
    clear hK K
    refine rd1 5 rfl (fun K hK => ?_)
    refine step_append_lies _ rfl (.tmp 22) (.tmp 26) 26 rfl B 37 i0 _ 10 192 Try.underlying26 hi0 hz0 hz1 hz2' rfl (by decide) _ _ _ rfl (HW3.alloc _) ⟨W3.heap.size, 0, none⟩ 1 1 [.int .i64 0, .string ⟨#[]⟩, .string ⟨#[]⟩, .string ⟨#[]⟩, .string ⟨#[]⟩, .slice none 0 0, .slice none 0 0, .slice none 0 0, .slice none 0 0, .slice none 0 0] rfl rfl ?c1 ?c2 (by decide) ?c3 ?c4 ?c5 (W3.heap.size + 1) ?c6 ?_
    case c1 => exact World.news_of_block (t := 37) (fr := (0, 0)) (heap_alloc_new W3.drew _)
    case c2 => simp [Value.oneCell']
    case c3 => unfold maxLen; omega
    case c4 => omega
    case c5 => simp; omega
    case c6 => simp
    intro g2 cap2 w2 hown hgrow0 hlies hlt2
    have hs2 : w2.heap[w.heap.size]? = W3.heap[w.heap.size]? := (HEND.out w2 g2 cap2 _ _ hown rfl hgrow0).2.2.2.1.trans (Below.heap_alloc W3.drew _ _ (by show w.heap.size < W3.heap.size; omega))
    have HE := Lib.hid (HEND.out w2 g2 cap2 _ _ hown rfl hgrow0)
    have hg2 : g2 ≠ w.heap.size := by
      rcases hlies with hl | hl
      · have := (HW.out.lt g2 (show (Value.slice A n cc).ownBlock = some g2 from hl)).2
        omega
      · omega
    clear hown hgrow0 hlies
    refine hK.out _ _ hs2 (fun hHeld => ?_)
    clear hK K
    rotate_left
    refine step_inSlice rfl _ rfl (.int .i64 0) (.string ⟨#[]⟩) (.string ⟨#[]⟩) (.string ⟨#[]⟩) (.string ⟨#[]⟩) (.slice none 0 0) (.slice none 0 0) (.slice none 0 0) (.slice none 0 0) (.slice none 0 0) rfl ?_
    refine hK.out _ _ (Below.heap_alloc W3.drew _ _ (by show w.heap.size < W3.heap.size; omega)) (fun hHeld => ?_)
    clear hK K
    have o2 : (W3.alloc (.cells #[.int .i64 0, .string ⟨#[]⟩, .string ⟨#[]⟩, .string ⟨#[]⟩, .string ⟨#[]⟩, .slice none 0 0, .slice none 0 0, .slice none 0 0, .slice none 0 0, .slice none 0 0] 37)).cell? ⟨ob, 0, none⟩ = some (.slice A n cc) := (World.cell?_alloc_lt W3 _ ⟨ob, 0, none⟩ (by show ob < W3.heap.size; omega)).trans o1
    refine rd1 0 rfl (fun K hK => ?_)
    go_simp
    refine hK.out _ _ (Below.heap_alloc W3.drew _ _ (by show w.heap.size < W3.heap.size; omega)) (fun hHeld => ?_)
    clear hK K o2
    refine tk 3 (.int .i64 n) rfl hHeld (fun W' hSw => ?_) ?_
    · go_simp
    refine rd1 5 rfl (fun K hK => ?_)
    refine step_append_lies _ rfl (.tmp 22) (.tmp 26) 26 rfl B 37 i0 _ 10 192 Try.underlying26 hi0 hz0 hz1 hz2' rfl (by decide) _ _ _ rfl (HW3.alloc _) ⟨W3.heap.size, 0, none⟩ 1 1 [.int .i64 0, .string ⟨#[]⟩, .string ⟨#[]⟩, .string ⟨#[]⟩, .string ⟨#[]⟩, .slice none 0 0, .slice none 0 0, .slice none 0 0, .slice none 0 0, .slice none 0 0] rfl rfl ?d1 ?d2 (by decide) ?d3 ?d4 ?d5 (W3.heap.size + 1) ?d6 ?_
    case d1 => exact World.news_of_block (t := 37) (fr := (0, 0)) (heap_alloc_new W3.drew _)
    case d2 => simp [Value.oneCell']
    case d3 => unfold maxLen; omega
    case d4 => omega
    case d5 => simp; omega
    case d6 => simp
    intro g2 cap2 w2 hown hgrow0 hlies hlt2
    have hs2 : w2.heap[w.heap.size]? = W3.heap[w.heap.size]? := (HEND.out w2 g2 cap2 _ _ hown rfl hgrow0).2.2.2.1.trans (Below.heap_alloc W3.drew _ _ (by show w.heap.size < W3.heap.size; omega))
    have HE := Lib.hid (HEND.out w2 g2 cap2 _ _ hown rfl hgrow0)
    have hg2 : g2 ≠ w.heap.size := by
      rcases hlies with hl | hl
      · have := (HW.out.lt g2 (show (Value.slice A n cc).ownBlock = some g2 from hl)).2
        omega
      · omega
    clear hown hgrow0 hlies
    refine hK.out _ _ hs2 (fun hHeld => ?_)
    clear hK K
    rotate_left
    all_goals
      obtain ⟨e1, e2, e3, -, e5⟩ := HE.out
      have f1 := e1.frozen 0
      have e1c := e1.cell 0
      have hn1 : (n : Int) < (n : Int) + 1 := by omega
      have HE1 := Lib.hid e1
      have HE3 := Lib.hid e3
      have HE5 := Lib.hid e5
      have hob1 := e1.lt
      clear e1 e3 e5 HE HEND
      refine tk 6 (.pointer (some ⟨g2, n * 10, none⟩)) rfl hHeld (fun W' hSw => ?_) ?_
      · go_simp
      refine wpAnyH_ready (rs := [7, 8]) (by kernel_rfl) (by simp) (AllReadyH.cons rfl (fun K hK => ?_) (AllReadyH.cons rfl (fun K hK => ?_) AllReadyH.nil))
      · refine step_store_mid rfl 37 (.tmp 28) (.tmp 24) rfl g2 (n * 10) #[u0, u1, u2, u3, u4, u5, u6, u7, u8, u9] (by kernel_rfl) (by kernel_rfl) HE3.out inl_size (by simpa using H1.out) ?_
        have hsA : (w2.setCells g2 (n * 10) #[u0, u1, u2, u3, u4, u5, u6, u7, u8, u9].toList).heap[w.heap.size]? = W3.heap[w.heap.size]? := (heap_setCells g2 _ (Ne.symm hg2) _ _ _).trans hs2
        refine hK.out _ _ hsA (fun hHeld => ?_)
        clear hK K
        have e1' : Blk (w2.setCells g2 (n * 10) #[u0, u1, u2, u3, u4, u5, u6, u7, u8, u9].toList) ob 26 #[.slice A n cc] := (heap_setCells g2 ob (Ne.symm e2) _ _ _).trans HE1.out
        have e1c' := e1'.cell 0
        have f1' := e1'.frozen 0
        have HF := Lib.hid (HE5.out _ (.inl rfl))
        clear e1c f1 e1'
        generalize w2.setCells g2 (n * 10) #[u0, u1, u2, u3, u4, u5, u6, u7, u8, u9].toList = w4 at *
        refine rd1 8 rfl (fun K hK => ?_)
        go_simp
        refine hK.out _ _ ((Below.heap_setCell w4 ⟨ob, 0, none⟩ _ _ (by show w.heap.size ≠ ob; omega)).trans hsA) (fun hHeld => ?_)
        clear hK K
        refine wpAnyH_done (by kernel_rfl) ?_ _
        go_wp2_with fail
        go_end0
        exact HF.out
      · go_simp
        have hsA : (w2.setCell ⟨ob, 0, none⟩ (.slice (some ⟨g2, 0, none⟩) (n + 1) cap2)).heap[w.heap.size]? = W3.heap[w.heap.size]? := (Below.heap_setCell w2 ⟨ob, 0, none⟩ _ _ (by show w.heap.size ≠ ob; omega)).trans hs2
        refine hK.out _ _ hsA (fun hHeld => ?_)
        clear hK K
        refine rd1 7 rfl (fun K hK => ?_)
        have hth : (w2.setCell ⟨ob, 0, none⟩ (.slice (some ⟨g2, 0, none⟩) (n + 1) cap2)).there g2 (n * 10) 10 := fun j hj => by
          have h3 := HE3.out j hj
          have hb := Below.heap_setCell w2 ⟨ob, 0, none⟩ (.slice (some ⟨g2, 0, none⟩) (n + 1) cap2) g2 e2
          exact ⟨by rw [World.cell?_of_block (a := ⟨g2, n * 10 + j, none⟩) hb]; exact h3.1, by rw [World.frozen?_of_block (a := ⟨g2, n * 10 + j, none⟩) hb]; exact h3.2⟩
        refine step_store_mid rfl 37 (.tmp 28) (.tmp 24) rfl g2 (n * 10) #[u0, u1, u2, u3, u4, u5, u6, u7, u8, u9] (by kernel_rfl) (by kernel_rfl) hth inl_size (by simpa using H1.out) ?_
        refine hK.out _ _ ((heap_setCells g2 _ (Ne.symm hg2) _ _ _).trans hsA) (fun hHeld => ?_)
        clear hK K
        have HF := Lib.hid (HE5.out _ (.inr rfl))
        refine wpAnyH_done (by kernel_rfl) ?_ _
        go_wp2_with fail
        go_end0
        exact HF.out

end Go.Proofs.Ytfnloonmeilhlaa
namespace Go.Pub
def hdOr : List Nat → Nat → Nat
  | [], c => c
  | i :: _, _ => i
theorem LinkL.hd {xs : List ElL} : ∀ {l : List Nat} {a b : Nat}, LinkL xs a l b → nx xs a = hdOr l b
  | [], _, _, h => h.1
  | _ :: _, _, _, h => h.1
end Go.Pub
namespace Go.Proofs.Ytfnloonmeilhlaa
open Go.RowKit Go.Pub
def BetPost (S : Nat → Prop) (B : Nat) (l : List InT) (w : World) (e : Ending) (w' : World) : Prop :=
  ∃ v vs, e = .returned v ∧ RepIs w' S vs l ∧ w'.ownsRow B 37 10 v l.length (vs.flatMap Array.toList) ∧ Below B w w'
/-- What holds in the loop: the first elements are done. -/
structure BtW (w : World) (B sb ob p : Nat) (S : Nat → Prop) (ps : List PcT) (xs : List ElL) (o c : Nat) (done rest : List Nat) (wr : World) : Prop where
  link : LinkL xs (lastOf o done) rest c
  sb_ : Blk wr sb 56 #[.pointer (some ⟨p, 0, none⟩)]
  row : ∃ v vs, Blk wr ob 26 #[v] ∧ RepIs wr S vs (done.map fun i => toI ps (elX xs i)) ∧ wr.ownsRow B 37 10 v done.length (vs.flatMap Array.toList)
  bel : Below B w wr
set_option maxRecDepth 100000 in
set_option maxHeartbeats 4000000 in
theorem e_between {base p g n cap : Nat} {L vP : Value} {vO : Nat → Value} {S : Nat → Prop} {vs : List (Array Value)} {st : EmS} {ps : List PcT} (w : World) (h : EmR w base p L (.slice (some ⟨g, 0, none⟩) n cap) vO vP S vs st) (hL : PcsR w S L ps)
    (o c : Nat) (m : List Nat) (ho : o < st.xs.length) (hlk : LinkL st.xs o m c) (hm : ∀ i ∈ m, i ≠ c ∧ i < st.xs.length) (hrun : ∀ i ∈ m, runX st.xs i = true → pX st.xs i < ps.length ∧ (pcX ps (pX st.xs i)).ch.size * lfX st.xs i ≤ 1000000 ∧ lfX st.xs i ≤ 1000000) (hlen : m.length ≤ 1000000) :
    Calls Try.prog 26 #[.pointer (some ⟨p, 0, none⟩), .int .i64 o, .int .i64 c] w (BetPost S w.heap.size (m.map fun i => toI ps (elX st.xs i)) w) := by
  have hn := own_len h.els
  subst hn
  have c1 : w.cell? ⟨p, 1, none⟩ = some (.slice (some ⟨g, 0, none⟩) st.xs.length cap) := h.cel.c1
  obtain ⟨-, -, -, co⟩ := h.at_ o ho
  have hpw := h.cel.lt
  have hgw := (h.els.lt g rfl).2
  have hoi : (o : Int) < (st.xs.length : Int) := by omega
  have hnx : nx st.xs o = hdOr m c := hlk.hd
  rw [hnx] at co
  obtain ⟨k0, hk0⟩ : ∃ k0, k0 = hdOr m c := ⟨_, rfl⟩
  rw [← hk0] at co
  have HK0 := Lib.hid hk0
  clear hk0
  have H0 : Hid (BtW w w.heap.size w.heap.size (w.heap.size + 1) p S ps st.xs o c [] m ((w.alloc (.cells #[.pointer (some ⟨p, 0, none⟩)] 56)).alloc (.cells #[.slice none 0 0] 26))) := Lib.hid ⟨hlk, (Blk.new _ _ _).alloc _, ⟨.slice none 0 0, [], by
    have := Blk.new (w.alloc (.cells #[.pointer (some ⟨p, 0, none⟩)] 56)) 26 #[.slice none 0 0]
    rw [World.size_alloc] at this
    exact this, .nil, World.ownsRow_nil _ _ _ _⟩, ((Below.refl _ w).alloc (Nat.le_refl _) _).alloc (by simp) _⟩
  have HH := Lib.hid h
  have HL := Lib.hid hL
  have HM := Lib.hid hm
  have HRUN := Lib.hid hrun
  have HSB := Lib.hid fun g hg => (h.fro g hg).1
  clear h hL hm hrun hlk hnx
  go_enter Try.func26, Try.ntmps26
  go_wp2_with fail
  go_loopw [9] (fun v9 wr => ∃ done rest : List Nat, m = done ++ rest ∧ v9 = .int .i64 (hdOr rest c : Nat) ∧ Hid (BtW w w.heap.size w.heap.size (w.heap.size + 1) p S ps st.xs o c done rest wr)) (fun _ wr => match wr.cell? ⟨w.heap.size + 1, 0, none⟩ with | some (.slice _ n _) => m.length - n | _ => 0)
  case atStart => exact ⟨[], m, rfl, by rw [HK0.out], H0⟩
  case round =>
    clear H0
    obtain ⟨done, rest, hmd, rfl, HI⟩ := hrel
    obtain ⟨b1, b2, ⟨v, vs', b3, b4, b5⟩, b6⟩ := HI.out
    obtain ⟨A, cc, hv, -, -⟩ := own_form b5
    subst hv
    have hE := HH.out.below b6
    have r1 := hE.cel.c1
    have s1 : wr.cell? ⟨w.heap.size, 0, none⟩ = some (.pointer (some ⟨p, 0, none⟩)) := b2.cell 0
    have s2 : wr.cell? ⟨w.heap.size + 1, 0, none⟩ = some (.slice A done.length cc) := b3.cell 0
    cases rest with
    | nil =>
      have d1 : ((c : Int) != (c : Int)) = false := by simp
      rw [List.append_nil] at hmd
      subst hmd
      have HF : Hid (RepIs wr S vs' (m.map fun i => toI ps (elX st.xs i)) ∧ wr.ownsRow w.heap.size 37 10 (.slice A m.length cc) m.length (vs'.flatMap Array.toList) ∧ Below w.heap.size w wr) := Lib.hid ⟨b4, b5, b6⟩
      clear b1 b2 b3 b4 b5 b6 HI hE r1
      show Code.wp _ _ _ ⟨_, _⟩ _
      simp only [hdOr]
      go_wp2_with fail
      go_ret
      obtain ⟨f1, f2, f3⟩ := HF.out
      refine ⟨.slice A m.length cc, vs', rfl, f1, ?_, f3⟩
      rw [List.length_map]; exact f2
    | cons k rest =>
      have hk := HM.out k (by rw [hmd]; simp)
      obtain ⟨x0, x1, x2, x3, x4, x5, x6, x7, x8, x9, hr, hrg, h1⟩ := hE.cells15 k hk.2
      obtain ⟨-, -, -, cn⟩ := hE.at_ k hk.2
      obtain ⟨-, -, b1'⟩ := b1
      rw [b1'.hd] at cn
      obtain ⟨kr, hkr⟩ : ∃ kr, kr = hdOr rest c := ⟨_, rfl⟩
      rw [← hkr] at cn
      have HKR := Lib.hid hkr
      clear hkr
      have hml : m.length = done.length + (rest.length + 1) := by rw [hmd]; simp
      have hkL : PcsR wr S L ps := HL.out.keep (fun g hg => b6.block g (HSB.out g hg)) fun _ h => h
      have HC : Hid (Calls Try.prog 38 #[.agg #[x0, x1, x2, x3, x4, x5, x6, x7, x8, x9, .bool (runX st.xs k), .int .i64 (pX st.xs k), .int .i64 (lfX st.xs k), .int .i64 (bf st.xs k), .int .i64 (nx st.xs k)], .pointer (some ⟨w.heap.size, 0, none⟩), .pointer (some ⟨w.heap.size + 1, 0, none⟩)] wr (Bet1Post w.heap.size w.heap.size (w.heap.size + 1) done.length S (vs'.flatMap Array.toList) (toI ps (elX st.xs k)) wr)) := Lib.hid (e_bet1 (B := w.heap.size) wr hkL HSB.out hpw hE.cel.c0 b2 b3 (Nat.le_refl _) (by omega) b5 (by omega) x0 x1 x2 x3 x4 x5 x6 x7 x8 x9 (elX st.xs k) hr (HRUN.out k (by rw [hmd]; simp)))
      have HG := Lib.hid hrg
      have HNX : Hid (∀ W4, Below w.heap.size wr W4 → W4.cell? ⟨p, 1, none⟩ = some (.slice (some ⟨g, 0, none⟩) st.xs.length cap) ∧ W4.cell? ⟨g, k * 15 + 14, none⟩ = some (.int .i64 (kr : Nat))) := Lib.hid fun W4 hb => ⟨(hb.cell (p := ⟨p, 1, none⟩) hpw).trans r1, (hb.cell (p := ⟨g, k * 15 + 14, none⟩) hgw).trans cn⟩
      have hki : (k : Int) < (st.xs.length : Int) := by omega
      have hk0 : (0 : Int) ≤ (k : Int) := by omega
      have d1 : ((k : Int) != (c : Int)) = true := bne_iff_ne.2 (by omega)
      have HB4 := Lib.hid b4
      have HB5 := Lib.hid b5
      have HB6 := Lib.hid b6
      have HB2 := Lib.hid b2
      have HB1 := Lib.hid b1'
      clear b1' b2 b3 b4 b5 b6 hr hrg h1 hE cn hkL HI
      simp only [hdOr]
      go_wp2_with (first | (refine wpList_load_mid rfl 76 (.tmp 36) rfl g (k * 15) rfl _ _ HG.out Try.underlying76 rfl elem_size ?_) | fail)
      ((with_reducible refine HC.out.mono ?_))
      rintro e W4 ⟨g2, cap2, v2, rfl, p1, p2, p3, p4, p5⟩
      obtain ⟨n1, n2⟩ := HNX.out W4 p4
      have n3 : W4.cell? ⟨w.heap.size, 0, none⟩ = some (.pointer (some ⟨p, 0, none⟩)) := (World.cell?_of_block p5).trans s1
      have n4 : W4.cell? ⟨w.heap.size + 1, 0, none⟩ = some (.slice (some ⟨g2, 0, none⟩) (done.length + 1) cap2) := p2.cell 0
      have HF : Hid (BtW w w.heap.size w.heap.size (w.heap.size + 1) p S ps st.xs o c (done ++ [k]) rest W4) := Lib.hid ⟨by rw [lastOf_snoc]; exact HB1.out, p5.trans HB2.out, ⟨_, vs' ++ [v2], p2, by
        rw [List.map_append]
        exact (HB4.out.keep (fun g hg => p4.block g (HSB.out g hg)) fun _ h => h).snoc p1, by
        rw [List.length_append, List.length_singleton, List.flatMap_append]
        simpa using p3⟩, HB6.out.trans p4⟩
      clear p1 p2 p3 p4 p5 HC HNX HB4 HB5 HB6 HB2 HB1 HG
      go_wp2_with fail
      go_roundw
      case rel => exact ⟨done ++ [k], rest, by rw [hmd]; simp, congrArg (fun x : Nat => Value.int .i64 (x : Int)) HKR.out, HF⟩
      case measure => simp [n4, s2]; omega

end Go.Proofs.Ytfnloonmeilhlaa
