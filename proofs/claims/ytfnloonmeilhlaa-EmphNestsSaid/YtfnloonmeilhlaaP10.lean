/-
  Texts of the proof, put together (what this law reaches): EmLC, EmCB, EmPC, EmTE, EmQA, EmTA, EmTC, EmPD, EmQB, EmYC, EmYD.
-/
import Derived.Test.YtfnloonmeilhlaaP08
import Derived.Test.YtfnloonmeilhlaaP09
import Derived.BigQuiet
import Derived.Test.YtfnloonmeilhlaaP07
import Derived.Deep.RegionHeld3
import Derived.Test.YtfnloonmeilhlaaP04
import Derived.Deep.CutRange
import Derived.Deep.DeepCutAuto
set_option linter.unusedVariables false
set_option linter.unusedSimpArgs false
namespace Go.Pub
def exP : List PcT := [plR ⟨#[42]⟩ 1 true false, plW ⟨#[97, 32]⟩, plR ⟨#[42]⟩ 2 true false, plW ⟨#[98]⟩, plR ⟨#[42]⟩ 3 false true]
theorem exP_nest : nestA exP = [kidT 6 [txtT 1 ⟨#[97, 32]⟩, kidT 7 [txtT 1 ⟨#[98]⟩]]] := by kernel_rfl
theorem exP_prs : (matchA exP).prs = [(2, 4, 2), (0, 4, 1)] := by decide +kernel
theorem exP_z : sumZ exP exP.length ≤ 30000 := by decide +kernel
theorem exP_inl : ∀ p ∈ exP, p.inl = txtT p.inl.kind p.inl.text := by
  intro p hp
  simp only [exP, List.mem_cons, List.not_mem_nil, or_false] at hp
  rcases hp with rfl | rfl | rfl | rfl | rfl <;> rfl
end Go.Pub
namespace Go.Proofs.Ytfnloonmeilhlaa
open Go.RowKit Go.Pub
set_option maxHeartbeats 4000000 in
set_option maxRecDepth 100000 in
theorem l_awake (w : World) : Calls Try.prog 10 #[] w fun e w' => e = .returned (.bool true) ∧ Below w.heap.size w w' := by
  have HP := Lib.hid fun (W : World) => e_Nest (W.alloc (.cells (plF exP) 39)) (pcs_new W exP exP_inl (by decide)) exP_z
  have HQ := Lib.hid fun (W W2 : World) (hb : Below (W.alloc (.cells (plF exP) 39)).heap.size (W.alloc (.cells (plF exP) 39)) W2) => e_Pairs W2 ((pcs_new W exP exP_inl (by decide)).keep (fun g hg => hb.block g hg) fun g hg => Nat.lt_of_lt_of_le hg hb.size) exP_z
  simp only [exP_nest, show exP.length = 5 from rfl] at HP
  simp only [exP_prs, show exP.length = 5 from rfl] at HQ
  go_enter Try.func10, Try.ntmps10
  go_wp2_with fail
  ((with_reducible refine (l_run _ _ _ _ _).mono ?_))
  rintro e w1 ⟨rfl, b1⟩
  have B1 := Lib.hid b1
  have z1 := b1.size
  clear b1
  go_wp2_with fail
  ((with_reducible refine (l_word _ _).mono ?_))
  rintro e w2 ⟨rfl, b2⟩
  have B2 := Lib.hid (B1.out.trans (b2.mono z1))
  have z2 := B2.out.size
  clear b2 B1 z1
  go_wp2_with fail
  ((with_reducible refine (l_run _ _ _ _ _).mono ?_))
  rintro e w3 ⟨rfl, b3⟩
  have B3 := Lib.hid (B2.out.trans (b3.mono z2))
  have z3 := B3.out.size
  clear b3 B2 z2
  go_wp2_with fail
  ((with_reducible refine (l_word _ _).mono ?_))
  rintro e w4 ⟨rfl, b4⟩
  have B4 := Lib.hid (B3.out.trans (b4.mono z3))
  have z4 := B4.out.size
  clear b4 B3 z3
  go_wp2_with fail
  ((with_reducible refine (l_run _ _ _ _ _).mono ?_))
  rintro e w5 ⟨rfl, b5⟩
  have B5 := Lib.hid (B4.out.trans (b5.mono z4))
  have z5 := B5.out.size
  clear b5 B4 z4
  have HB6 : Hid (Below w.heap.size w (w5.alloc (.cells (plF exP) 39))) := Lib.hid (B5.out.alloc z5 _)
  have hfl : plF [plR ⟨#[42]⟩ 1 true false, plW ⟨#[97, 32]⟩, plR ⟨#[42]⟩ 2 true false, plW ⟨#[98]⟩, plR ⟨#[42]⟩ 3 false true] = plF exP := rfl
  have hz6 : (w5.alloc (.cells (plF exP) 39)).heap.size = w5.heap.size + 1 := by simp
  have HPW := Lib.hid (HP.out w5)
  have HQW := Lib.hid (HQ.out w5)
  clear HP HQ
  go_wp2_with (refine wpList_pcs5 rfl _ _ _ _ _ rfl (plR ⟨#[42]⟩ 1 true false) (plW ⟨#[97, 32]⟩) (plR ⟨#[42]⟩ 2 true false) (plW ⟨#[98]⟩) (plR ⟨#[42]⟩ 3 false true) rfl rfl rfl rfl rfl ?_; rw [hfl]; generalize w5.alloc (.cells (plF exP) 39) = w6 at *)
  ((with_reducible refine HPW.out.mono ?_))
  rintro e w7 ⟨A, c, vs, rfl, hr, hm, b7⟩
  obtain ⟨b, off, rfl, hb, q1, q2, A5, c5, vs5, q3, hr5, hm5⟩ := hr.look hm 0 (by decide)
  obtain ⟨bb, oo, rfl, hb2, p1, p2, -⟩ := hr5.look hm5 0 (by decide)
  obtain ⟨bb', oo', e', -, p3, -⟩ := hr5.look hm5 1 (by decide)
  injection e' with e'
  injection e' with e1 e2
  subst e1 e2
  clear hr hm hr5 hm5
  have HPP := Lib.hid (HQW.out w7 b7)
  have B7 := Lib.hid (HB6.out.trans (b7.mono HB6.out.size))
  have z7 := B7.out.size
  have HK : Hid (∀ w8 : World, Below w7.heap.size w7 w8 → w8.cell? ⟨b, off, none⟩ = some (.int .i64 6) ∧ w8.cell? ⟨b, off + 9, none⟩ = some (.slice (some ⟨bb, oo, none⟩) 2 c5) ∧ w8.cell? ⟨bb, oo + 1, none⟩ = some (.string ⟨#[97, 32]⟩) ∧ w8.cell? ⟨bb, oo + 10, none⟩ = some (.int .i64 7)) := Lib.hid fun w8 h8 =>
    ⟨(h8.cell (p := ⟨b, off, none⟩) hb.2).trans q1, (h8.cell (p := ⟨b, off + 9, none⟩) hb.2).trans q3, (h8.cell (p := ⟨bb, oo + 1, none⟩) hb2.2).trans p2, (h8.cell (p := ⟨bb, oo + 10, none⟩) hb2.2).trans p3⟩
  clear q1 q2 q3 p1 p2 p3 b7 HPW HQW
  go_wp2_with fail
  ((with_reducible refine HPP.out.mono ?_))
  rintro e w8 ⟨A8, c8, rfl, hm8, b8⟩
  obtain ⟨k1, k2, k3, k4⟩ := HK.out w8 b8
  obtain ⟨b9, o9, rfl, hb9, hc9⟩ := hm8.row (by decide) (by decide)
  have HB8 := Lib.hid (B7.out.trans (b8.mono z7))
  have r0 : w8.cell? ⟨b9, o9, none⟩ = some (.int .i64 2) := hc9 0 _ rfl
  have r1 : w8.cell? ⟨b9, o9 + 1, none⟩ = some (.int .i64 4) := hc9 1 _ rfl
  have r2 : w8.cell? ⟨b9, o9 + 2, none⟩ = some (.int .i64 2) := hc9 2 _ rfl
  have r3 : w8.cell? ⟨b9, o9 + 3, none⟩ = some (.int .i64 0) := hc9 3 _ rfl
  have r4 : w8.cell? ⟨b9, o9 + 3 + 1, none⟩ = some (.int .i64 4) := hc9 4 _ rfl
  have r5 : w8.cell? ⟨b9, o9 + 3 + 2, none⟩ = some (.int .i64 1) := hc9 5 _ rfl
  have he1 : ∀ W, Sem.run Try.prog (Op.equalIn 10000 30 (Value.agg #[.int .i64 2, .int .i64 4, .int .i64 2]) (Value.agg #[.int .i64 2, .int .i64 4, .int .i64 2])) W = .ok true W := fun _ => by kernel_rfl
  have he2 : ∀ W, Sem.run Try.prog (Op.equalIn 10000 30 (Value.agg #[.int .i64 0, .int .i64 4, .int .i64 1]) (Value.agg #[.int .i64 0, .int .i64 4, .int .i64 1])) W = .ok true W := fun _ => by kernel_rfl
  clear hm8 hc9 b8 HK HPP
  go_wp2_with fail
  go_ret
  exact ⟨rfl, HB8.out⟩

end Go.Proofs.Ytfnloonmeilhlaa
namespace Go.Pub
open Go.RowKit
theorem trips_at : ∀ (l : List (Nat × Nat × Nat)) (k : Nat) (h : k < l.length), (trips l)[k * 3]? = some (.int .i64 l[k].1) ∧ (trips l)[k * 3 + 1]? = some (.int .i64 l[k].2.1) ∧ (trips l)[k * 3 + 2]? = some (.int .i64 l[k].2.2)
  | x :: l, 0, _ => ⟨rfl, rfl, rfl⟩
  | x :: l, k + 1, h => by
    have := trips_at l k (by simpa using h)
    rw [show (k + 1) * 3 = k * 3 + 1 + 1 + 1 by omega]
    exact this
/-- The cells of a match. -/
theorem trips_cell {w : World} {S : Nat → Prop} {A : Option Addr} {l : List (Nat × Nat × Nat)} (h : ReadsS w S 3 A l.length (trips l)) (i : Nat) (hi : i < l.length) : ∃ b off, A = some ⟨b, off, none⟩ ∧ S b ∧ w.cell? ⟨b, off + i * 3, none⟩ = some (.int .i64 l[i].1) ∧ w.cell? ⟨b, off + i * 3 + 1, none⟩ = some (.int .i64 l[i].2.1) ∧ w.cell? ⟨b, off + i * 3 + 2, none⟩ = some (.int .i64 l[i].2.2) := by
  obtain ⟨b, off, e, hb, hc⟩ := h.row (by omega) (by decide)
  obtain ⟨e0, e1, e2⟩ := trips_at l i hi
  exact ⟨b, off, e, hb, hc _ _ e0, by rw [Nat.add_assoc]; exact hc _ _ e1, by rw [Nat.add_assoc]; exact hc _ _ e2⟩
end Go.Pub
namespace Go.Proofs.Ytfnloonmeilhlaa
open Go.RowKit Go.Pub
end Go.Proofs.Ytfnloonmeilhlaa
namespace Go.Pub
open Go.RowKit
theorem sizeI_set (x : InT) (s : List UInt8) : sizeI (setTxt x s) + x.text.toList.length = sizeI x + s.length := by
  obtain ⟨k, t, d, ti, a, ar, c, ks⟩ := x
  show sizeI (.mk k ⟨s.toArray⟩ d ti a ar c ks) + t.toList.length = _
  rw [sizeI, sizeI]
  have h1 : (⟨s.toArray⟩ : ByteArray).size = s.length := by show s.toArray.size = _; simp
  have h2 : t.toList.length = t.size := by rw [Lib.toList_data]; exact Array.length_toList
  omega
theorem sizeI_text (x : InT) : 1 + x.text.toList.length ≤ sizeI x := by
  obtain ⟨k, t, d, ti, a, ar, c, ks⟩ := x
  rw [sizeI]
  have h2 : t.toList.length = t.size := by rw [Lib.toList_data]; exact Array.length_toList
  show 1 + t.toList.length ≤ _
  omega
theorem sizeL_cons (x : InT) (l : List InT) : sizeL (x :: l) = sizeI x + sizeL l := by rw [sizeL]
theorem sizeL_join : ∀ l : List InT, sizeL (joinT l) ≤ sizeL l
  | [] => Nat.le_refl _
  | x :: l => by
    have ih := sizeL_join l
    rw [sizeL_cons]
    by_cases hk : x.kind = 1
    · by_cases ht : x.text.toList = []
      · rw [joinT_empty hk ht]; omega
      · rw [joinT_cons, if_neg (by simp [hk]), if_neg ht]
        cases hj : joinT l with
        | nil => dsimp only; rw [sizeL_cons]; show sizeI x + sizeL [] ≤ _; rw [sizeL]; omega
        | cons y r =>
          rw [hj, sizeL_cons] at ih
          dsimp only
          split
          · rw [sizeL_cons]
            have h1 := sizeI_set x (x.text.toList ++ y.text.toList)
            rw [List.length_append] at h1
            have h2 := sizeI_text y
            omega
          · rw [sizeL_cons, sizeL_cons]; omega
    · rw [joinT_no hk, sizeL_cons]; omega
mutual
theorem sizeI_merge : ∀ x : InT, sizeI (mergeI x) ≤ sizeI x
  | .mk k t d ti a ar c kids => by
    rw [mergeI, sizeI, sizeI]
    have h1 := sizeL_join (mapI kids)
    have h2 := sizeL_map kids
    omega
theorem sizeL_map : ∀ l : List InT, sizeL (mapI l) ≤ sizeL l
  | [] => by rw [mapI]; exact Nat.le_refl _
  | x :: l => by
    rw [mapI, sizeL_cons, sizeL_cons]
    have h1 := sizeI_merge x
    have h2 := sizeL_map l
    omega
end
theorem sizeL_merge (l : List InT) : sizeL (mergeL l) ≤ sizeL l := Nat.le_trans (sizeL_join _) (sizeL_map l)
end Go.Pub
namespace Go.Proofs.Ytfnloonmeilhlaa
open Go.RowKit Go.Pub
end Go.Proofs.Ytfnloonmeilhlaa
namespace Go.Pub
theorem sizeI_txt' (x : InT) : x.text.toList.length ≤ sizeI x := by
  obtain ⟨k, t, d, ti, a, ar, c, ks⟩ := x
  rw [sizeI]
  have h2 : t.toList.length = t.size := by rw [Lib.toList_data]; exact Array.length_toList
  show t.toList.length ≤ _
  omega
theorem joinT_text : ∀ (l : List InT) (y : InT), y ∈ joinT l → y.text.toList.length ≤ sizeL l
  | [], y, h => by simp [joinT] at h
  | x :: l, y, h => by
    have ih := joinT_text l
    have hx := sizeI_txt' x
    rw [sizeL]
    by_cases hk : x.kind = 1
    · by_cases ht : x.text.toList = []
      · rw [joinT_empty hk ht] at h
        have := ih y h; omega
      · rw [joinT_cons, if_neg (by simp [hk]), if_neg ht] at h
        cases hj : joinT l with
        | nil =>
          rw [hj] at h
          have : y = x := by simpa using h
          subst this; omega
        | cons z r =>
          rw [hj] at h ih
          have hz := ih z (by simp)
          dsimp only at h
          split at h
          · rcases List.mem_cons.1 h with rfl | h
            · rw [setTxt_text, List.length_append]; omega
            · have := ih y (List.mem_cons_of_mem _ h); omega
          · rcases List.mem_cons.1 h with rfl | h
            · omega
            · have := ih y h; omega
    · rw [joinT_no hk] at h
      rcases List.mem_cons.1 h with rfl | h
      · omega
      · have := ih y h; omega
end Go.Pub
namespace Go.Proofs.Ytfnloonmeilhlaa
open Go.RowKit Go.Pub
/-- What is joined lies in a row of the call's own; what is read of it is not in the row. -/
def MrR (w : World) (S0 : Nat → Prop) (done : List InT) (v : Value) (wr : World) : Prop :=
  (∃ (S : Nat → Prop) (vs : List (Array Value)), (∀ g, S g → (S0 g ∨ w.heap.size ≤ g) ∧ g < wr.heap.size ∧ v.ownBlock ≠ some g) ∧ RepIs wr S vs done ∧ wr.ownsRow w.heap.size 37 10 v done.length (vs.flatMap Array.toList)) ∧ Below w.heap.size w wr
section
variable {w wr W W7 : World} {S0 : Nat → Prop} {done : List InT} {v : Value}
theorem MrR.call (h : MrR w S0 done v wr) (hb : Below wr.heap.size wr W) : MrR w S0 done v W := by
  obtain ⟨⟨S, vs, h1, h2, h3⟩, h4⟩ := h
  exact ⟨⟨S, vs, fun g hg => ⟨(h1 g hg).1, Nat.lt_of_lt_of_le (h1 g hg).2.1 hb.size, (h1 g hg).2.2⟩, h2.keep (fun g hg => hb.block g (h1 g hg).2.1) fun _ h => h, own_below h3 hb⟩, h4.trans (hb.mono h4.size)⟩
theorem MrR.push {g cap H : Nat} {x : InT} {u : Array Value} {o : Obj} {S2 S : Nat → Prop} {vs : List (Array Value)} (h : MrR w S0 done v wr) (h1 : ∀ g, S g → (S0 g ∨ w.heap.size ≤ g) ∧ g < wr.heap.size ∧ v.ownBlock ≠ some g) (h2 : RepIs wr S vs done) (h3 : wr.ownsRow w.heap.size 37 10 v done.length (vs.flatMap Array.toList)) (hb : Below wr.heap.size wr W) (hx : RepI W S2 u x)
    (hS2 : ∀ g, S2 g → (S0 g ∧ g < w.heap.size) ∨ (wr.heap.size ≤ g ∧ g < W.heap.size)) (hown : W7.ownsRow w.heap.size 37 10 (.slice (some ⟨g, 0, none⟩) (done.length + 1) cap) (done.length + 1) (vs.flatMap Array.toList ++ u.toList))
    (hgrow : (W.alloc o).grownBy W7 v.ownBlock) (hlies : v.ownBlock = some g ∨ g = H) (hH : W.heap.size ≤ H) :
    MrR w S0 (done ++ [x]) (.slice (some ⟨g, 0, none⟩) (done.length + 1) cap) W7 := by
  have hlt := h3.lt
  have hzb := h.2.size
  have hzW := hb.size
  have hz7 := hgrow.size
  rw [World.size_alloc] at hz7
  have hk : ∀ k, k < W.heap.size → v.ownBlock ≠ some k → W7.heap[k]? = W.heap[k]? := fun k hk hne => (hgrow.block k (by rw [World.size_alloc]; omega) fun e => hne e.symm).trans (Below.heap_alloc W o k hk)
  refine ⟨⟨fun k => S k ∨ S2 k, vs ++ [u], fun k hk => ?_, ?_, ?_⟩, ?_⟩
  · rcases hk with hk | hk
    · obtain ⟨a1, a2, a3⟩ := h1 k hk
      refine ⟨a1, by omega, fun e => ?_⟩
      have e' : g = k := by simpa [Value.ownBlock] using e
      subst e'
      rcases hlies with hl | hl
      · exact a3 hl
      · omega
    · rcases hS2 k hk with ⟨a1, a2⟩ | ⟨a1, a2⟩
      · refine ⟨.inl a1, by omega, fun e => ?_⟩
        have e' : g = k := by simpa [Value.ownBlock] using e
        subst e'
        rcases hlies with hl | hl
        · have := (hlt g hl).1; omega
        · omega
      · refine ⟨.inr (by omega), by omega, fun e => ?_⟩
        have e' : g = k := by simpa [Value.ownBlock] using e
        subst e'
        rcases hlies with hl | hl
        · have := (hlt g hl).2; omega
        · omega
  · refine RepIs.snoc (h2.keep (fun k hk' => ?_) fun _ h => Or.inl h) (hx.keep (fun k hk' => ?_) fun _ h => Or.inr h)
    · obtain ⟨a1, a2, a3⟩ := h1 k hk'
      exact (hk k (by omega) a3).trans (hb.block k a2)
    · rcases hS2 k hk' with ⟨a1, a2⟩ | ⟨a1, a2⟩
      · exact hk k (by omega) fun e => by have := (hlt k e).1; omega
      · exact hk k a2 fun e => by have := (hlt k e).2; omega
  · rw [List.length_append, List.length_singleton, List.flatMap_append, List.flatMap_singleton]
    exact hown
  · refine ⟨hgrow.os.trans (hb.os.trans h.2.os), hgrow.tape.trans (hb.tape.trans h.2.tape), hgrow.output.trans (hb.output.trans h.2.output), by omega, fun k hk' => ?_⟩
    exact (hk k (by omega) fun e => by have := (hlt k e).1; omega).trans ((hb.block k (by omega)).trans (h.2.block k hk'))
end
/-- Merged inlines, in a row of the call's own. -/
def RmgP (S0 : Nat → Prop) (l : List InT) (w : World) (e : Ending) (w' : World) : Prop :=
  ∃ A c vs, e = .returned (.slice A (mergeL l).length c) ∧ RepIs w' (fun g => S0 g ∨ NewG w w' g) vs (mergeL l) ∧ w'.ownsRow w.heap.size 37 10 (.slice A (mergeL l).length c) (mergeL l).length (vs.flatMap Array.toList) ∧ Below w.heap.size w w'
def RmgH (N : Nat) : Prop := ∀ l : List InT, sizeL l ≤ N → ∀ (S0 : Nat → Prop) (w : World) (A : Option Addr) (c : Nat) (vs : List (Array Value)), RepIs w S0 vs l → ReadsS w S0 10 A l.length (vs.flatMap Array.toList) → (∀ g, S0 g → g < w.heap.size) → Calls Try.prog 18 #[.slice A l.length c] w (RmgP S0 l w)
theorem RepIs.sizes {w : World} {S : Nat → Prop} : ∀ {vs : List (Array Value)} {l : List InT}, RepIs w S vs l → ∀ v ∈ vs, v.size = 10
  | _, _, .nil, v, h => absurd h (by simp)
  | _, _, .cons u b vs bs h1 h2, v, h => by
    rcases List.mem_cons.1 h with rfl | h
    · exact h1.size
    · exact RepIs.sizes h2 v h
theorem RepIs.last {w : World} {S : Nat → Prop} {vs : List (Array Value)} {o : List InT} {y : InT} (h : RepIs w S vs (o ++ [y])) : ∃ us u, vs = us ++ [u] ∧ RepIs w S us o ∧ RepI w S u y := by
  induction o generalizing vs with
  | nil =>
    cases h with
    | cons v b vs' bs h1 h2 => cases h2; exact ⟨[], v, rfl, .nil, h1⟩
  | cons x o ih =>
    cases h with
    | cons v b vs' bs h1 h2 =>
      obtain ⟨us, u, rfl, g1, g2⟩ := ih h2
      exact ⟨v :: us, u, rfl, .cons _ _ _ _ h1 g1, g2⟩
set_option maxHeartbeats 8000000 in
set_option maxRecDepth 100000 in
theorem r_merge (N : Nat) (hN : N ≤ 1000000) (hM : ∀ x : InT, sizeI x ≤ N → RmgH (sizeL x.kids)) : RmgH N := by
  intro l hl S0 w A c vs h1 h2 hS
  have hlen := sizeL_len l
  have HEL : Hid (∀ i (hi : i < l.length), ∃ b off v, A = some ⟨b, off, none⟩ ∧ b < w.heap.size ∧ RepI w S0 v l[i] ∧ w.rangeAt b (off + i * 10) v.toList) := Lib.hid fun i hi => by
    obtain ⟨b, off, e, hb, hc⟩ := h2.row (by omega) (by decide)
    obtain ⟨v, hv, hvc⟩ := h1.at_ i hi
    refine ⟨b, off, v, e, hS b hb, hv, fun j u hj => ?_⟩
    have hj10 : j < 10 := by have := (List.getElem?_eq_some_iff.1 hj).1; rw [Array.length_toList, hv.size] at this; exact this
    rw [Nat.add_assoc]
    refine hc (i * 10 + j) u ?_
    rw [hvc j hj10, ← hj, Array.getElem?_toList]
  have HMG := Lib.hid fun i (hi : i < l.length) => hM l[i] (Nat.le_trans (sizeL_mem l i hi) hl)
  have HSZ := Lib.hid fun i (hi : i < l.length) => Nat.le_trans (sizeL_mem l i hi) (Nat.le_trans hl hN)
  have HTK : Hid (∀ i (hi : i < l.length), ((l.map mergeI).take (i + 1)).foldl stepJ [] = stepJ (((l.map mergeI).take i).foldl stepJ []) (mergeI l[i])) := Lib.hid fun i hi => by
    rw [foldJ_take _ i (by rw [List.length_map]; exact hi), List.getElem_map]
  have HEND : Hid (((l.map mergeI).take l.length).foldl stepJ [] = mergeL l) := Lib.hid (by
    rw [← List.length_map (f := mergeI), List.take_length, foldJ_all, ← mapI_eq]; rfl)
  have HTX : Hid (∀ i, i ≤ l.length → ∀ y ∈ ((l.map mergeI).take i).foldl stepJ [], y.text.toList.length ≤ 2000000) := Lib.hid fun i hi y hy => by
    rw [foldJ_all] at hy
    have h3 := joinT_text _ y hy
    have h4 := sizeL_map l
    rw [mapI_eq] at h4
    have h5 := sizeL_app ((l.map mergeI).take i) ((l.map mergeI).drop i)
    rw [List.take_append_drop] at h5
    omega
  have HS := Lib.hid hS
  obtain ⟨i0, hi0, hz0, hz1, hz2⟩ := info_parts inl_info
  have H0 : Hid (MrR w S0 [] (.slice none 0 0) w) := Lib.hid ⟨⟨fun _ => False, [], fun _ h => h.elim, .nil, World.ownsRow_nil _ _ _ _⟩, Below.refl _ w⟩
  have hll : l.length ≤ 1000000 := by omega
  clear h1 h2 hM hl hS
  go_enter Try.func18, Try.ntmps18
  go_wp2_with fail
  go_loopw [3, 4] (fun v3 v4 wr => ∃ (i : Nat) (done : List InT), i ≤ l.length ∧ done.length ≤ i ∧ v4 = .int .i64 i ∧ Hid (done = ((l.map mergeI).take i).foldl stepJ []) ∧ Hid (MrR w S0 done v3 wr)) (fun _ v4 _ => l.length - (intOf v4).toNat)
  case atStart => exact ⟨0, [], Nat.zero_le _, Nat.zero_le _, rfl, Lib.hid rfl, H0⟩
  case round =>
    clear H0
    obtain ⟨i, done, hi, hdi, rfl, HD, HMR⟩ := hrel
    obtain ⟨⟨S1, vs1, hS1, hr1, hown⟩, hbw⟩ := HMR.out
    obtain ⟨AO, cO, hv3, hmx, -⟩ := own_form hown
    subst hv3
    have hzw := hbw.size
    by_cases hlt : i < l.length
    · obtain ⟨b, off, v, rfl, hb, hv, hrg⟩ := HEL.out i hlt
      have hgm := HMG.out i hlt
      have hsz := HSZ.out i hlt
      have HNX0 := HTK.out i hlt
      rw [← HD.out] at HNX0
      have htx := HTX.out i hi
      rw [← HD.out] at htx
      have HTY := Lib.hid htx
      have hii : (i : Int) < (l.length : Int) := by omega
      have hi00 : (0 : Int) ≤ (i : Int) := by omega
      generalize l[i] = x at *
      have hv' := hv.keep (w' := wr) (fun g hg => hbw.block g (HS.out g hg)) fun _ h => h
      have hrg' : wr.rangeAt b (off + i * 10) v.toList := fun j u hj => (hbw.cell (p := ⟨b, off + i * 10 + j, none⟩) hb).trans (hrg j u hj)
      clear hv hrg htx
      cases hv' with
      | mk kind text dest title att args cites kids A1 A2 A3 A4 A5 c1 c2 c3 c4 c5 vs' r1 r2 r3 r4 r5 r6 =>
      have hS' : ∀ g, S0 g → g < wr.heap.size := fun g hg => Nat.lt_of_lt_of_le (HS.out g hg) hzw
      have HNX : Hid (stepJ done (mergeI (.mk kind text dest title att args cites kids)) = ((l.map mergeI).take (i + 1)).foldl stepJ []) := Lib.hid HNX0.symm
      have HG : Hid (wr.rangeAt b (off + i * 10) [.int .i64 kind, .string text, .string dest, .string title, .string att.id, .slice A1 att.cl.length c1, .slice A2 att.pr.length c2, .slice A3 args.length c3, .slice A4 cites.length c4, .slice A5 kids.length c5]) := Lib.hid hrg'
      have hB1 : Below wr.heap.size wr (wr.alloc (.cells #[.int .i64 kind, .string text, .string dest, .string title, .string att.id, .slice A1 att.cl.length c1, .slice A2 att.pr.length c2, .slice A3 args.length c3, .slice A4 cites.length c4, .slice A5 kids.length c5] 37)) := (Below.refl _ wr).alloc (Nat.le_refl _) _
      have hbk := Blk.new wr 37 #[.int .i64 kind, .string text, .string dest, .string title, .string att.id, .slice A1 att.cl.length c1, .slice A2 att.pr.length c2, .slice A3 args.length c3, .slice A4 cites.length c4, .slice A5 kids.length c5]
      have HBK1 := Lib.hid hbk
      have HB1 := Lib.hid hB1
      have x9 : (wr.alloc (.cells #[.int .i64 kind, .string text, .string dest, .string title, .string att.id, .slice A1 att.cl.length c1, .slice A2 att.pr.length c2, .slice A3 args.length c3, .slice A4 cites.length c4, .slice A5 kids.length c5] 37)).cell? ⟨wr.heap.size, 9, none⟩ = some (.slice A5 kids.length c5) := hbk.cell 9
      have hz1w : (wr.alloc (.cells #[.int .i64 kind, .string text, .string dest, .string title, .string att.id, .slice A1 att.cl.length c1, .slice A2 att.pr.length c2, .slice A3 args.length c3, .slice A4 cites.length c4, .slice A5 kids.length c5] 37)).heap.size = wr.heap.size + 1 := by simp
      have HZ1 := Lib.hid hz1w
      have HC := Lib.hid (hgm kids (Nat.le_refl _) S0 (wr.alloc (.cells #[.int .i64 kind, .string text, .string dest, .string title, .string att.id, .slice A1 att.cl.length c1, .slice A2 att.pr.length c2, .slice A3 args.length c3, .slice A4 cites.length c4, .slice A5 kids.length c5] 37)) A5 c5 vs' (r5.keep (fun g hg => hB1.block g (hS' g hg)) fun _ h => h) (r6.keep (fun g hg => hB1.block g (hS' g hg)) fun _ h => h) (fun g hg => Nat.lt_of_lt_of_le (hS' g hg) hB1.size))
      have HR1' : Hid (∀ W, Below wr.heap.size wr W → ReadsS W S0 1 A1 att.cl.length (strs att.cl) ∧ ReadsS W S0 2 A2 att.pr.length (prs att.pr) ∧ ReadsS W S0 1 A3 args.length (strs args) ∧ ReadsS W S0 4 A4 cites.length (citVT cites)) := Lib.hid fun W hW => ⟨r1.keep (fun g hg => hW.block g (hS' g hg)) fun _ h => h, r2.keep (fun g hg => hW.block g (hS' g hg)) fun _ h => h, r3.keep (fun g hg => hW.block g (hS' g hg)) fun _ h => h, r4.keep (fun g hg => hW.block g (hS' g hg)) fun _ h => h⟩
      have HS1 := Lib.hid hS1
      have HR1 := Lib.hid hr1
      have HOWN := Lib.hid hown
      have HSW := Lib.hid hS'
      have htz : text.toList.length ≤ 1000000 := by
        rw [sizeI] at hsz
        have : text.toList.length = text.size := by rw [Lib.toList_data]; exact Array.length_toList
        omega
      clear hrg' hB1 hbk hz1w r1 r2 r3 r4 r5 r6 hgm hS' hS1 hr1 hown hsz HNX0 HMG HEL
      go_wp2_with (first | (refine wpList_load_mid rfl 37 (.tmp 15) rfl b (off + i * 10) rfl _ _ HG.out Try.underlying37 rfl inl_size ?_) | (refine wpList_store_row rfl 37 (.tmp 5) (.tmp 16) rfl wr.heap.size #[.int .i64 kind, .string text, .string dest, .string title, .string att.id, .slice A1 att.cl.length c1, .slice A2 att.pr.length c2, .slice A3 args.length c3, .slice A4 cites.length c4, .slice A5 kids.length c5] rfl rfl 37 _ (Blk.new wr _ _) inl_size (by rfl) (by simp [Value.oneCell']) ?_; rw [World.setRow_alloc_new]; generalize (wr.alloc (.cells #[.int .i64 kind, .string text, .string dest, .string title, .string att.id, .slice A1 att.cl.length c1, .slice A2 att.pr.length c2, .slice A3 args.length c3, .slice A4 cites.length c4, .slice A5 kids.length c5] 37)) = W1 at *))
      ((with_reducible refine HC.out.mono ?_))
      rintro e W2 ⟨B5, d5, us, rfl, q1, q2, b2⟩
      have hzb2 := b2.size
      have hgz : wr.heap.size < W1.heap.size := by have := HZ1.out; omega
      have hbk2 := HBK1.out.below b2 HBK1.out.lt
      have y9 : W2.cell? ⟨wr.heap.size, 9, none⟩ = some (.slice A5 kids.length c5) := hbk2.cell 9
      have f9 : W2.frozen? ⟨wr.heap.size, 9, none⟩ = false := hbk2.frozen 9
      have HBK3 : Hid (Blk (W2.setCell ⟨wr.heap.size, 9, none⟩ (.slice B5 (mergeL kids).length d5)) wr.heap.size 37 #[.int .i64 kind, .string text, .string dest, .string title, .string att.id, .slice A1 att.cl.length c1, .slice A2 att.pr.length c2, .slice A3 args.length c3, .slice A4 cites.length c4, .slice B5 (mergeL kids).length d5]) := Lib.hid (hbk2.set_ 9 (.slice B5 (mergeL kids).length d5))
      have HB3 : Hid (Below wr.heap.size wr (W2.setCell ⟨wr.heap.size, 9, none⟩ (.slice B5 (mergeL kids).length d5))) := Lib.hid ((HB1.out.trans (b2.mono (by omega))).setCell (p := ⟨wr.heap.size, 9, none⟩) (Nat.le_refl _) _)
      have hzs : (W2.setCell ⟨wr.heap.size, 9, none⟩ (.slice B5 (mergeL kids).length d5)).heap.size = W2.heap.size := by simp [World.setCell]
      have hkp : ∀ g, g ≠ wr.heap.size → (W2.setCell ⟨wr.heap.size, 9, none⟩ (.slice B5 (mergeL kids).length d5)).heap[g]? = W2.heap[g]? := fun g hg => Below.heap_setCell W2 ⟨wr.heap.size, 9, none⟩ _ g hg
      have HRX : Hid (RepI (W2.setCell ⟨wr.heap.size, 9, none⟩ (.slice B5 (mergeL kids).length d5)) (fun g => (S0 g ∧ g < w.heap.size) ∨ (wr.heap.size ≤ g ∧ g < (W2.setCell ⟨wr.heap.size, 9, none⟩ (.slice B5 (mergeL kids).length d5)).heap.size)) #[.int .i64 kind, .string text, .string dest, .string title, .string att.id, .slice A1 att.cl.length c1, .slice A2 att.pr.length c2, .slice A3 args.length c3, .slice A4 cites.length c4, .slice B5 (mergeL kids).length d5] (mergeI (.mk kind text dest title att args cites kids))) := Lib.hid (by
        rw [mergeI]
        obtain ⟨r1, r2, r3, r4⟩ := HR1'.out _ HB3.out
        have q2' := ReadsS.of_own q2
        refine .mk _ _ _ _ _ _ _ _ _ _ _ _ _ _ _ _ _ _ us (r1.keep (fun _ _ => rfl) fun g hg => .inl ⟨hg, HS.out g hg⟩) (r2.keep (fun _ _ => rfl) fun g hg => .inl ⟨hg, HS.out g hg⟩) (r3.keep (fun _ _ => rfl) fun g hg => .inl ⟨hg, HS.out g hg⟩) (r4.keep (fun _ _ => rfl) fun g hg => .inl ⟨hg, HS.out g hg⟩) (q1.keep (fun g hg => hkp g ?_) fun g hg => ?_) (q2'.keep (fun g hg => hkp g ?_) fun g hg => ?_)
        · rcases hg with hg | hg
          · have := HSW.out g hg; omega
          · have := hg.1; omega
        · rcases hg with hg | hg
          · exact .inl ⟨hg, HS.out g hg⟩
          · exact .inr ⟨by have := hg.1; omega, by rw [hzs]; exact hg.2⟩
        · have := hg.1; omega
        · exact .inr ⟨by have := hg.1; omega, by rw [hzs]; exact hg.2⟩)
      have HLE : Hid ((stepJ done (mergeI (.mk kind text dest title att args cites kids))).length ≤ i + 1) := Lib.hid (Nat.le_trans (stepJ_len _ _) (by omega))
      have HZ3 : Hid (wr.heap.size ≤ (W2.setCell ⟨wr.heap.size, 9, none⟩ (.slice B5 (mergeL kids).length d5)).heap.size) := Lib.hid (by rw [hzs]; omega)
      clear hbk2 q1 q2 b2 HC x9 hzs hkp HR1'
      have hmk : (mergeI (.mk kind text dest title att args cites kids)).kind = kind ∧ (mergeI (.mk kind text dest title att args cites kids)).text = text := mergeI_kind (.mk kind text dest title att args cites kids)
      have k0 : (W2.setCell ⟨wr.heap.size, 9, none⟩ (.slice B5 (mergeL kids).length d5)).cell? ⟨wr.heap.size, 0, none⟩ = some (.int .i64 kind) := HBK3.out.cell 0
      have k1 : (W2.setCell ⟨wr.heap.size, 9, none⟩ (.slice B5 (mergeL kids).length d5)).cell? ⟨wr.heap.size, 1, none⟩ = some (.string text) := HBK3.out.cell 1
      go_upto_region 7 with fail
      clear y9 f9
      generalize (W2.setCell ⟨wr.heap.size, 9, none⟩ (.slice B5 (mergeL kids).length d5)) = W3 at *
      by_cases he : kind = 1 ∧ text.toList = []
      · obtain ⟨hk1, ht1⟩ := he
        have hst : stepJ done (mergeI (.mk kind text dest title att args cites kids)) = done := stepJ_empty ⟨hmk.1.trans hk1, by rw [hmk.2]; exact ht1⟩
        rw [hst] at HNX
        have ht2 : text.toList.isEmpty = true := by rw [ht1]; rfl
        have ht3 : (text.toList == []) = true := by rw [ht1]; rfl
        have HF := Lib.hid (HMR.out.call HB3.out)
        subst hk1
        clear hst hmk HRX HBK3 HMR
        go_wp2_with fail
        go_roundw
        case rel => exact ⟨i + 1, done, by omega, by omega, by go_num, HNX, HF⟩
        case measure => simp [intOf]; omega
      · rcases List.eq_nil_or_concat done with hdn | ⟨o, y, hdn⟩
        · have hst : stepJ done (mergeI (.mk kind text dest title att args cites kids)) = done ++ [mergeI (.mk kind text dest title att args cites kids)] := by rw [hdn]; exact stepJ_nil (by rw [hmk.1, hmk.2]; exact he)
          have HST := Lib.hid hst
          have hdl : done.length = 0 := by rw [hdn]; rfl
          have hkk : kind = 1 ∨ kind ≠ 1 := by omega
          clear hst hmk
          rcases hkk with hk1 | hk1
          · have ht1 : text.toList ≠ [] := fun h => he ⟨hk1, h⟩
            have ht2 : text.toList.isEmpty = false := by cases h : text.toList with | nil => exact absurd h ht1 | cons => rfl
            have ht3 : (text.toList == []) = false := by cases h : text.toList with | nil => exact absurd h ht1 | cons => rfl
            have hd0 : (0 : Int) = (done.length : Int) := by omega
            have dl : decide ((0 : Int) < (done.length : Int)) = false := decide_eq_false (by omega)
            have hdl' : done.length ≤ 0 := by omega
            clear hdl hd0 hdn
            have dk : (kind == 1) = true := beq_iff_eq.2 hk1
            clear hk1
            have HOW := Lib.hid (own_below HOWN.out (HB3.out.alloc HZ3.out (.cells #[.int .i64 kind, .string text, .string dest, .string title, .string att.id, .slice A1 att.cl.length c1, .slice A2 att.pr.length c2, .slice A3 args.length c3, .slice A4 cites.length c4, .slice B5 (mergeL kids).length d5] 37)))
            have HPU := Lib.hid fun (W7 : World) (g7 cap7 : Nat) (hown : W7.ownsRow w.heap.size 37 10 (.slice (some ⟨g7, 0, none⟩) (done.length + 1) cap7) (done.length + 1) (vs1.flatMap Array.toList ++ #[.int .i64 kind, .string text, .string dest, .string title, .string att.id, .slice A1 att.cl.length c1, .slice A2 att.pr.length c2, .slice A3 args.length c3, .slice A4 cites.length c4, .slice B5 (mergeL kids).length d5].toList)) hgrow hlies => HMR.out.push HS1.out HR1.out HOWN.out HB3.out HRX.out (fun g hg => hg) (W7 := W7) (g := g7) (cap := cap7) (H := W3.heap.size + 1) (o := .cells #[.int .i64 kind, .string text, .string dest, .string title, .string att.id, .slice A1 att.cl.length c1, .slice A2 att.pr.length c2, .slice A3 args.length c3, .slice A4 cites.length c4, .slice B5 (mergeL kids).length d5] 37) hown hgrow hlies (by omega)
            have HV1 := Lib.hid HRX.out.one
            clear HMR HS1 HR1 HOWN
            go_wp2_with (first | (refine wpList_load_row rfl 37 (.tmp 5) rfl wr.heap.size rfl 37 #[.int .i64 kind, .string text, .string dest, .string title, .string att.id, .slice A1 att.cl.length c1, .slice A2 att.pr.length c2, .slice A3 args.length c3, .slice A4 cites.length c4, .slice B5 (mergeL kids).length d5] _ _ HBK3.out Try.underlying37 rfl inl_size ?_) | (refine wpList_inSlice rfl (.tmp 62) rfl (.int .i64 kind) (.string text) (.string dest) (.string title) (.string att.id) (.slice A1 att.cl.length c1) (.slice A2 att.pr.length c2) (.slice A3 args.length c3) (.slice A4 cites.length c4) (.slice B5 (mergeL kids).length d5) rfl ?_) | (at_builtin; refine wpList_append_lies _ rfl _ _ 26 rfl w.heap.size 37 i0 _ 10 192 Try.underlying26 hi0 hz0 hz1 hz2 rfl (by decide) _ _ _ rfl HOW.out ⟨W3.heap.size, 0, none⟩ 1 1 [.int .i64 kind, .string text, .string dest, .string title, .string att.id, .slice A1 att.cl.length c1, .slice A2 att.pr.length c2, .slice A3 args.length c3, .slice A4 cites.length c4, .slice B5 (mergeL kids).length d5] rfl rfl ?c1 ?c2 (by decide) ?c3 ?c4 ?c5 (W3.heap.size + 1) ?c6 ?_))
            try case c2 => simpa using HV1.out
            try case c3 => unfold maxLen; omega
            try case c4 => omega
            try case c5 => have := HZ3.out; omega
            intro g7 cap7 W7 hown hgrow hlies hlt7
            have HF := Lib.hid (HPU.out W7 g7 cap7 hown hgrow hlies)
            clear hown hgrow hlies hlt7 HPU
            go_wp2_with fail
            go_roundw
            case rel => exact ⟨i + 1, stepJ done (mergeI (.mk kind text dest title att args cites kids)), by omega, HLE.out, by go_num, HNX, by rw [HST.out]; exact HF⟩
            case measure => simp [intOf]; omega
          · have dk : (kind == 1) = false := beq_eq_false_iff_ne.2 hk1
            clear hdl hdn
            have HOW := Lib.hid (own_below HOWN.out (HB3.out.alloc HZ3.out (.cells #[.int .i64 kind, .string text, .string dest, .string title, .string att.id, .slice A1 att.cl.length c1, .slice A2 att.pr.length c2, .slice A3 args.length c3, .slice A4 cites.length c4, .slice B5 (mergeL kids).length d5] 37)))
            have HPU := Lib.hid fun (W7 : World) (g7 cap7 : Nat) (hown : W7.ownsRow w.heap.size 37 10 (.slice (some ⟨g7, 0, none⟩) (done.length + 1) cap7) (done.length + 1) (vs1.flatMap Array.toList ++ #[.int .i64 kind, .string text, .string dest, .string title, .string att.id, .slice A1 att.cl.length c1, .slice A2 att.pr.length c2, .slice A3 args.length c3, .slice A4 cites.length c4, .slice B5 (mergeL kids).length d5].toList)) hgrow hlies => HMR.out.push HS1.out HR1.out HOWN.out HB3.out HRX.out (fun g hg => hg) (W7 := W7) (g := g7) (cap := cap7) (H := W3.heap.size + 1) (o := .cells #[.int .i64 kind, .string text, .string dest, .string title, .string att.id, .slice A1 att.cl.length c1, .slice A2 att.pr.length c2, .slice A3 args.length c3, .slice A4 cites.length c4, .slice B5 (mergeL kids).length d5] 37) hown hgrow hlies (by omega)
            have HV1 := Lib.hid HRX.out.one
            clear HMR HS1 HR1 HOWN
            go_wp2_with (first | (refine wpList_load_row rfl 37 (.tmp 5) rfl wr.heap.size rfl 37 #[.int .i64 kind, .string text, .string dest, .string title, .string att.id, .slice A1 att.cl.length c1, .slice A2 att.pr.length c2, .slice A3 args.length c3, .slice A4 cites.length c4, .slice B5 (mergeL kids).length d5] _ _ HBK3.out Try.underlying37 rfl inl_size ?_) | (refine wpList_inSlice rfl (.tmp 62) rfl (.int .i64 kind) (.string text) (.string dest) (.string title) (.string att.id) (.slice A1 att.cl.length c1) (.slice A2 att.pr.length c2) (.slice A3 args.length c3) (.slice A4 cites.length c4) (.slice B5 (mergeL kids).length d5) rfl ?_) | (at_builtin; refine wpList_append_lies _ rfl _ _ 26 rfl w.heap.size 37 i0 _ 10 192 Try.underlying26 hi0 hz0 hz1 hz2 rfl (by decide) _ _ _ rfl HOW.out ⟨W3.heap.size, 0, none⟩ 1 1 [.int .i64 kind, .string text, .string dest, .string title, .string att.id, .slice A1 att.cl.length c1, .slice A2 att.pr.length c2, .slice A3 args.length c3, .slice A4 cites.length c4, .slice B5 (mergeL kids).length d5] rfl rfl ?e1 ?e2 (by decide) ?e3 ?e4 ?e5 (W3.heap.size + 1) ?e6 ?_))
            try case e2 => simpa using HV1.out
            try case e3 => unfold maxLen; omega
            try case e4 => omega
            try case e5 => have := HZ3.out; omega
            intro g7 cap7 W7 hown hgrow hlies hlt7
            have HF := Lib.hid (HPU.out W7 g7 cap7 hown hgrow hlies)
            clear hown hgrow hlies hlt7 HPU
            go_wp2_with fail
            go_roundw
            case rel => exact ⟨i + 1, stepJ done (mergeI (.mk kind text dest title att args cites kids)), by omega, HLE.out, by go_num, HNX, by rw [HST.out]; exact HF⟩
            case measure => simp [intOf]; omega
        · rw [List.concat_eq_append] at hdn
          have hlq := HR1.out
          have hdn2 := hdn
          rw [hdn] at hlq
          obtain ⟨us1, u1, hvs, ho1, hy1⟩ := RepIs.last hlq
          obtain ⟨u0, uu1, u2, u3, u4, u5, u6, u7, u8, u9, rfl⟩ := hy1.opn
          obtain ⟨rfl, rfl⟩ := RepI.two hy1
          have hol := ho1.len
          have hfl : (us1.flatMap Array.toList).length = o.length * 10 := by rw [flatz_len 10 _ (fun v hv => RepIs.sizes ho1 v hv), hol]
          have hln : done.length = o.length + 1 := by rw [hdn, List.length_append]; rfl
          obtain ⟨gO, hAO⟩ : ∃ gO, AO = some ⟨gO, 0, none⟩ := by
            obtain ⟨A', c', e', -, hh⟩ := own_form HOWN.out
            injection e' with e1 e2 e3
            obtain ⟨g', hg', -⟩ := hh (by rw [hln]; omega)
            exact ⟨g', by rw [e1]; exact hg'⟩
          subst hAO
          have how3 := own_below HOWN.out HB3.out
          have hxs : ∀ j u, (#[.int .i64 y.kind, .string y.text, u2, u3, u4, u5, u6, u7, u8, u9] : Array Value)[j]? = some u → W3.cell? ⟨gO, o.length * 10 + j, none⟩ = some u := fun j u hj => by
            have hj10 : j < 10 := (Array.getElem?_eq_some_iff.1 hj).1
            rw [how3.cellAt _ (by rw [hln]; omega), hvs, List.flatMap_append, List.getElem?_append_right (by omega), hfl, show o.length * 10 + j - o.length * 10 = j by omega, List.flatMap_singleton, Array.getElem?_toList]
            exact hj
          obtain ⟨m, hm⟩ : ∃ m, m = o.length := ⟨_, rfl⟩
          have n0 : W3.cell? ⟨gO, m * 10, none⟩ = some (.int .i64 y.kind) := by rw [hm]; exact hxs 0 _ rfl
          have n1 : W3.cell? ⟨gO, m * 10 + 1, none⟩ = some (.string y.text) := by rw [hm]; exact hxs 1 _ rfl
          have hgO := HOWN.out.lt gO rfl
          have hgO2 : gO ≠ wr.heap.size := by omega
          have hdm : done.length = m + 1 := by rw [hln, hm]
          have hm6 : m ≤ 1000000 := by omega
          have hm0 : (0 : Int) ≤ (m : Int) := by omega
          have hm1 : (m : Int) < (m : Int) + 1 := by omega
          have hty := HTY.out y (by rw [hdn]; simp)
          have hhh := hmk
          by_cases hk1 : kind = 1
          · have ht1 : text.toList ≠ [] := fun h => he ⟨hk1, h⟩
            have ht2 : text.toList.isEmpty = false := by cases h : text.toList with | nil => exact absurd h ht1 | cons => rfl
            have ht3 : (text.toList == []) = false := by cases h : text.toList with | nil => exact absurd h ht1 | cons => rfl
            have dk : (kind == 1) = true := beq_iff_eq.2 hk1
            by_cases hy : y.kind = 1
            · have dn : (y.kind == 1) = true := beq_iff_eq.2 hy
              have hst : stepJ done (mergeI (.mk kind text dest title att args cites kids)) = o ++ [setTxt y (y.text.toList ++ text.toList)] := by rw [hdn, stepJ_txt (hmk.1.trans hk1) (by rw [hmk.2]; exact ht1) hy, hmk.2]
              have HST := Lib.hid hst
              have hcat : ∀ W : World, (Op.stringOp .add y.text text).run Try.prog W = .ok (.string ⟨(y.text.toList ++ text.toList).toArray⟩) W := fun W => by
                have hts : text.toList.length = text.size := by rw [Lib.toList_data]; exact Array.length_toList
                have h := cat_s (P := Try.prog) W y.text.toList text (by omega)
                have e : bsT y.text.toList = y.text := ofList_toList _
                rw [e] at h
                exact h
              have hfz : W3.frozen? ⟨gO, m * 10 + 1, none⟩ = false := how3.frozenAt _
              have HPW : Hid (∀ W5 : World, W5 = W3.drew.setCell ⟨gO, m * 10 + 1, none⟩ (.string ⟨(y.text.toList ++ text.toList).toArray⟩) → MrR w S0 (stepJ done (mergeI (.mk kind text dest title att args cites kids))) (.slice (some ⟨gO, 0, none⟩) done.length cO) W5) := Lib.hid fun W5 hW5 => by
                have how4 : W3.drew.ownsRow w.heap.size 37 10 (.slice (some ⟨gO, 0, none⟩) done.length cO) done.length (vs1.flatMap Array.toList) := how3
                obtain ⟨s1, s2⟩ := how4.stored (m * 10 + 1) (.string ⟨(y.text.toList ++ text.toList).toArray⟩)
                rw [← hW5] at s1 s2
                have hkp : ∀ g, S1 g → W5.heap[g]? = wr.heap[g]? := fun g hg => by
                  obtain ⟨_, a2, a3⟩ := HS1.out g hg
                  have hne : some g ≠ some gO := fun e => a3 (by rw [Option.some.inj e]; rfl)
                  exact (s2.block g (Nat.lt_of_lt_of_le a2 HB3.out.size) hne).trans (HB3.out.block g a2)
                rw [hst]
                refine ⟨⟨S1, us1 ++ [#[.int .i64 y.kind, .string ⟨(y.text.toList ++ text.toList).toArray⟩, u2, u3, u4, u5, u6, u7, u8, u9]], fun g hg => ?_, ?_, ?_⟩, ?_⟩
                · obtain ⟨a1, a2, a3⟩ := HS1.out g hg
                  exact ⟨a1, Nat.lt_of_lt_of_le a2 (Nat.le_trans HB3.out.size s2.size), a3⟩
                · exact (ho1.keep hkp fun _ h => h).snoc ((RepI.setTxt hy1 (y.text.toList ++ text.toList)).keep hkp fun _ h => h)
                · have e1 : (o ++ [setTxt y (y.text.toList ++ text.toList)]).length = done.length := by rw [hln, List.length_append]; rfl
                  rw [e1]
                  have e2 : (vs1.flatMap Array.toList).set (m * 10 + 1) (.string ⟨(y.text.toList ++ text.toList).toArray⟩) = (us1 ++ [#[.int .i64 y.kind, .string ⟨(y.text.toList ++ text.toList).toArray⟩, u2, u3, u4, u5, u6, u7, u8, u9]]).flatMap Array.toList := by
                    rw [hvs, List.flatMap_append, List.flatMap_append, List.set_append_right _ _ (by omega), hfl, hm, show o.length * 10 + 1 - o.length * 10 = 1 by omega]
                    rfl
                  rw [← e2]
                  exact s1
                · have := (hbw.trans (HB3.out.mono hzw)).drew.setCell (p := ⟨gO, m * 10 + 1, none⟩) (by show w.heap.size ≤ gO; omega) (.string ⟨(y.text.toList ++ text.toList).toArray⟩)
                  rw [hW5]; exact this
              have hidx : ((m + 1 : Nat) : Int) - 1 = (m : Int) := by omega
              have hwr1 : IntKind.i64.wrap (((m + 1 : Nat) : Int) - 1) = (m : Int) := by rw [hidx]; exact IntWalk.i64_in _ (by omega)
              have hwr2 : IntKind.i64.wrap ((m : Int) + 1 - 1) = (m : Int) := by rw [Int.add_sub_cancel]; exact IntWalk.i64_in _ (by omega)
              have hwr3 : IntKind.i64.wrap (m : Int) = (m : Int) := IntWalk.i64_in _ (by omega)
              clear hst hmk hhh hdn hdn2 hln hol hfl hxs how3 ho1 hy1 hvs hlq hm he hk1 hy hty hidx HMR HR1 HOWN HRX HBK3 HTY
              generalize done.length = dm at *
              subst hdm
              go_wp2_with fail
              go_region
              all_goals
                go_wp2_with fail
                go_roundw
                case rel => exact ⟨i + 1, stepJ done (mergeI (.mk kind text dest title att args cites kids)), by omega, HLE.out, by go_num, HNX, Lib.hid (HPW.out _ rfl)⟩
                case measure => simp [intOf]; omega
            · have dn : (y.kind == 1) = false := beq_eq_false_iff_ne.2 hy
              have hst : stepJ done (mergeI (.mk kind text dest title att args cites kids)) = done ++ [mergeI (.mk kind text dest title att args cites kids)] := by rw [hdn]; exact stepJ_add (by rw [hmk.1, hmk.2]; exact he) (fun h => hy h.2)
              have HST := Lib.hid hst
              clear hst hmk hhh hdn hdn2 hln hol hfl hxs how3 ho1 hy1 hvs hlq hm he hk1 hy hty HTY
              have HOW := Lib.hid (own_below HOWN.out (HB3.out.alloc HZ3.out (.cells #[.int .i64 kind, .string text, .string dest, .string title, .string att.id, .slice A1 att.cl.length c1, .slice A2 att.pr.length c2, .slice A3 args.length c3, .slice A4 cites.length c4, .slice B5 (mergeL kids).length d5] 37)))
              have HPU := Lib.hid fun (W7 : World) (g7 cap7 : Nat) (hown : W7.ownsRow w.heap.size 37 10 (.slice (some ⟨g7, 0, none⟩) (done.length + 1) cap7) (done.length + 1) (vs1.flatMap Array.toList ++ #[.int .i64 kind, .string text, .string dest, .string title, .string att.id, .slice A1 att.cl.length c1, .slice A2 att.pr.length c2, .slice A3 args.length c3, .slice A4 cites.length c4, .slice B5 (mergeL kids).length d5].toList)) hgrow hlies => HMR.out.push HS1.out HR1.out HOWN.out HB3.out HRX.out (fun g hg => hg) (W7 := W7) (g := g7) (cap := cap7) (H := W3.heap.size + 1) (o := .cells #[.int .i64 kind, .string text, .string dest, .string title, .string att.id, .slice A1 att.cl.length c1, .slice A2 att.pr.length c2, .slice A3 args.length c3, .slice A4 cites.length c4, .slice B5 (mergeL kids).length d5] 37) hown hgrow hlies (by omega)
              have HV1 := Lib.hid HRX.out.one
              clear HMR HS1 HR1 HOWN
              generalize done.length = dm at *
              subst hdm
              go_wp2_with (first | (refine wpList_load_row rfl 37 (.tmp 5) rfl wr.heap.size rfl 37 #[.int .i64 kind, .string text, .string dest, .string title, .string att.id, .slice A1 att.cl.length c1, .slice A2 att.pr.length c2, .slice A3 args.length c3, .slice A4 cites.length c4, .slice B5 (mergeL kids).length d5] _ _ HBK3.out Try.underlying37 rfl inl_size ?_) | (refine wpList_inSlice rfl (.tmp 62) rfl (.int .i64 kind) (.string text) (.string dest) (.string title) (.string att.id) (.slice A1 att.cl.length c1) (.slice A2 att.pr.length c2) (.slice A3 args.length c3) (.slice A4 cites.length c4) (.slice B5 (mergeL kids).length d5) rfl ?_) | (at_builtin; refine wpList_append_lies _ rfl _ _ 26 rfl w.heap.size 37 i0 _ 10 192 Try.underlying26 hi0 hz0 hz1 hz2 rfl (by decide) _ _ _ rfl HOW.out ⟨W3.heap.size, 0, none⟩ 1 1 [.int .i64 kind, .string text, .string dest, .string title, .string att.id, .slice A1 att.cl.length c1, .slice A2 att.pr.length c2, .slice A3 args.length c3, .slice A4 cites.length c4, .slice B5 (mergeL kids).length d5] rfl rfl ?f1 ?f2 (by decide) ?f3 ?f4 ?f5 (W3.heap.size + 1) ?f6 ?_))
              try case f2 => simpa using HV1.out
              try case f3 => unfold maxLen; omega
              try case f4 => omega
              try case f5 => have := HZ3.out; omega
              intro g7 cap7 W7 hown hgrow hlies hlt7
              have HF := Lib.hid (HPU.out W7 g7 cap7 hown hgrow hlies)
              clear hown hgrow hlies hlt7 HPU
              go_wp2_with fail
              go_roundw
              case rel => exact ⟨i + 1, stepJ done (mergeI (.mk kind text dest title att args cites kids)), by omega, HLE.out, by go_num, HNX, by rw [HST.out]; exact HF⟩
              case measure => simp [intOf]; omega
          · have dk : (kind == 1) = false := beq_eq_false_iff_ne.2 hk1
            have hst : stepJ done (mergeI (.mk kind text dest title att args cites kids)) = done ++ [mergeI (.mk kind text dest title att args cites kids)] := by rw [hdn]; exact stepJ_add (by rw [hmk.1, hmk.2]; exact he) (fun h => hk1 (hmk.1.symm.trans h.1))
            have HST := Lib.hid hst
            clear hst hmk hhh hdn hdn2 hln hol hfl hxs how3 ho1 hy1 hvs hlq hm he hk1 hty HTY
            have HOW := Lib.hid (own_below HOWN.out (HB3.out.alloc HZ3.out (.cells #[.int .i64 kind, .string text, .string dest, .string title, .string att.id, .slice A1 att.cl.length c1, .slice A2 att.pr.length c2, .slice A3 args.length c3, .slice A4 cites.length c4, .slice B5 (mergeL kids).length d5] 37)))
            have HPU := Lib.hid fun (W7 : World) (g7 cap7 : Nat) (hown : W7.ownsRow w.heap.size 37 10 (.slice (some ⟨g7, 0, none⟩) (done.length + 1) cap7) (done.length + 1) (vs1.flatMap Array.toList ++ #[.int .i64 kind, .string text, .string dest, .string title, .string att.id, .slice A1 att.cl.length c1, .slice A2 att.pr.length c2, .slice A3 args.length c3, .slice A4 cites.length c4, .slice B5 (mergeL kids).length d5].toList)) hgrow hlies => HMR.out.push HS1.out HR1.out HOWN.out HB3.out HRX.out (fun g hg => hg) (W7 := W7) (g := g7) (cap := cap7) (H := W3.heap.size + 1) (o := .cells #[.int .i64 kind, .string text, .string dest, .string title, .string att.id, .slice A1 att.cl.length c1, .slice A2 att.pr.length c2, .slice A3 args.length c3, .slice A4 cites.length c4, .slice B5 (mergeL kids).length d5] 37) hown hgrow hlies (by omega)
            have HV1 := Lib.hid HRX.out.one
            clear HMR HS1 HR1 HOWN
            generalize done.length = dm at *
            subst hdm
            go_wp2_with (first | (refine wpList_load_row rfl 37 (.tmp 5) rfl wr.heap.size rfl 37 #[.int .i64 kind, .string text, .string dest, .string title, .string att.id, .slice A1 att.cl.length c1, .slice A2 att.pr.length c2, .slice A3 args.length c3, .slice A4 cites.length c4, .slice B5 (mergeL kids).length d5] _ _ HBK3.out Try.underlying37 rfl inl_size ?_) | (refine wpList_inSlice rfl (.tmp 62) rfl (.int .i64 kind) (.string text) (.string dest) (.string title) (.string att.id) (.slice A1 att.cl.length c1) (.slice A2 att.pr.length c2) (.slice A3 args.length c3) (.slice A4 cites.length c4) (.slice B5 (mergeL kids).length d5) rfl ?_) | (at_builtin; refine wpList_append_lies _ rfl _ _ 26 rfl w.heap.size 37 i0 _ 10 192 Try.underlying26 hi0 hz0 hz1 hz2 rfl (by decide) _ _ _ rfl HOW.out ⟨W3.heap.size, 0, none⟩ 1 1 [.int .i64 kind, .string text, .string dest, .string title, .string att.id, .slice A1 att.cl.length c1, .slice A2 att.pr.length c2, .slice A3 args.length c3, .slice A4 cites.length c4, .slice B5 (mergeL kids).length d5] rfl rfl ?k1 ?k2 (by decide) ?k3 ?k4 ?k5 (W3.heap.size + 1) ?k6 ?_))
            try case k2 => simpa using HV1.out
            try case k3 => unfold maxLen; omega
            try case k4 => omega
            try case k5 => have := HZ3.out; omega
            intro g7 cap7 W7 hown hgrow hlies hlt7
            have HF := Lib.hid (HPU.out W7 g7 cap7 hown hgrow hlies)
            clear hown hgrow hlies hlt7 HPU
            go_wp2_with fail
            go_roundw
            case rel => exact ⟨i + 1, stepJ done (mergeI (.mk kind text dest title att args cites kids)), by omega, HLE.out, by go_num, HNX, by rw [HST.out]; exact HF⟩
            case measure => simp [intOf]; omega
    · obtain rfl : i = l.length := by omega
      have hd : done = mergeL l := by rw [HD.out, HEND.out]
      subst hd
      have HF : Hid (RmgP S0 l w (.returned (.slice AO (mergeL l).length cO)) wr) := Lib.hid ⟨AO, cO, vs1, rfl, hr1.keep (fun _ _ => rfl) (fun g hg => by
        rcases (hS1 g hg).1 with h | h
        · exact .inl h
        · exact .inr ⟨h, (hS1 g hg).2.1⟩), hown, hbw⟩
      clear hS1 hr1 hown HMR HD
      go_wp2_with fail
      go_ret
      exact HF.out

theorem rmerge_all : ∀ N, N ≤ 1000000 → RmgH N := fun N => by
  induction N using Nat.strongRecOn with
  | ind N ih =>
    intro hN
    refine r_merge N hN fun x hx => ih (sizeL x.kids) ?_ ?_
    · obtain ⟨k, t, d, ti, a, ar, c, ks⟩ := x
      rw [sizeI] at hx
      show sizeL ks < N
      omega
    · obtain ⟨k, t, d, ti, a, ar, c, ks⟩ := x
      rw [sizeI] at hx
      show sizeL ks ≤ _
      omega
end Go.Proofs.Ytfnloonmeilhlaa
namespace Go.Pub
open Go.RowKit
def unC (p : PcT) : PcT := { p with clo := false }
end Go.Pub
namespace Go.Proofs.Ytfnloonmeilhlaa
open Go.RowKit Go.Pub
theorem t_texts (zs : List ByteArray) (A A' : Option Addr) (c c' : Nat) (S S' : Nat → Prop) (w : World) (h : ReadsS w S 1 A zs.length (strs zs)) (h' : ReadsS w S' 1 A' zs.length (strs zs)) (hS : ∀ g, S g → g < w.heap.size) (hS' : ∀ g, S' g → g < w.heap.size) (hl : zs.length ≤ 1000000) :
    Calls Try.prog 23 #[.slice A zs.length c, .slice A' zs.length c'] w fun e w' => e = .returned (.bool true) ∧ Below w.heap.size w w' := by
  have HR := Lib.hid h
  have HR' := Lib.hid h'
  have HS := Lib.hid hS
  have HS' := Lib.hid hS'
  clear h h' hS hS'
  go_enter Try.func23, Try.ntmps23
  go_wp2_with fail
  go_loopw [5] (fun v5 wr => ∃ k : Nat, v5 = .int .i64 k ∧ k ≤ zs.length ∧ Hid (Below w.heap.size w wr)) (fun v5 _ => zs.length - (intOf v5).toNat)
  case atStart => exact ⟨0, rfl, Nat.zero_le _, Lib.hid (Below.refl _ _)⟩
  case round =>
    obtain ⟨k, rfl, hk, HB⟩ := hrel
    by_cases hlt : k < zs.length
    · obtain ⟨g, o, rfl, hg, hc⟩ := HR.out.row (by omega) (by decide)
      obtain ⟨g', o', rfl, hg', hc'⟩ := HR'.out.row (by omega) (by decide)
      have f1 := (HB.out.cell (p := ⟨g, o + k, none⟩) (HS.out g hg)).trans (hc k _ (strs_at' zs k hlt))
      have f2 := (HB.out.cell (p := ⟨g', o' + k, none⟩) (HS'.out g' hg')).trans (hc' k _ (strs_at' zs k hlt))
      clear hc hc'
      generalize zs[k] = z at *
      have q1 : (z.toList == z.toList) = true := beq_self_eq_true _
      go_wp2_with fail
      go_quiet (fail)
      go_wp2_with fail
      go_roundw
      case rel => exact ⟨k + 1, by go_num, by omega, Lib.hid (below_drewN HB.out _)⟩
      case measure => simp [intOf]; omega
    · go_wp2_with fail
      go_ret
      exact ⟨rfl, HB.out⟩
theorem t_pairs (ps : List (ByteArray × ByteArray)) (A A' : Option Addr) (c c' : Nat) (S S' : Nat → Prop) (w : World) (h : ReadsS w S 2 A ps.length (prs ps)) (h' : ReadsS w S' 2 A' ps.length (prs ps)) (hS : ∀ g, S g → g < w.heap.size) (hS' : ∀ g, S' g → g < w.heap.size) (hl : ps.length ≤ 1000000) :
    Calls Try.prog 30 #[.slice A ps.length c, .slice A' ps.length c'] w fun e w' => e = .returned (.bool true) ∧ Below w.heap.size w w' := by
  have HR := Lib.hid h
  have HR' := Lib.hid h'
  have HS := Lib.hid hS
  have HS' := Lib.hid hS'
  clear h h' hS hS'
  go_enter Try.func30, Try.ntmps30
  go_wp2_with fail
  go_loopw [5] (fun v5 wr => ∃ k : Nat, v5 = .int .i64 k ∧ k ≤ ps.length ∧ Hid (Below w.heap.size w wr)) (fun v5 _ => ps.length - (intOf v5).toNat)
  case atStart => exact ⟨0, rfl, Nat.zero_le _, Lib.hid (Below.refl _ _)⟩
  case round =>
    obtain ⟨k, rfl, hk, HB⟩ := hrel
    by_cases hlt : k < ps.length
    · obtain ⟨g, o, rfl, hg, hc⟩ := HR.out.row (by omega) (by decide)
      obtain ⟨g', o', rfl, hg', hc'⟩ := HR'.out.row (by omega) (by decide)
      have f1 := (HB.out.cell (p := ⟨g, o + k * 2, none⟩) (HS.out g hg)).trans (hc (k * 2) _ (prs_at' ps k hlt).1)
      have f2 := (HB.out.cell (p := ⟨g', o' + k * 2, none⟩) (HS'.out g' hg')).trans (hc' (k * 2) _ (prs_at' ps k hlt).1)
      have f3 : wr.cell? ⟨g, o + k * 2 + 1, none⟩ = some (.string ps[k].2) := (HB.out.cell (p := ⟨g, o + k * 2 + 1, none⟩) (HS.out g hg)).trans (by rw [Nat.add_assoc]; exact hc (k * 2 + 1) _ (prs_at' ps k hlt).2)
      have f4 : wr.cell? ⟨g', o' + k * 2 + 1, none⟩ = some (.string ps[k].2) := (HB.out.cell (p := ⟨g', o' + k * 2 + 1, none⟩) (HS'.out g' hg')).trans (by rw [Nat.add_assoc]; exact hc' (k * 2 + 1) _ (prs_at' ps k hlt).2)
      clear hc hc'
      generalize ps[k].1 = y at *
      generalize ps[k].2 = z at *
      have q1 : (z.toList == z.toList) = true := beq_self_eq_true _
      have q2 : (y.toList == y.toList) = true := beq_self_eq_true _
      go_wp2_with fail
      go_quiet (fail)
      go_wp2_with fail
      go_roundw
      case rel => exact ⟨k + 1, by go_num, by omega, Lib.hid (below_drewN HB.out _)⟩
      case measure => simp [intOf]; omega
    · go_wp2_with fail
      go_ret
      exact ⟨rfl, HB.out⟩
set_option maxHeartbeats 4000000 in
set_option maxRecDepth 100000 in
theorem t_attrs {S S' : Nat → Prop} {A1 A2 B1 B2 : Option Addr} {c1 c2 d1 d2 : Nat} {a : AttrL} (w : World) (h1 : ReadsS w S 1 A1 a.cl.length (strs a.cl)) (h2 : ReadsS w S 2 A2 a.pr.length (prs a.pr)) (k1 : ReadsS w S' 1 B1 a.cl.length (strs a.cl)) (k2 : ReadsS w S' 2 B2 a.pr.length (prs a.pr)) (hS : ∀ g, S g → g < w.heap.size) (hS' : ∀ g, S' g → g < w.heap.size) (n1 : a.cl.length ≤ 1000000) (n2 : a.pr.length ≤ 1000000) :
    Calls Try.prog 22 #[.agg #[.string a.id, .slice A1 a.cl.length c1, .slice A2 a.pr.length c2], .agg #[.string a.id, .slice B1 a.cl.length d1, .slice B2 a.pr.length d2]] w (BoolP true w) := by
  obtain ⟨id, cl, pr⟩ := a
  have HT : Hid (∀ W, Below w.heap.size w W → Calls Try.prog 23 #[.slice A1 cl.length c1, .slice B1 cl.length d1] W fun e w' => e = .returned (.bool true) ∧ Below W.heap.size W w') := Lib.hid fun W hW => t_texts cl A1 B1 c1 d1 S S' W (h1.keep (fun g hg => hW.block g (hS g hg)) fun _ h => h) (k1.keep (fun g hg => hW.block g (hS' g hg)) fun _ h => h) (fun g hg => Nat.lt_of_lt_of_le (hS g hg) hW.size) (fun g hg => Nat.lt_of_lt_of_le (hS' g hg) hW.size) n1
  have HP : Hid (∀ W, Below w.heap.size w W → Calls Try.prog 30 #[.slice A2 pr.length c2, .slice B2 pr.length d2] W fun e w' => e = .returned (.bool true) ∧ Below W.heap.size W w') := Lib.hid fun W hW => t_pairs pr A2 B2 c2 d2 S S' W (h2.keep (fun g hg => hW.block g (hS g hg)) fun _ h => h) (k2.keep (fun g hg => hW.block g (hS' g hg)) fun _ h => h) (fun g hg => Nat.lt_of_lt_of_le (hS g hg) hW.size) (fun g hg => Nat.lt_of_lt_of_le (hS' g hg) hW.size) n2
  have q1 : (id.toList == id.toList) = true := beq_self_eq_true _
  have e1 : (w.alloc (.cells #[.string id, .slice A1 cl.length c1, .slice A2 pr.length c2] 34)).heap.size = w.heap.size + 1 := by simp
  have b1 := Blk.new w 34 #[.string id, .slice A1 cl.length c1, .slice A2 pr.length c2]
  have b2 := Blk.new (w.alloc (.cells #[.string id, .slice A1 cl.length c1, .slice A2 pr.length c2] 34)) 34 #[.string id, .slice B1 cl.length d1, .slice B2 pr.length d2]
  have b1' := b1.alloc (.cells #[.string id, .slice B1 cl.length d1, .slice B2 pr.length d2] 34)
  have hB0 : Below w.heap.size w ((w.alloc (.cells #[.string id, .slice A1 cl.length c1, .slice A2 pr.length c2] 34)).alloc (.cells #[.string id, .slice B1 cl.length d1, .slice B2 pr.length d2] 34)) := ((Below.refl _ w).alloc (Nat.le_refl _) _).alloc (by simp) _
  rw [e1] at b2
  have HB0 := Lib.hid hB0
  have HK1 := Lib.hid b1'
  have HK2 := Lib.hid b2
  have x0 : ((w.alloc (.cells #[.string id, .slice A1 cl.length c1, .slice A2 pr.length c2] 34)).alloc (.cells #[.string id, .slice B1 cl.length d1, .slice B2 pr.length d2] 34)).cell? ⟨w.heap.size, 0, none⟩ = some (.string id) := b1'.cell 0
  have x1 : ((w.alloc (.cells #[.string id, .slice A1 cl.length c1, .slice A2 pr.length c2] 34)).alloc (.cells #[.string id, .slice B1 cl.length d1, .slice B2 pr.length d2] 34)).cell? ⟨w.heap.size, 1, none⟩ = some (.slice A1 cl.length c1) := b1'.cell 1
  have y0 : ((w.alloc (.cells #[.string id, .slice A1 cl.length c1, .slice A2 pr.length c2] 34)).alloc (.cells #[.string id, .slice B1 cl.length d1, .slice B2 pr.length d2] 34)).cell? ⟨w.heap.size + 1, 0, none⟩ = some (.string id) := b2.cell 0
  have y1 : ((w.alloc (.cells #[.string id, .slice A1 cl.length c1, .slice A2 pr.length c2] 34)).alloc (.cells #[.string id, .slice B1 cl.length d1, .slice B2 pr.length d2] 34)).cell? ⟨w.heap.size + 1, 1, none⟩ = some (.slice B1 cl.length d1) := b2.cell 1
  clear h1 h2 k1 k2 hS hS' n1 n2 b1 b2 b1' hB0 e1
  go_enter Try.func22, Try.ntmps22
  go_wp2_with fail
  generalize (w.alloc (.cells #[.string id, .slice A1 cl.length c1, .slice A2 pr.length c2] 34)).alloc (.cells #[.string id, .slice B1 cl.length d1, .slice B2 pr.length d2] 34) = W1 at *
  ((with_reducible refine (HT.out W1 HB0.out).mono ?_))
  rintro e W2 ⟨rfl, b3⟩
  have z2 : W2.cell? ⟨w.heap.size, 2, none⟩ = some (.slice A2 pr.length c2) := (HK1.out.below b3 HK1.out.lt).cell 2
  have z3 : W2.cell? ⟨w.heap.size + 1, 2, none⟩ = some (.slice B2 pr.length d2) := (HK2.out.below b3 HK2.out.lt).cell 2
  have HB3 := Lib.hid (HB0.out.trans (b3.mono HB0.out.size))
  clear b3 HT x0 x1 y0 y1
  go_wp2_with fail
  ((with_reducible refine (HP.out W2 HB3.out).mono ?_))
  rintro e W3 ⟨rfl, b4⟩
  have HB4 := Lib.hid (HB3.out.trans (b4.mono HB3.out.size))
  clear b4 HP
  go_wp2_with fail
  go_ret
  exact ⟨rfl, HB4.out⟩

end Go.Proofs.Ytfnloonmeilhlaa
namespace Go.Proofs.Ytfnloonmeilhlaa
open Go.RowKit Go.Pub
theorem bk10 {w : World} {g : Nat} {T : TypeId} {u0 u1 u2 u3 u4 u5 u6 u7 u8 u9 : Value} (h : Blk w g T #[u0, u1, u2, u3, u4, u5, u6, u7, u8, u9]) : w.cell? ⟨g, 0, none⟩ = some u0 ∧ w.cell? ⟨g, 1, none⟩ = some u1 ∧ w.cell? ⟨g, 2, none⟩ = some u2 ∧ w.cell? ⟨g, 3, none⟩ = some u3 ∧ w.cell? ⟨g, 4, none⟩ = some u4 ∧ w.cell? ⟨g, 5, none⟩ = some u5 ∧ w.cell? ⟨g, 6, none⟩ = some u6 ∧ w.cell? ⟨g, 7, none⟩ = some u7 ∧ w.cell? ⟨g, 8, none⟩ = some u8 ∧ w.cell? ⟨g, 9, none⟩ = some u9 :=
  ⟨h.cell 0, h.cell 1, h.cell 2, h.cell 3, h.cell 4, h.cell 5, h.cell 6, h.cell 7, h.cell 8, h.cell 9⟩
theorem rg10 {w : World} {b o : Nat} {u0 u1 u2 u3 u4 u5 u6 u7 u8 u9 : Value} (h : w.rangeAt b o [u0, u1, u2, u3, u4, u5, u6, u7, u8, u9]) : w.cell? ⟨b, o, none⟩ = some u0 ∧ w.cell? ⟨b, o + 1, none⟩ = some u1 ∧ w.cell? ⟨b, o + 2, none⟩ = some u2 ∧ w.cell? ⟨b, o + 3, none⟩ = some u3 ∧ w.cell? ⟨b, o + 4, none⟩ = some u4 ∧ w.cell? ⟨b, o + 5, none⟩ = some u5 ∧ w.cell? ⟨b, o + 6, none⟩ = some u6 ∧ w.cell? ⟨b, o + 7, none⟩ = some u7 ∧ w.cell? ⟨b, o + 8, none⟩ = some u8 ∧ w.cell? ⟨b, o + 9, none⟩ = some u9 :=
  ⟨h 0 _ rfl, h 1 _ rfl, h 2 _ rfl, h 3 _ rfl, h 4 _ rfl, h 5 _ rfl, h 6 _ rfl, h 7 _ rfl, h 8 _ rfl, h 9 _ rfl⟩
theorem cit_cells {w : World} {S : Nat → Prop} {A : Option Addr} {l : List CitL} (h : ReadsS w S 4 A l.length (citVT l)) (q : Nat) (hq : q < l.length) : ∃ G o, A = some ⟨G, o, none⟩ ∧ w.cell? ⟨G, o + q * 4, none⟩ = some (.string l[q].key) ∧ w.cell? ⟨G, o + q * 4 + 1, none⟩ = some (.string l[q].pre) ∧ w.cell? ⟨G, o + q * 4 + 2, none⟩ = some (.string l[q].suf) ∧ w.cell? ⟨G, o + q * 4 + 3, none⟩ = some (.bool l[q].bare) := by
  obtain ⟨b, off, e, hb, hc⟩ := h.row (by omega) (by decide)
  obtain ⟨e0, e1, e2, e3⟩ := citVT_at l q hq
  exact ⟨b, off, e, hc _ _ e0, by rw [Nat.add_assoc]; exact hc _ _ e1, by rw [Nat.add_assoc]; exact hc _ _ e2, by rw [Nat.add_assoc]; exact hc _ _ e3⟩
/-- What is at an element of inlines that are read. -/
theorem RepIs.row {w : World} {S : Nat → Prop} {vs : List (Array Value)} {l : List InT} {A : Option Addr} (h1 : RepIs w S vs l) (h2 : ReadsS w S 10 A l.length (vs.flatMap Array.toList)) (i : Nat) (hi : i < l.length) : ∃ b off v, A = some ⟨b, off, none⟩ ∧ S b ∧ RepI w S v l[i] ∧ w.rangeAt b (off + i * 10) v.toList := by
  obtain ⟨b, off, e, hb, hc⟩ := h2.row (by omega) (by decide)
  obtain ⟨v, hv, hvc⟩ := h1.at_ i hi
  refine ⟨b, off, v, e, hb, hv, fun j u hj => ?_⟩
  have hj10 : j < 10 := by have := (List.getElem?_eq_some_iff.1 hj).1; rw [Array.length_toList, hv.size] at this; exact this
  rw [Nat.add_assoc]
  refine hc (i * 10 + j) u ?_
  rw [hvc j hj10, ← hj, Array.getElem?_toList]
/-- SameLine is right at equal inlines up to a size. -/
def SmlH (N : Nat) : Prop := ∀ l : List InT, sizeL l ≤ N → ∀ (S S' : Nat → Prop) (w : World) (A B : Option Addr) (c d : Nat) (vs us : List (Array Value)), RepIs w S vs l → ReadsS w S 10 A l.length (vs.flatMap Array.toList) → RepIs w S' us l → ReadsS w S' 10 B l.length (us.flatMap Array.toList) → (∀ g, S g → g < w.heap.size) → (∀ g, S' g → g < w.heap.size) →
  Calls Try.prog 11 #[.slice A l.length c, .slice B l.length d] w (BoolP true w)
set_option maxHeartbeats 8000000 in
set_option maxRecDepth 100000 in
theorem t_same (N : Nat) (hN : N ≤ 1000000) (hM : ∀ x : InT, sizeI x ≤ N → SmlH (sizeL x.kids)) : SmlH N := by
  intro l hl S S' w A B c d vs us h1 h2 k1 k2 hS hS'
  have hlen := sizeL_len l
  have HE1 := Lib.hid fun i (hi : i < l.length) => RepIs.row h1 h2 i hi
  have HE2 := Lib.hid fun i (hi : i < l.length) => RepIs.row k1 k2 i hi
  have HMG := Lib.hid fun i (hi : i < l.length) => hM l[i] (Nat.le_trans (sizeL_mem l i hi) hl)
  have HSZ := Lib.hid fun i (hi : i < l.length) => Nat.le_trans (sizeL_mem l i hi) (Nat.le_trans hl hN)
  have HS := Lib.hid hS
  have HS' := Lib.hid hS'
  have hll : l.length ≤ 1000000 := by omega
  clear h1 h2 k1 k2 hS hS' hM hl
  go_enter Try.func11, Try.ntmps11
  go_wp2_with fail
  go_loopw [5] (fun v5 wr => ∃ k : Nat, v5 = .int .i64 k ∧ k ≤ l.length ∧ Hid (Below w.heap.size w wr)) (fun v5 _ => l.length - (intOf v5).toNat)
  case atStart => exact ⟨0, rfl, Nat.zero_le _, Lib.hid (Below.refl _ _)⟩
  case round =>
    obtain ⟨i, rfl, hi, HBw⟩ := hrel
    by_cases hlt : i < l.length
    · obtain ⟨b, off, v, rfl, hb, hv, hrg⟩ := HE1.out i hlt
      obtain ⟨b', off', u, rfl, hb', hu, hrg'⟩ := HE2.out i hlt
      have hii : (i : Int) < (l.length : Int) := by omega
      have hi00 : (0 : Int) ≤ (i : Int) := by omega
      have hgm := HMG.out i hlt
      have hsz := HSZ.out i hlt
      have hzw := HBw.out.size
      have hb1 := HS.out b hb
      have hb2 := HS'.out b' hb'
      generalize l[i] = x at *
      cases hv with
      | mk kind text dest title att args cites kids A1 A2 A3 A4 A5 a1 a2 a3 a4 a5 vs' r1 r2 r3 r4 r5 r6 =>
      cases hu with
      | mk _ _ _ _ _ _ _ _ B1 B2 B3 B4 B5 b1 b2 b3 b4 b5 us' s1 s2 s3 s4 s5 s6 =>
      have HG1 : Hid (∀ W, Below wr.heap.size wr W → W.rangeAt b (off + i * 10) [.int .i64 kind, .string text, .string dest, .string title, .string att.id, .slice A1 att.cl.length a1, .slice A2 att.pr.length a2, .slice A3 args.length a3, .slice A4 cites.length a4, .slice A5 kids.length a5]) := Lib.hid fun W hW j u hj => (hW.cell (p := ⟨b, off + i * 10 + j, none⟩) (by show b < _; omega)).trans ((HBw.out.cell (p := ⟨b, off + i * 10 + j, none⟩) hb1).trans (hrg j u hj))
      have HG2 : Hid (∀ W, Below wr.heap.size wr W → W.rangeAt b' (off' + i * 10) [.int .i64 kind, .string text, .string dest, .string title, .string att.id, .slice B1 att.cl.length b1, .slice B2 att.pr.length b2, .slice B3 args.length b3, .slice B4 cites.length b4, .slice B5 kids.length b5]) := Lib.hid fun W hW j u hj => (hW.cell (p := ⟨b', off' + i * 10 + j, none⟩) (by show b' < _; omega)).trans ((HBw.out.cell (p := ⟨b', off' + i * 10 + j, none⟩) hb2).trans (hrg' j u hj))
      have hszs : att.cl.length ≤ 1000000 ∧ att.pr.length ≤ 1000000 ∧ args.length ≤ 1000000 := by rw [sizeI] at hsz; omega
      obtain ⟨n1, n2, n3⟩ := hszs
      have HAT : Hid (∀ W, Below w.heap.size w W → Calls Try.prog 22 #[.agg #[.string att.id, .slice A1 att.cl.length a1, .slice A2 att.pr.length a2], .agg #[.string att.id, .slice B1 att.cl.length b1, .slice B2 att.pr.length b2]] W (BoolP true W)) := Lib.hid fun W hW => t_attrs W (r1.keep (fun g hg => hW.block g (HS.out g hg)) fun _ h => h) (r2.keep (fun g hg => hW.block g (HS.out g hg)) fun _ h => h) (s1.keep (fun g hg => hW.block g (HS'.out g hg)) fun _ h => h) (s2.keep (fun g hg => hW.block g (HS'.out g hg)) fun _ h => h) (fun g hg => Nat.lt_of_lt_of_le (HS.out g hg) hW.size) (fun g hg => Nat.lt_of_lt_of_le (HS'.out g hg) hW.size) n1 n2
      have HTx : Hid (∀ W, Below w.heap.size w W → Calls Try.prog 23 #[.slice A3 args.length a3, .slice B3 args.length b3] W fun e w' => e = .returned (.bool true) ∧ Below W.heap.size W w') := Lib.hid fun W hW => t_texts args A3 B3 a3 b3 S S' W (r3.keep (fun g hg => hW.block g (HS.out g hg)) fun _ h => h) (s3.keep (fun g hg => hW.block g (HS'.out g hg)) fun _ h => h) (fun g hg => Nat.lt_of_lt_of_le (HS.out g hg) hW.size) (fun g hg => Nat.lt_of_lt_of_le (HS'.out g hg) hW.size) n3
      have HLN : Hid (∀ W, Below w.heap.size w W → Calls Try.prog 11 #[.slice A5 kids.length a5, .slice B5 kids.length b5] W (BoolP true W)) := Lib.hid fun W hW => hgm kids (Nat.le_refl _) S S' W A5 B5 a5 b5 vs' us' (r5.keep (fun g hg => hW.block g (HS.out g hg)) fun _ h => h) (r6.keep (fun g hg => hW.block g (HS.out g hg)) fun _ h => h) (s5.keep (fun g hg => hW.block g (HS'.out g hg)) fun _ h => h) (s6.keep (fun g hg => hW.block g (HS'.out g hg)) fun _ h => h) (fun g hg => Nat.lt_of_lt_of_le (HS.out g hg) hW.size) (fun g hg => Nat.lt_of_lt_of_le (HS'.out g hg) hW.size)
      have HC1 : Hid (∀ W, Below w.heap.size w W → ∀ q (hq : q < cites.length), ∃ G o, A4 = some ⟨G, o, none⟩ ∧ W.cell? ⟨G, o + q * 4, none⟩ = some (.string cites[q].key) ∧ W.cell? ⟨G, o + q * 4 + 1, none⟩ = some (.string cites[q].pre) ∧ W.cell? ⟨G, o + q * 4 + 2, none⟩ = some (.string cites[q].suf) ∧ W.cell? ⟨G, o + q * 4 + 3, none⟩ = some (.bool cites[q].bare)) := Lib.hid fun W hW q hq => cit_cells (r4.keep (fun g hg => hW.block g (HS.out g hg)) fun _ h => h) q hq
      have HC2 : Hid (∀ W, Below w.heap.size w W → ∀ q (hq : q < cites.length), ∃ G o, B4 = some ⟨G, o, none⟩ ∧ W.cell? ⟨G, o + q * 4, none⟩ = some (.string cites[q].key) ∧ W.cell? ⟨G, o + q * 4 + 1, none⟩ = some (.string cites[q].pre) ∧ W.cell? ⟨G, o + q * 4 + 2, none⟩ = some (.string cites[q].suf) ∧ W.cell? ⟨G, o + q * 4 + 3, none⟩ = some (.bool cites[q].bare)) := Lib.hid fun W hW q hq => cit_cells (s4.keep (fun g hg => hW.block g (HS'.out g hg)) fun _ h => h) q hq
      have hcl : cites.length ≤ 9223372036854775807 := by have := r4.1.2; unfold maxLen at this; omega
      have HK1 : Hid (∀ x, Below wr.heap.size wr (wr.alloc x).drew) := Lib.hid fun x => ((Below.refl _ wr).alloc (Nat.le_refl _) _).drew
      have HK2 : Hid (∀ x y, Below wr.heap.size wr ((wr.alloc x).alloc y).drew) := Lib.hid fun x y => (((Below.refl _ wr).alloc (Nat.le_refl _) _).alloc (by simp) _).drew
      have HN1 : Hid (∀ (x : Array Value) (y : Obj), Blk ((wr.alloc (.cells x 37)).alloc y).drew wr.heap.size 37 x) := Lib.hid fun x y => Blk.alloc (Blk.new wr _ x) y
      have HN2 : Hid (∀ (x : Obj) (y : Array Value), Blk ((wr.alloc x).alloc (.cells y 37)).drew (wr.heap.size + 1) 37 y) := Lib.hid fun x y => by
        have h := Blk.new (wr.alloc x) 37 y
        rw [World.size_alloc] at h
        exact h
      have HBr := Lib.hid (Below.refl wr.heap.size wr)
      clear hrg hrg' r1 r2 r3 r4 r5 r6 s1 s2 s3 s4 s5 s6 hgm hsz
      go_upto_region 6 with fail
      go_cut [6, 7] from 20 to 27 (fun s6 s7 wx => ∃ g6 g7 : Nat, s6 = .pointer (some ⟨g6, 0, none⟩) ∧ s7 = .pointer (some ⟨g7, 0, none⟩) ∧ Blk wx g6 37 #[.int .i64 kind, .string text, .string dest, .string title, .string att.id, .slice A1 att.cl.length a1, .slice A2 att.pr.length a2, .slice A3 args.length a3, .slice A4 cites.length a4, .slice A5 kids.length a5] ∧ Blk wx g7 37 #[.int .i64 kind, .string text, .string dest, .string title, .string att.id, .slice B1 att.cl.length b1, .slice B2 att.pr.length b2, .slice B3 args.length b3, .slice B4 cites.length b4, .slice B5 kids.length b5] ∧ Below w.heap.size w wx)
      case first =>
        clear HTx HC1 HC2 HAT HLN
        refine wp_region_held_drew (S := fun W' => Below wr.heap.size wr W') (by kernel_rfl) HBr.out.drew (fun hHeld => ?_)
        refine tk 0 (.slice (some ⟨b, off, none⟩) l.length c) rfl hHeld (fun W' hSw => ?_) ?_
        · go_simp
        refine tk 1 (.int .i64 i) rfl hHeld (fun W' hSw => ?_) ?_
        · go_simp
        refine tk 2 (.pointer (some ⟨b, off + i * 10, none⟩)) rfl hHeld (fun W' hSw => ?_) ?_
        · go_simp
        refine tk 3 (.agg #[.int .i64 kind, .string text, .string dest, .string title, .string att.id, .slice A1 att.cl.length a1, .slice A2 att.pr.length a2, .slice A3 args.length a3, .slice A4 cites.length a4, .slice A5 kids.length a5]) rfl hHeld (fun W' hSw => ?_) ?_
        · obtain ⟨e0, e1, e2, e3, e4, e5, e6, e7, e8, e9⟩ := rg10 (HG1.out W' hSw)
          go_simp
        refine tk 4 (.slice (some ⟨b', off', none⟩) l.length d) rfl hHeld (fun W' hSw => ?_) ?_
        · go_simp
        refine tk 5 (.int .i64 i) rfl hHeld (fun W' hSw => ?_) ?_
        · go_simp
        refine tk 6 (.pointer (some ⟨b', off' + i * 10, none⟩)) rfl hHeld (fun W' hSw => ?_) ?_
        · go_simp
        refine tk 7 (.agg #[.int .i64 kind, .string text, .string dest, .string title, .string att.id, .slice B1 att.cl.length b1, .slice B2 att.pr.length b2, .slice B3 args.length b3, .slice B4 cites.length b4, .slice B5 kids.length b5]) rfl hHeld (fun W' hSw => ?_) ?_
        · obtain ⟨e0, e1, e2, e3, e4, e5, e6, e7, e8, e9⟩ := rg10 (HG2.out W' hSw)
          go_simp
        refine wpAnyH_ready (rs := [8, 9]) (by kernel_rfl) (by simp) (AllReadyH.cons rfl (fun K hK => ?_) (AllReadyH.cons rfl (fun K hK => ?_) AllReadyH.nil))
        · go_simp
          refine hK.out _ _ (HK1.out _) (fun hHeld => ?_)
          clear hK K
          refine rd1 9 rfl (fun K hK => ?_)
          go_simp
          refine hK.out _ _ (HK2.out _ _) (fun hHeld => ?_)
          clear hK K
          refine rd1 10 rfl (fun K hK => ?_)
          go_simp
          refine hK.out _ _ (HK2.out _ _) (fun hHeld => ?_)
          clear hK K
          refine rd1 11 rfl (fun K hK => ?_)
          go_simp
          refine hK.out _ _ (HK2.out _ _) (fun hHeld => ?_)
          clear hK K
          refine wpAnyH_done (by kernel_rfl) ?_ _
          go_wp2_with fail
          go_meet
          exact ⟨wr.heap.size, wr.heap.size + 1, rfl, rfl, HN1.out _ _, HN2.out _ _, HBw.out.trans ((HK2.out _ _).mono HBw.out.size)⟩
        · go_simp
          refine hK.out _ _ (HK1.out _) (fun hHeld => ?_)
          clear hK K
          refine rd1 8 rfl (fun K hK => ?_)
          go_simp
          refine hK.out _ _ (HK2.out _ _) (fun hHeld => ?_)
          clear hK K
          refine rd1 10 rfl (fun K hK => ?_)
          go_simp
          refine hK.out _ _ (HK2.out _ _) (fun hHeld => ?_)
          clear hK K
          refine rd1 11 rfl (fun K hK => ?_)
          go_simp
          refine hK.out _ _ (HK2.out _ _) (fun hHeld => ?_)
          clear hK K
          refine wpAnyH_done (by kernel_rfl) ?_ _
          go_wp2_with fail
          go_meet
          exact ⟨wr.heap.size + 1, wr.heap.size, rfl, rfl, HN2.out _ _, HN1.out _ _, HBw.out.trans ((HK2.out _ _).mono HBw.out.size)⟩
      case rest =>
        obtain ⟨g6, g7, rfl, rfl, h6, h7, hbw⟩ := hcut
        have HBW := Lib.hid hbw
        have hl6 := h6.lt
        have hl7 := h7.lt
        have HI : Hid (∀ W, Below wc.heap.size wc W → Blk W g6 37 #[.int .i64 kind, .string text, .string dest, .string title, .string att.id, .slice A1 att.cl.length a1, .slice A2 att.pr.length a2, .slice A3 args.length a3, .slice A4 cites.length a4, .slice A5 kids.length a5] ∧ Blk W g7 37 #[.int .i64 kind, .string text, .string dest, .string title, .string att.id, .slice B1 att.cl.length b1, .slice B2 att.pr.length b2, .slice B3 args.length b3, .slice B4 cites.length b4, .slice B5 kids.length b5]) := Lib.hid fun W h => ⟨h6.below h hl6, h7.below h hl7⟩
        have q1 : (text.toList == text.toList) = true := beq_self_eq_true _
        have q2 : (dest.toList == dest.toList) = true := beq_self_eq_true _
        have q3 : (title.toList == title.toList) = true := beq_self_eq_true _
        have q1n : (text.toList != text.toList) = false := by simp
        have q2n : (dest.toList != dest.toList) = false := by simp
        have q3n : (title.toList != title.toList) = false := by simp
        clear h6 h7 hbw HG1 HG2 HN1 HN2 HK1 HK2 HBr
        have HW0 := Lib.hid (Below.refl wc.heap.size wc)
        obtain ⟨a0, a1, a2, a3, a4, a5, a6, a7, a8, a9⟩ := bk10 (HI.out _ HW0.out).1
        obtain ⟨b0, b1, b2, b3, b4, b5, b6, b7, b8, b9⟩ := bk10 (HI.out _ HW0.out).2
        go_wp2_with fail
        ((with_reducible refine (HAT.out _ HBW.out).mono ?_))
        rintro e w5 ⟨rfl, c5⟩
        have HW5 := Lib.hid c5
        clear a0 a1 a2 a3 a4 a5 a6 a7 a8 a9 b0 b1 b2 b3 b4 b5 b6 b7 b8 b9
        obtain ⟨a0, a1, a2, a3, a4, a5, a6, a7, a8, a9⟩ := bk10 (HI.out _ HW5.out).1
        obtain ⟨b0, b1, b2, b3, b4, b5, b6, b7, b8, b9⟩ := bk10 (HI.out _ HW5.out).2
        have HT5 := Lib.hid (HTx.out _ (HBW.out.trans (c5.mono HBW.out.size)))
        clear c5
        go_wp2_with fail
        ((with_reducible refine (HT5.out).mono ?_))
        rintro e w6 ⟨rfl, c6⟩
        have HW6 := Lib.hid (HW5.out.trans (c6.mono HW5.out.size))
        clear a0 a1 a2 a3 a4 a5 a6 a7 a8 a9 b0 b1 b2 b3 b4 b5 b6 b7 b8 b9
        obtain ⟨a0, a1, a2, a3, a4, a5, a6, a7, a8, a9⟩ := bk10 (HI.out _ HW6.out).1
        obtain ⟨b0, b1, b2, b3, b4, b5, b6, b7, b8, b9⟩ := bk10 (HI.out _ HW6.out).2
        have HL6 := Lib.hid (HLN.out _ (HBW.out.trans (HW6.out.mono HBW.out.size)))
        clear c6
        go_wp2_with fail
        ((with_reducible refine (HL6.out).mono ?_))
        rintro e w7 ⟨rfl, c7⟩
        have HW7 := Lib.hid (HW6.out.trans (c7.mono HW6.out.size))
        clear a0 a1 a2 a3 a4 a5 a6 a7 a8 a9 b0 b1 b2 b3 b4 b5 b6 b7 b8 b9
        clear c7
        have HB7 := Lib.hid (HBW.out.trans (HW7.out.mono HBW.out.size))
        have HR7 := Lib.hid (Below.refl w7.heap.size w7)
        have HI7 := Lib.hid fun W (hb : Below w7.heap.size w7 W) => HI.out W (HW7.out.trans (hb.mono HW7.out.size))
        obtain ⟨a0, a1, a2, a3, a4, a5, a6, a7, a8, a9⟩ := bk10 (HI.out _ HW7.out).1
        obtain ⟨b0, b1, b2, b3, b4, b5, b6, b7, b8, b9⟩ := bk10 (HI.out _ HW7.out).2
        clear HT5 HTx HAT HL6 HLN HI HW0 HW5 HW6 HW7 HBW
        go_wp2_with fail
        clear a0 a1 a2 a3 a4 a5 a6 a7 a8 a9 b0 b1 b2 b3 b4 b5 b6 b7 b8 b9
        go_loopw [8] (fun v8 wz => ∃ q : Nat, v8 = .int .i64 q ∧ q ≤ cites.length ∧ Hid (Below w7.heap.size w7 wz)) (fun v8 _ => cites.length - (intOf v8).toNat)
        case atStart => exact ⟨0, rfl, Nat.zero_le _, HR7⟩
        case round =>
          clear HR7
          obtain ⟨q, rfl, hq2, HBz⟩ := hrel
          have HI := HI7
          obtain ⟨a0, a1, a2, a3, a4, a5, a6, a7, a8, a9⟩ := bk10 (HI.out _ HBz.out).1
          obtain ⟨b0, b1, b2, b3, b4, b5, b6, b7, b8, b9⟩ := bk10 (HI.out _ HBz.out).2
          have HBZ := Lib.hid (HB7.out.trans (HBz.out.mono HB7.out.size))
          by_cases hql : q < cites.length
          · obtain ⟨G1, o1, rfl, d0, d1, d2, d3⟩ := HC1.out _ HBZ.out q hql
            obtain ⟨G2, o2, rfl, f0, f1, f2, f3⟩ := HC2.out _ HBZ.out q hql
            have hqq : (q : Int) < (cites.length : Int) := by omega
            have hq00 : (0 : Int) ≤ (q : Int) := by omega
            generalize cites[q].key = y0 at *
            generalize cites[q].pre = y1 at *
            generalize cites[q].suf = y2 at *
            generalize cites[q].bare = y3 at *
            have z0 : (y0.toList == y0.toList) = true := by simp
            have z1 : (y1.toList == y1.toList) = true := by simp
            have z2 : (y2.toList == y2.toList) = true := by simp
            have z3 : (y3 == y3) = true := by simp
            clear a0 a1 a2 a3 a4 a5 a6 a7 a9 b0 b1 b2 b3 b4 b5 b6 b7 b9 q1 q2 q3 q1n q2n q3n
            go_wp2_with fail
            go_quiet (fail)
            go_wp2_with fail
            go_roundw
            case rel => exact ⟨q + 1, by go_num, by omega, Lib.hid (below_drewN HBz.out _)⟩
            case measure => simp [intOf]; omega
          · have hqe : q = cites.length := by omega
            have dq : decide ((q : Int) < (cites.length : Int)) = false := decide_eq_false (by omega)
            clear hqe
            go_wp2_with fail
            go_roundw
            case rel => exact ⟨i + 1, by go_num, by omega, HBZ⟩
            case measure => simp [intOf]; omega
    · have dl : decide ((i : Int) < (l.length : Int)) = false := decide_eq_false (by omega)
      go_wp2_with fail
      go_ret
      exact ⟨rfl, HBw.out⟩

theorem same_all : ∀ N, N ≤ 1000000 → SmlH N := fun N => by
  induction N using Nat.strongRecOn with
  | ind N ih =>
    intro hN
    refine t_same N hN fun x hx => ih (sizeL x.kids) ?_ ?_
    · obtain ⟨k, t, d, ti, a, ar, c, ks⟩ := x
      rw [sizeI] at hx
      show sizeL ks < N
      omega
    · obtain ⟨k, t, d, ti, a, ar, c, ks⟩ := x
      rw [sizeI] at hx
      show sizeL ks ≤ _
      omega
end Go.Proofs.Ytfnloonmeilhlaa
namespace Go.Pub
open Go.RowKit
theorem repB_snoc (c : ByteArray) : ∀ n, repB c (n + 1) = repB c n ++ c.toList
  | 0 => by show c.toList ++ [] = [] ++ c.toList; simp
  | n + 1 => by
    show c.toList ++ repB c (n + 1) = (c.toList ++ repB c n) ++ c.toList
    rw [repB_snoc c n, List.append_assoc]
end Go.Pub
namespace Go.Proofs.Ytfnloonmeilhlaa
open Go.RowKit Go.Pub
end Go.Proofs.Ytfnloonmeilhlaa
namespace Go.Pub
end Go.Pub
namespace Go.Proofs.Ytfnloonmeilhlaa
open Go.RowKit Go.Pub
/-- The pieces so far, in a row of the call's own. -/
def OwO (w : World) (ps : List PcT) (i : Nat) (v : Value) (wr : World) : Prop := ∃ vs : List (Array Value), vs.length = i ∧ (∀ j, j < i → RepPc w (fun g => g < w.heap.size) (vs.getD j #[]) (unC (pcX ps j))) ∧ wr.ownsRow w.heap.size 39 18 v i (vs.flatMap Array.toList)
/-- The inlines so far, in a row of the call's own. -/
def OwW (w : World) (l : List InT) (v : Value) (wr : World) : Prop := ∃ vs : List (Array Value), RepIs w (fun g => g < w.heap.size) vs l ∧ wr.ownsRow w.heap.size 37 10 v l.length (vs.flatMap Array.toList)
section
variable {w wr W : World} {ps : List PcT} {i : Nat} {v v' : Value} {l : List InT}
theorem OwO.below (h : OwO w ps i v wr) (hb : Below wr.heap.size wr W) : OwO w ps i v W := by
  obtain ⟨vs, h1, h2, h3⟩ := h
  exact ⟨vs, h1, h2, own_below h3 hb⟩
theorem OwW.below (h : OwW w l v wr) (hb : Below wr.heap.size wr W) : OwW w l v W := by
  obtain ⟨vs, h1, h2⟩ := h
  exact ⟨vs, h1, own_below h2 hb⟩
theorem OwO.kept (h : OwO w ps i v wr) (h' : OwW w l v' wr) (hg : wr.grownBy W v'.ownBlock) : OwO w ps i v W := by
  obtain ⟨vs, h1, h2, h3⟩ := h
  obtain ⟨us, g1, g2⟩ := h'
  exact ⟨vs, h1, h2, h3.kept hg (own_apart h3 g2 (by decide))⟩
theorem OwW.kept (h : OwW w l v' wr) (h' : OwO w ps i v wr) (hg : wr.grownBy W v.ownBlock) : OwW w l v' W := by
  obtain ⟨us, g1, g2⟩ := h
  obtain ⟨vs, h1, h2, h3⟩ := h'
  exact ⟨us, g1, g2.kept hg (own_apart g2 h3 (by decide))⟩
end
end Go.Proofs.Ytfnloonmeilhlaa
namespace Go.Pub
open Go.RowKit
theorem futR_snoc (ps : List PcT) : ∀ (m k : Nat), futR ps k (m + 1) = futR ps k m ++ refE (pcX ps (k + m)) (k + m)
  | 0, k => by show refE _ _ ++ [] = [] ++ _; simp
  | m + 1, k => by
    show refE (pcX ps k) k ++ futR ps (k + 1) (m + 1) = (refE (pcX ps k) k ++ futR ps (k + 1) m) ++ _
    rw [futR_snoc ps m (k + 1), List.append_assoc, show k + 1 + m = k + (m + 1) by omega]
theorem futR_len (ps : List PcT) : ∀ (m k : Nat), (futR ps k m).length ≤ m
  | 0, _ => Nat.le_refl _
  | m + 1, k => by
    have := futR_len ps m (k + 1)
    show (refE (pcX ps k) k ++ futR ps (k + 1) m).length ≤ _
    have h2 : (refE (pcX ps k) k).length ≤ 1 := by unfold refE; split <;> (try split) <;> simp
    rw [List.length_append]; omega
theorem reX_left {s : List RE} {e : RE} {j : Nat} (h : j < s.length) : reX (s ++ [e]) j = reX s j := by
  unfold reX
  rw [List.getD_eq_getElem?_getD, List.getElem?_append_left h, ← List.getD_eq_getElem?_getD]
theorem reX_last {s : List RE} {e : RE} : reX (s ++ [e]) s.length = e := reX_at
end Go.Pub
namespace Go.Proofs.Ytfnloonmeilhlaa
open Go.RowKit Go.Pub
theorem el_info : (Try.prog.info? 96).map (fun i => (i.zero, i.size, i.bytes)) = some (some (.agg #[.int .i64 0, .int .i64 0, .int .i64 0, .string ⟨#[]⟩, .string ⟨#[]⟩, .string ⟨#[]⟩, .string ⟨#[]⟩, .slice none 0 0, .slice none 0 0, .slice none 0 0, .slice none 0 0, .slice none 0 0]), 12, 208) := by kernel_rfl
theorem el_fill1 (y0 y1 y2 y3 y4 y5 y6 y7 y8 y9 y10 y11 : Value) : Instr.fill (fun i => some (i * 12, 12)) ((Array.range (1 * 12)).map ((Value.agg #[.int .i64 0, .int .i64 0, .int .i64 0, .string ⟨#[]⟩, .string ⟨#[]⟩, .string ⟨#[]⟩, .string ⟨#[]⟩, .slice none 0 0, .slice none 0 0, .slice none 0 0, .slice none 0 0, .slice none 0 0]).cells[· % (Value.agg #[.int .i64 0, .int .i64 0, .int .i64 0, .string ⟨#[]⟩, .string ⟨#[]⟩, .string ⟨#[]⟩, .string ⟨#[]⟩, .slice none 0 0, .slice none 0 0, .slice none 0 0, .slice none 0 0, .slice none 0 0]).cells.size]!)) [(0, .agg #[y0, y1, y2, y3, y4, y5, y6, y7, y8, y9, y10, y11])] = some #[y0, y1, y2, y3, y4, y5, y6, y7, y8, y9, y10, y11] := by kernel_rfl
theorem wpList_elSl {ops : Array Oper} {rest : List Oper} {o : Oper} {a : Act} {w : World} {Q : Exit → Act → World → Prop} (hg : o.guard = none) (x : Operand) (ho : o.op = .buildSlice 59 1 #[(0, x)]) (y0 y1 y2 y3 y4 y5 y6 y7 y8 y9 y10 y11 : Value) (hx : a.eval x = .agg #[y0, y1, y2, y3, y4, y5, y6, y7, y8, y9, y10, y11])
    (h : wpList Try.prog ops Q rest (a.put o.dst (.slice (some ⟨w.heap.size, 0, none⟩) 1 1)) (w.alloc (.cells #[y0, y1, y2, y3, y4, y5, y6, y7, y8, y9, y10, y11] 96))) : wpList Try.prog ops Q (o :: rest) a w := by
  obtain ⟨i0, hi0, hz0, hz1, hz2⟩ := info_parts el_info
  refine wpList_buildSlice hg 59 96 1 _ ho _ i0 _ Try.underlying59 hi0 hz0 (by rw [hz1]; decide) (by rw [hz1]; decide) ?_ h
  rw [hz1]
  have e : (#[((0 : Nat), x)].map fun (q : Nat × Operand) => (q.1, a.eval q.2)).toList = [(0, a.eval x)] := by simp
  rw [hx] at e
  show Instr.fill _ _ (#[((0 : Nat), x)].map fun (q : Nat × Operand) => (q.1, a.eval q.2)).toList = _
  rw [e]
  exact el_fill1 y0 y1 y2 y3 y4 y5 y6 y7 y8 y9 y10 y11
/-- The elements so far, in a row of the call's own. -/
def OwE (w : World) (S : Nat → Prop) (s : List RE) (v : Value) (wr : World) : Prop := ∃ vs : List (Array Value), vs.length = s.length ∧ (∀ j, j < s.length → RepEl w S (vs.getD j #[]) (reX s j)) ∧ wr.ownsRow w.heap.size 96 12 v s.length (vs.flatMap Array.toList)
section
variable {w wr W : World} {S : Nat → Prop} {s : List RE} {v : Value}
theorem OwE.below (h : OwE w S s v wr) (hb : Below wr.heap.size wr W) : OwE w S s v W := by
  obtain ⟨vs, h1, h2, h3⟩ := h
  exact ⟨vs, h1, h2, own_below h3 hb⟩
theorem OwE.snoc {vs : List (Array Value)} {e : RE} {r : Array Value} (h1 : vs.length = s.length) (h2 : ∀ j, j < s.length → RepEl w S (vs.getD j #[]) (reX s j)) (hr : RepI w S r e.inl) (h3 : W.ownsRow w.heap.size 96 12 v (s.length + 1) (vs.flatMap Array.toList ++ (elW r e).toList)) : OwE w S (s ++ [e]) v W := by
  refine ⟨vs ++ [elW r e], by simp [h1], fun j hj => ?_, ?_⟩
  · rw [List.getD_eq_getElem?_getD]
    rw [List.length_append] at hj
    rcases Nat.lt_or_ge j s.length with h | h
    · rw [List.getElem?_append_left (by omega), ← List.getD_eq_getElem?_getD, reX_left h]
      exact h2 j h
    · obtain rfl : j = s.length := by simp at hj; omega
      rw [List.getElem?_append_right (by omega), h1, Nat.sub_self, reX_last]
      exact ⟨r, hr, rfl⟩
  · rw [List.flatMap_append, List.flatMap_singleton, List.length_append]; exact h3
/-- The elements, read. -/
theorem OwE.els (h : OwE w (fun g => g < w.heap.size) s v wr) (hb : Below w.heap.size w wr) : ElsR wr (fun g => g < wr.heap.size) v s := by
  obtain ⟨vs, h1, h2, h3⟩ := h
  obtain ⟨A, c, e, -, -⟩ := own_form h3
  subst e
  exact ⟨A, c, vs, rfl, h1, fun j hj => (h2 j hj).keep (fun g hg => hb.block g hg) fun g hg => Nat.lt_of_lt_of_le hg hb.size, (ReadsS.of_own h3).keep (fun _ _ => rfl) fun g hg => hg.2⟩
end
set_option maxHeartbeats 8000000 in
set_option maxRecDepth 100000 in
theorem r10_state {L : Value} {ps : List PcT} (w : World) (hL : PcsR w (fun g => g < w.heap.size) L ps) (hln : ps.length ≤ 1000) : Calls Try.prog 40 #[L] w fun e w' => ∃ v, e = .returned v ∧ OwE w (fun g => g < w.heap.size) (futR ps 0 ps.length) v w' ∧ Below w.heap.size w w' := by
  obtain ⟨A0, c0, vs0, hL0, -⟩ := id hL
  subst hL0
  have HL := Lib.hid hL
  have HFL : Hid (∀ i, (futR ps 0 i).length ≤ i) := Lib.hid fun i => futR_len ps i 0
  have HFS : Hid (∀ i, futR ps 0 (i + 1) = futR ps 0 i ++ refE (pcX ps i) i) := Lib.hid fun i => by rw [futR_snoc, Nat.zero_add]
  have HRB : Hid (∀ p : PcT, runP p = runBit p.kind p.ch p.n) := Lib.hid fun _ => rfl
  have HR1 : Hid (∀ p : PcT, runP p = true → 1 ≤ p.n ∧ p.kind = 1 ∧ p.ch.size = 1) := Lib.hid fun p h => by obtain ⟨a, b, -⟩ := runP_spec h; exact ⟨b, a, runP_size h⟩
  obtain ⟨i0, hi0, hz0, hz1, hz2⟩ := info_parts el_info
  have H0 : Hid (OwE w (fun g => g < w.heap.size) (futR ps 0 0) (.slice none 0 0) w) := Lib.hid ⟨[], rfl, fun j hj => absurd hj (Nat.not_lt_zero _), World.ownsRow_nil _ _ _ _⟩
  have HB0 : Hid (Below w.heap.size w w) := Lib.hid (Below.refl _ w)
  clear hL
  go_enter Try.func40, Try.ntmps40
  go_wp2_with fail
  go_loopw [3, 4] (fun v3 v4 wr => ∃ i : Nat, i ≤ ps.length ∧ v4 = .int .i64 i ∧ Hid (OwE w (fun g => g < w.heap.size) (futR ps 0 i) v3 wr) ∧ Hid (Below w.heap.size w wr)) (fun _ v4 _ => ps.length - (intOf v4).toNat)
  case atStart => exact ⟨0, Nat.zero_le _, rfl, H0, HB0⟩
  case round =>
    clear H0 HB0
    obtain ⟨i, hi, rfl, HO, HBw⟩ := hrel
    obtain ⟨vsO, o1, o2, o3⟩ := HO.out
    obtain ⟨AO, cO, hvO, -, -⟩ := own_form o3
    subst hvO
    have hwl := HFL.out i
    have HSZ := HBw.out.size
    by_cases hlt : i < ps.length
    · have hLr : PcsR wr (fun g => g < w.heap.size) (.slice A0 ps.length c0) ps := HL.out.keep (fun g hg => HBw.out.block g hg) fun _ h => h
      obtain ⟨b, off, c, e, hb, hat⟩ := hLr.opn (by omega)
      obtain ⟨x0, x1, x2, x3, x4, x5, x6, x7, x8, x9, hr, hrg, hone⟩ := hat i hlt
      injection e with e1 e2 e3
      subst e1
      subst e3
      have hii : (i : Int) < (ps.length : Int) := by omega
      have hi00 : (0 : Int) ≤ (i : Int) := by omega
      have HWN := Lib.hid (HFS.out i)
      have HRR := Lib.hid (HRB.out (pcX ps i))
      have HRS := Lib.hid (HR1.out (pcX ps i))
      have HRW : Hid (RepI w (fun g => g < w.heap.size) #[x0, x1, x2, x3, x4, x5, x6, x7, x8, x9] (pcX ps i).inl) := Lib.hid (hr.keep (fun g hg => (HBw.out.block g hg).symm) fun _ h => h)
      have HIN1 := Lib.hid hr.one
      have HRG := Lib.hid hrg
      have HO2 := Lib.hid o2
      have HO3 := Lib.hid o3
      clear hLr hat hrg hone hr o2 o3
      generalize hfu : futR ps 0 i = fu at *
      clear hfu
      generalize pcX ps i = Q at *
      obtain ⟨kd, il, ch, n, op, cl, im, bg, nd⟩ := Q
      dsimp only at *
      have HRG0 : Hid (wr.rangeAt b (off + i * 18) [.int .i64 kd, x0, x1, x2, x3, x4, x5, x6, x7, x8, x9, .string ch, .int .i64 n, .bool op, .bool cl, .bool im, .int .i64 bg, .int .i64 nd]) := HRG
      have HV := Lib.hid (r10_run kd n x0 x1 x2 x3 x4 x5 x6 x7 x8 x9 ch op cl im bg nd wr)
      have HKP : Hid (∀ W, Below wr.heap.size wr W → W.rangeAt b (off + i * 18) [.int .i64 kd, x0, x1, x2, x3, x4, x5, x6, x7, x8, x9, .string ch, .int .i64 n, .bool op, .bool cl, .bool im, .int .i64 bg, .int .i64 nd]) := Lib.hid fun W hW j u hj => (hW.cell (p := ⟨b, off + i * 18 + j, none⟩) (Nat.lt_of_lt_of_le hb HSZ)).trans (HRG0.out j u hj)
      clear HRG
      go_wp2_with (refine wpList_load_mid rfl 39 (.tmp 13) rfl b (off + i * 18) rfl _ _ HRG0.out Try.underlying39 rfl pc18 ?_)
      ((with_reducible refine HV.out.mono ?_))
      rintro e W1 ⟨rfl, b1⟩
      have HB1 := Lib.hid (HBw.out.trans (b1.mono HSZ))
      have HG1 := Lib.hid (HKP.out W1 b1)
      have k0 : W1.cell? ⟨b, off + i * 18, none⟩ = some (.int .i64 kd) := HG1.out 0 _ rfl
      have k12 : W1.cell? ⟨b, off + i * 18 + 12, none⟩ = some (.int .i64 n) := HG1.out 12 _ rfl
      have HOW1 := Lib.hid (own_below HO3.out b1)
      clear b1 HV HKP HRG0 HO3
      have hsz1 := HB1.out.size
      cases hrb : runBit kd ch n with
      | true =>
        have hnr : runP ⟨kd, il, ch, n, op, cl, im, bg, nd⟩ = true := by rw [HRR.out]; exact hrb
        have hn1 := (HRS.out hnr).1
        have HEQ : Hid (futR ps 0 (i + 1) = fu ++ [⟨some i, n.toNat, zeroT⟩]) := Lib.hid (by rw [HWN.out]; unfold refE; rw [if_pos hnr])
        clear hnr hrb
        have hA1 : Below W1.heap.size W1 (W1.alloc (.cells #[.int .i64 i, .int .i64 n, .int .i64 0, .string ⟨#[]⟩, .string ⟨#[]⟩, .string ⟨#[]⟩, .string ⟨#[]⟩, .slice none 0 0, .slice none 0 0, .slice none 0 0, .slice none 0 0, .slice none 0 0] 96)) := (Below.refl _ W1).alloc (Nat.le_refl _) _
        have HOW := Lib.hid (own_below HOW1.out hA1)
        have HP : Hid (∀ (W7 : World) (g7 cap7 : Nat), W7.ownsRow w.heap.size 96 12 (.slice (some ⟨g7, 0, none⟩) (fu.length + 1) cap7) (fu.length + 1) (vsO.flatMap Array.toList ++ [.int .i64 i, .int .i64 n, .int .i64 0, .string ⟨#[]⟩, .string ⟨#[]⟩, .string ⟨#[]⟩, .string ⟨#[]⟩, .slice none 0 0, .slice none 0 0, .slice none 0 0, .slice none 0 0, .slice none 0 0]) → (W1.alloc (.cells #[.int .i64 i, .int .i64 n, .int .i64 0, .string ⟨#[]⟩, .string ⟨#[]⟩, .string ⟨#[]⟩, .string ⟨#[]⟩, .slice none 0 0, .slice none 0 0, .slice none 0 0, .slice none 0 0, .slice none 0 0] 96)).grownBy W7 (Value.slice AO fu.length cO).ownBlock →
            OwE w (fun g => g < w.heap.size) (futR ps 0 (i + 1)) (.slice (some ⟨g7, 0, none⟩) (fu.length + 1) cap7) W7 ∧ Below w.heap.size w W7) := Lib.hid fun W7 g7 cap7 h8 hg8 => by
          refine ⟨?_, (HB1.out.trans (hA1.mono HB1.out.size)).grown hg8 (Nat.le_trans HB1.out.size hA1.size) fun k hk => (HOW1.out.lt k hk).1⟩
          rw [HEQ.out]
          exact OwE.snoc o1 HO2.out (r := #[.int .i64 0, .string ⟨#[]⟩, .string ⟨#[]⟩, .string ⟨#[]⟩, .string ⟨#[]⟩, .slice none 0 0, .slice none 0 0, .slice none 0 0, .slice none 0 0, .slice none 0 0]) (e := ⟨some i, n.toNat, zeroT⟩) (RepI.txt w _ 0 ⟨#[]⟩) (by have h9 := h8; rw [show n = ((n.toNat : Nat) : Int) from (Int.toNat_of_nonneg (by omega)).symm] at h9; exact h9)
        have HC1 : Hid (∀ u ∈ ([Value.int .i64 i, Value.int .i64 n, .int .i64 0, .string ⟨#[]⟩, .string ⟨#[]⟩, .string ⟨#[]⟩, .string ⟨#[]⟩, .slice none 0 0, .slice none 0 0, .slice none 0 0, .slice none 0 0, .slice none 0 0] : List Value), u.oneCell' = true) := Lib.hid fun u hu => by
          simp only [List.mem_cons, List.not_mem_nil, or_false] at hu
          rcases hu with rfl | rfl | rfl | rfl | rfl | rfl | rfl | rfl | rfl | rfl | rfl | rfl <;> rfl
        clear hA1 HOW1 HO2
        go_wp2_with (first | (refine wpList_elSl rfl (.tmp 23) rfl (.int .i64 i) (.int .i64 n) (.int .i64 0) (.string ⟨#[]⟩) (.string ⟨#[]⟩) (.string ⟨#[]⟩) (.string ⟨#[]⟩) (.slice none 0 0) (.slice none 0 0) (.slice none 0 0) (.slice none 0 0) (.slice none 0 0) rfl ?_) | (at_builtin; refine wpList_append_lies _ rfl _ _ 59 rfl w.heap.size 96 i0 _ 12 208 Try.underlying59 hi0 hz0 hz1 hz2 rfl (by decide) _ _ _ rfl HOW.out ⟨W1.heap.size, 0, none⟩ 1 1 [.int .i64 i, .int .i64 n, .int .i64 0, .string ⟨#[]⟩, .string ⟨#[]⟩, .string ⟨#[]⟩, .string ⟨#[]⟩, .slice none 0 0, .slice none 0 0, .slice none 0 0, .slice none 0 0, .slice none 0 0] rfl rfl ?e1 ?e2 (by decide) ?e3 ?e4 ?e5 (W1.heap.size + 1) ?e6 ?_))
        try case e1 => exact World.news_of_block (t := 96) (fr := (0, 0)) (heap_alloc_new W1 _)
        try case e2 => simpa using HC1.out
        try case e3 => unfold maxLen; omega
        try case e4 => omega
        try case e5 => simp; omega
        try case e6 => simp
        intro gA capA WA hown hgrow hlies hltA
        obtain ⟨p1, p2⟩ := HP.out WA gA capA hown hgrow
        have HOA := Lib.hid p1
        have HBA := Lib.hid p2
        clear hown hgrow hlies hltA p1 p2 HP HOW
        go_wp2_with fail
        go_roundw
        case rel => exact ⟨i + 1, by omega, by go_num, HOA, HBA⟩
        case measure => simp [intOf]; omega
      | false =>
        have hnr : runP ⟨kd, il, ch, n, op, cl, im, bg, nd⟩ = false := by rw [HRR.out]; exact hrb
        by_cases hkd : kd = 0
        · have HEQ : Hid (futR ps 0 (i + 1) = fu ++ [⟨none, 0, il⟩]) := Lib.hid (by rw [HWN.out]; unfold refE; rw [if_neg (by rw [hnr]; decide), if_pos hkd])
          have HG7 : Hid (W1.rangeAt b (off + i * 18 + 1) [x0, x1, x2, x3, x4, x5, x6, x7, x8, x9]) := Lib.hid fun j u hj => by
            have hj10 := (List.getElem?_eq_some_iff.1 hj).1
            simp only [List.length_cons, List.length_nil] at hj10
            rw [Nat.add_assoc]
            refine HG1.out (1 + j) u ?_
            rw [← hj, Nat.add_comm 1 j]
            match j, hj10 with
            | 0, _ => rfl
            | 1, _ => rfl
            | 2, _ => rfl
            | 3, _ => rfl
            | 4, _ => rfl
            | 5, _ => rfl
            | 6, _ => rfl
            | 7, _ => rfl
            | 8, _ => rfl
            | 9, _ => rfl
          clear hnr hrb
          subst hkd
          have hA1 : Below W1.heap.size W1 (W1.alloc (.cells #[.int .i64 (-1), .int .i64 0, x0, x1, x2, x3, x4, x5, x6, x7, x8, x9] 96)) := (Below.refl _ W1).alloc (Nat.le_refl _) _
          have HOW := Lib.hid (own_below HOW1.out hA1)
          have HP : Hid (∀ (W7 : World) (g7 cap7 : Nat), W7.ownsRow w.heap.size 96 12 (.slice (some ⟨g7, 0, none⟩) (fu.length + 1) cap7) (fu.length + 1) (vsO.flatMap Array.toList ++ [.int .i64 (-1), .int .i64 0, x0, x1, x2, x3, x4, x5, x6, x7, x8, x9]) → (W1.alloc (.cells #[.int .i64 (-1), .int .i64 0, x0, x1, x2, x3, x4, x5, x6, x7, x8, x9] 96)).grownBy W7 (Value.slice AO fu.length cO).ownBlock →
              OwE w (fun g => g < w.heap.size) (futR ps 0 (i + 1)) (.slice (some ⟨g7, 0, none⟩) (fu.length + 1) cap7) W7 ∧ Below w.heap.size w W7) := Lib.hid fun W7 g7 cap7 h8 hg8 => by
            refine ⟨?_, (HB1.out.trans (hA1.mono HB1.out.size)).grown hg8 (Nat.le_trans HB1.out.size hA1.size) fun k hk => (HOW1.out.lt k hk).1⟩
            rw [HEQ.out]
            exact OwE.snoc o1 HO2.out (r := #[x0, x1, x2, x3, x4, x5, x6, x7, x8, x9]) (e := ⟨none, 0, il⟩) HRW.out (by exact h8)
          have HC1 : Hid (∀ u ∈ ([Value.int .i64 (-1), .int .i64 0, x0, x1, x2, x3, x4, x5, x6, x7, x8, x9] : List Value), u.oneCell' = true) := Lib.hid fun u hu => by
            rcases List.mem_cons.1 hu with rfl | hu
            · rfl
            · rcases List.mem_cons.1 hu with rfl | hu
              · rfl
              · exact HIN1.out u hu
          clear hA1 HOW1 HO2
          go_wp2_with (first | (refine wpList_load_mid rfl 37 (.tmp 36) rfl b (off + i * 18 + 1) rfl _ _ HG7.out Try.underlying37 rfl inl_size ?_) | (refine wpList_elSl rfl (.tmp 38) rfl (.int .i64 (-1)) (.int .i64 0) x0 x1 x2 x3 x4 x5 x6 x7 x8 x9 rfl ?_) | (at_builtin; refine wpList_append_lies _ rfl _ _ 59 rfl w.heap.size 96 i0 _ 12 208 Try.underlying59 hi0 hz0 hz1 hz2 rfl (by decide) _ _ _ rfl HOW.out ⟨W1.heap.size, 0, none⟩ 1 1 [.int .i64 (-1), .int .i64 0, x0, x1, x2, x3, x4, x5, x6, x7, x8, x9] rfl rfl ?e1 ?e2 (by decide) ?e3 ?e4 ?e5 (W1.heap.size + 1) ?e6 ?_))
          try case e1 => exact World.news_of_block (t := 96) (fr := (0, 0)) (heap_alloc_new W1 _)
          try case e2 => simpa using HC1.out
          try case e3 => unfold maxLen; omega
          try case e4 => omega
          try case e5 => simp; omega
          try case e6 => simp
          intro gA capA WA hown hgrow hlies hltA
          obtain ⟨p1, p2⟩ := HP.out WA gA capA hown hgrow
          have HOA := Lib.hid p1
          have HBA := Lib.hid p2
          clear hown hgrow hlies hltA p1 p2 HP HOW
          go_wp2_with fail
          go_roundw
          case rel => exact ⟨i + 1, by omega, by go_num, HOA, HBA⟩
          case measure => simp [intOf]; omega
        · have dk : (kd == 0) = false := beq_eq_false_iff_ne.2 hkd
          have HEQ : Hid (futR ps 0 (i + 1) = fu) := Lib.hid (by rw [HWN.out]; unfold refE; rw [if_neg (by rw [hnr]; decide), if_neg hkd, List.append_nil])
          have HO1 : Hid (OwE w (fun g => g < w.heap.size) (futR ps 0 (i + 1)) (.slice AO fu.length cO) W1) := Lib.hid (by rw [HEQ.out]; exact ⟨vsO, o1, HO2.out, HOW1.out⟩)
          clear hnr hrb hkd HOW1 HO2
          go_wp2_with fail
          go_roundw
          case rel => exact ⟨i + 1, by omega, by go_num, HO1, HB1⟩
          case measure => simp [intOf]; omega
    · obtain rfl : i = ps.length := by omega
      clear o2 o3
      go_wp2_with fail
      go_ret
      exact ⟨_, rfl, HO.out, HBw.out⟩

end Go.Proofs.Ytfnloonmeilhlaa
namespace Go.Pub
open Go.RowKit
theorem toR_some {ps : List PcT} {e : RE} {a : Nat} (h : e.pos = some a) : toR ps e = txtT 1 (bsT (repB (pcX ps a).ch e.left)) := by
  unfold toR; rw [h]; rfl
theorem toR_none {ps : List PcT} {e : RE} (h : e.pos = none) : toR ps e = e.inl := by
  unfold toR; rw [h]
theorem take_mapR (ps : List PcT) (s : List RE) (i : Nat) (h : i < s.length) : (s.take (i + 1)).map (toR ps) = (s.take i).map (toR ps) ++ [toR ps (reX s i)] := by
  rw [List.take_add_one, List.getElem?_eq_getElem h, List.map_append]
  unfold reX
  rw [List.getD_eq_getElem?_getD, List.getElem?_eq_getElem h]; rfl
end Go.Pub
namespace Go.Proofs.Ytfnloonmeilhlaa
open Go.RowKit Go.Pub
/-- The inlines so far, in a row of the call's own. -/
def OwI (w : World) (S : Nat → Prop) (l : List InT) (v : Value) (wr : World) : Prop := ∃ vs : List (Array Value), RepIs w S vs l ∧ wr.ownsRow w.heap.size 37 10 v l.length (vs.flatMap Array.toList)
def WrP (S : Nat → Prop) (l : List InT) (w : World) (e : Ending) (w' : World) : Prop :=
  ∃ A c vs, e = .returned (.slice A l.length c) ∧ RepIs w' (fun g => S g ∨ NewG w w' g) vs l ∧ ReadsS w' (NewG w w') 10 A l.length (vs.flatMap Array.toList) ∧ Below w.heap.size w w'
set_option maxHeartbeats 8000000 in
set_option maxRecDepth 100000 in
theorem r10_written {L sv : Value} {ps : List PcT} {s : List RE} {S : Nat → Prop} (w : World) (hS : ∀ g, S g → g < w.heap.size) (hL : PcsR w S L ps) (hE : ElsR w S sv s) (hps : ∀ e ∈ s, ∀ a, e.pos = some a → a < ps.length ∧ runP (pcX ps a) = true) (hlf : ∀ e ∈ s, e.left ≤ 10000) (hln : s.length ≤ 100000) (hsz : sizeL (s.map (toR ps)) ≤ 1000000) : Calls Try.prog 28 #[L, sv] w (WrP S (wrR ps s) w) := by
  have HMG := Lib.hid (rmerge_all 1000000 (Nat.le_refl _) (s.map (toR ps)) hsz)
  have HWE : Hid (mergeL (s.map (toR ps)) = wrR ps s) := Lib.hid rfl
  generalize wrR ps s = RR at *
  obtain ⟨A0, c0, vs0, hL0, hvl0, -, hm0⟩ := id hL
  subst hL0
  have hpl := hm0.1.2
  obtain ⟨A1, c1, vs1, hE0, hvl1, -, hm1⟩ := id hE
  subst hE0
  unfold maxLen at hpl
  clear hm0 hm1 hvl0 hvl1
  have HL := Lib.hid hL
  have HE := Lib.hid hE
  have HSS := Lib.hid hS
  have HX : Hid (∀ i, i < s.length → (∀ a, (reX s i).pos = some a → a < ps.length ∧ runP (pcX ps a) = true) ∧ (reX s i).left ≤ 10000) := Lib.hid fun i hi => by
    have hm : reX s i ∈ s := by
      unfold reX; rw [List.getD_eq_getElem?_getD, List.getElem?_eq_getElem hi]; exact List.getElem_mem hi
    exact ⟨hps _ hm, hlf _ hm⟩
  have HTK : Hid (∀ i, i < s.length → (s.take (i + 1)).map (toR ps) = (s.take i).map (toR ps) ++ [toR ps (reX s i)]) := Lib.hid fun i hi => take_mapR ps s i hi
  have HLN : Hid (∀ i, i ≤ s.length → ((s.take i).map (toR ps)).length = i) := Lib.hid fun i hi => by rw [List.length_map, List.length_take]; omega
  have HEND : Hid ((s.take s.length).map (toR ps) = s.map (toR ps)) := Lib.hid (by rw [List.take_length])
  obtain ⟨i0, hi0, hz0, hz1, hz2⟩ := info_parts inl_info
  have H0 : Hid (OwI w S ((s.take 0).map (toR ps)) (.slice none 0 0) w) := Lib.hid ⟨[], .nil, World.ownsRow_nil _ _ _ _⟩
  have HB0 : Hid (Below w.heap.size w w) := Lib.hid (Below.refl _ w)
  clear hL hE hS hps hlf hsz
  go_enter Try.func28, Try.ntmps28
  go_wp2_with fail
  go_loopw [5, 6] (fun v5 v6 wr => ∃ i : Nat, i ≤ s.length ∧ v6 = .int .i64 i ∧ Hid (OwI w S ((s.take i).map (toR ps)) v5 wr) ∧ Hid (Below w.heap.size w wr)) (fun _ v6 _ => s.length - (intOf v6).toNat)
  case atStart => exact ⟨0, Nat.zero_le _, rfl, H0, HB0⟩
  case round =>
    clear H0 HB0
    obtain ⟨i, hi, rfl, HO, HBw⟩ := hrel
    obtain ⟨vsO, o2, o3⟩ := HO.out
    obtain ⟨AO, cO, hvO, -, -⟩ := own_form o3
    subst hvO
    have hwl : ((s.take i).map (toR ps)).length ≤ 100000 := by rw [HLN.out i hi]; omega
    have HSZ := HBw.out.size
    by_cases hlt : i < s.length
    · have hLr : ElsR wr S (.slice A1 s.length c1) s := HE.out.keep (fun g hg => HBw.out.block g (HSS.out g hg)) fun _ h => h
      obtain ⟨b, off, c, e, hb, hat⟩ := hLr.opn (by omega)
      obtain ⟨x0, x1, x2, x3, x4, x5, x6, x7, x8, x9, hr, hrg, hone⟩ := hat i hlt
      have hb := HSS.out b hb
      injection e with e1 e2 e3
      subst e1
      subst e3
      have hii : (i : Int) < (s.length : Int) := by omega
      have hi00 : (0 : Int) ≤ (i : Int) := by omega
      have HWN := Lib.hid (HTK.out i hlt)
      obtain ⟨hx1, hx2⟩ := HX.out i hlt
      have HRW : Hid (RepI w S #[x0, x1, x2, x3, x4, x5, x6, x7, x8, x9] (reX s i).inl) := Lib.hid (hr.keep (fun g hg => (HBw.out.block g (HSS.out g hg)).symm) fun _ h => h)
      have HIN1 := Lib.hid hr.one
      have HRG := Lib.hid hrg
      have HO2 := Lib.hid o2
      have HO3 := Lib.hid o3
      clear hLr hat hrg hone hr o2 o3
      generalize hfu : (s.take i).map (toR ps) = fu at *
      clear hfu
      have HG7 : Hid (wr.rangeAt b (off + i * 12 + 2) [x0, x1, x2, x3, x4, x5, x6, x7, x8, x9]) := Lib.hid fun j u hj => by
        have hj10 := (List.getElem?_eq_some_iff.1 hj).1
        simp only [List.length_cons, List.length_nil] at hj10
        rw [Nat.add_assoc]
        refine HRG.out (2 + j) u ?_
        rw [← hj, Nat.add_comm 2 j]
        match j, hj10 with
        | 0, _ => rfl
        | 1, _ => rfl
        | 2, _ => rfl
        | 3, _ => rfl
        | 4, _ => rfl
        | 5, _ => rfl
        | 6, _ => rfl
        | 7, _ => rfl
        | 8, _ => rfl
        | 9, _ => rfl
      have k0 : wr.cell? ⟨b, off + i * 12, none⟩ = some (.int .i64 (posI (reX s i))) := HRG.out 0 _ rfl
      have k1 : wr.cell? ⟨b, off + i * 12 + 1, none⟩ = some (.int .i64 ((reX s i).left : Nat)) := HRG.out 1 _ rfl
      have hone' : (#[x0, x1, x2, x3, x4, x5, x6, x7, x8, x9]).all (·.oneCell') = true := by
        rw [← Array.all_toList, List.all_eq_true]
        exact HIN1.out
      cases hp : (reX s i).pos with
      | none =>
        have hpo : posI (reX s i) = -1 := by unfold posI; rw [hp]
        rw [hpo] at k0
        have HEQ : Hid ((s.take (i + 1)).map (toR ps) = fu ++ [(reX s i).inl]) := Lib.hid (by rw [HWN.out, toR_none hp])
        have HB1 : Hid (Below wr.heap.size wr (wr.alloc (.cells #[x0, x1, x2, x3, x4, x5, x6, x7, x8, x9] 37))) := Lib.hid ((Below.refl _ wr).alloc (Nat.le_refl _) _)
        have HK1 : Hid (Blk (wr.alloc (.cells #[x0, x1, x2, x3, x4, x5, x6, x7, x8, x9] 37)) wr.heap.size 37 #[x0, x1, x2, x3, x4, x5, x6, x7, x8, x9]) := Lib.hid (Blk.new wr _ _)
        have k01 : (wr.alloc (.cells #[x0, x1, x2, x3, x4, x5, x6, x7, x8, x9] 37)).cell? ⟨b, off + i * 12, none⟩ = some (.int .i64 (-1)) := (HB1.out.cell (p := ⟨b, off + i * 12, none⟩) (Nat.lt_of_lt_of_le hb HSZ)).trans k0
        have hz1' : (wr.alloc (.cells #[x0, x1, x2, x3, x4, x5, x6, x7, x8, x9] 37)).heap.size = wr.heap.size + 1 := by simp
        have hBB : ∀ o, Below wr.heap.size wr ((wr.alloc (.cells #[x0, x1, x2, x3, x4, x5, x6, x7, x8, x9] 37)).alloc o) := fun o => HB1.out.alloc HB1.out.size o
        have HOW := Lib.hid (own_below HO3.out (hBB (.cells #[x0, x1, x2, x3, x4, x5, x6, x7, x8, x9] 37)))
        have HP : Hid (∀ (W8 : World) (g8 cap8 : Nat), W8.ownsRow w.heap.size 37 10 (.slice (some ⟨g8, 0, none⟩) (fu.length + 1) cap8) (fu.length + 1) (vsO.flatMap Array.toList ++ [x0, x1, x2, x3, x4, x5, x6, x7, x8, x9]) → ((wr.alloc (.cells #[x0, x1, x2, x3, x4, x5, x6, x7, x8, x9] 37)).alloc (.cells #[x0, x1, x2, x3, x4, x5, x6, x7, x8, x9] 37)).grownBy W8 (Value.slice AO fu.length cO).ownBlock →
            OwI w S ((s.take (i + 1)).map (toR ps)) (.slice (some ⟨g8, 0, none⟩) (fu.length + 1) cap8) W8 ∧ Below w.heap.size w W8) := Lib.hid fun W8 g8 cap8 h8 hg8 => by
          refine ⟨⟨vsO ++ [#[x0, x1, x2, x3, x4, x5, x6, x7, x8, x9]], ?_, ?_⟩, (HBw.out.trans ((hBB _).mono HSZ)).grown hg8 (Nat.le_trans HSZ (hBB _).size) fun k hk => (HO3.out.lt k hk).1⟩
          · rw [HEQ.out]; exact HO2.out.snoc HRW.out
          · rw [HEQ.out, List.length_append, List.flatMap_append, List.flatMap_singleton]; exact h8
        clear hBB hpo hp
        generalize hW1 : (wr.alloc (.cells #[x0, x1, x2, x3, x4, x5, x6, x7, x8, x9] 37)) = W1 at *
        go_wp2_with (first | (refine wpList_load_mid rfl 37 (.tmp 18) rfl b (off + i * 12 + 2) rfl _ _ HG7.out Try.underlying37 rfl inl_size ?_) | (refine wpList_store_row rfl 37 (.tmp 7) (.tmp 19) rfl wr.heap.size #[x0, x1, x2, x3, x4, x5, x6, x7, x8, x9] rfl rfl 37 _ (Blk.new wr _ _) inl_size (by rfl) hone' ?_; rw [World.setRow_alloc_new]; rw [hW1]) | (refine wpList_load_row rfl 37 (.tmp 7) rfl wr.heap.size rfl 37 #[x0, x1, x2, x3, x4, x5, x6, x7, x8, x9] _ _ HK1.out Try.underlying37 rfl inl_size ?_) | (refine wpList_inSlice rfl (.tmp 50) rfl x0 x1 x2 x3 x4 x5 x6 x7 x8 x9 rfl ?_) | (at_builtin; refine wpList_append_lies _ rfl _ _ 26 rfl w.heap.size 37 i0 _ 10 192 Try.underlying26 hi0 hz0 hz1 hz2 rfl (by decide) _ _ _ rfl HOW.out ⟨W1.heap.size, 0, none⟩ 1 1 [x0, x1, x2, x3, x4, x5, x6, x7, x8, x9] rfl rfl ?e1 ?e2 (by decide) ?e3 ?e4 ?e5 (W1.heap.size + 1) ?e6 ?_))
        try case e1 => exact World.news_of_block (t := 37) (fr := (0, 0)) (heap_alloc_new W1 _)
        try case e2 => simpa [Value.oneCell'] using HIN1.out
        try case e3 => unfold maxLen; omega
        try case e4 => omega
        try case e5 => first | omega | (simp; omega)
        try case e6 => simp
        intro gA capA WA hown hgrow hlies hltA
        obtain ⟨p1, p2⟩ := HP.out WA gA capA hown hgrow
        have HOA := Lib.hid p1
        have HBA := Lib.hid p2
        clear hown hgrow hlies hltA p1 p2 HP HOW
        go_wp2_with fail
        go_roundw
        case rel => exact ⟨i + 1, by omega, by go_num, HOA, HBA⟩
        case measure => simp [intOf]; omega
      | some a =>
        have hpo : posI (reX s i) = (a : Nat) := by unfold posI; rw [hp]
        rw [hpo] at k0
        obtain ⟨ha, hra⟩ := hx1 a hp
        have HEQ0 : Hid ((s.take (i + 1)).map (toR ps) = fu ++ [txtT 1 (bsT (repB (pcX ps a).ch (reX s i).left))]) := Lib.hid (by rw [HWN.out, toR_some hp])
        have hcs := runP_size hra
        obtain ⟨b', off', c', e', hb', hat'⟩ := HL.out.opn (by omega)
        obtain ⟨y0, y1, y2, y3, y4, y5, y6, y7, y8, y9, -, hrg', -⟩ := hat' a ha
        have hb' := HSS.out b' hb'
        injection e' with e1 e2 e3
        subst e1
        subst e3
        have kc : w.cell? ⟨b', off' + a * 18 + 11, none⟩ = some (.string (pcX ps a).ch) := hrg' 11 _ rfl
        have HCS : Hid (∀ k, (repB (pcX ps a).ch k).length = k) := Lib.hid (repB_len hcs)
        clear hat' hrg'
        generalize (pcX ps a).ch = ch at *
        generalize (reX s i).left = lf at *
        have hap : (a : Int) < (ps.length : Int) := by omega
        have ha0 : (0 : Int) ≤ (a : Int) := by omega
        have hge : decide ((a : Int) ≥ 0) = true := decide_eq_true (by omega)
        have HB1 : Hid (Below wr.heap.size wr (wr.alloc (.cells #[.int .i64 1, .string (⟨#[]⟩), .string ⟨#[]⟩, .string ⟨#[]⟩, .string ⟨#[]⟩, .slice none 0 0, .slice none 0 0, .slice none 0 0, .slice none 0 0, .slice none 0 0] 37))) := Lib.hid ((Below.refl _ wr).alloc (Nat.le_refl _) _)
        have HK1 : Hid (Blk (wr.alloc (.cells #[.int .i64 1, .string (⟨#[]⟩), .string ⟨#[]⟩, .string ⟨#[]⟩, .string ⟨#[]⟩, .slice none 0 0, .slice none 0 0, .slice none 0 0, .slice none 0 0, .slice none 0 0] 37)) wr.heap.size 37 #[.int .i64 1, .string (bsT (repB ch 0)), .string ⟨#[]⟩, .string ⟨#[]⟩, .string ⟨#[]⟩, .slice none 0 0, .slice none 0 0, .slice none 0 0, .slice none 0 0, .slice none 0 0]) := Lib.hid (Blk.new wr _ _)
        have k01 : (wr.alloc (.cells #[x0, x1, x2, x3, x4, x5, x6, x7, x8, x9] 37)).cell? ⟨b, off + i * 12, none⟩ = some (.int .i64 (a : Nat)) := (((Below.refl _ wr).alloc (Nat.le_refl _) _).cell (p := ⟨b, off + i * 12, none⟩) (Nat.lt_of_lt_of_le hb HSZ)).trans k0
        have honeT : (#[Value.int .i64 1, .string (⟨#[]⟩), .string ⟨#[]⟩, .string ⟨#[]⟩, .string ⟨#[]⟩, .slice none 0 0, .slice none 0 0, .slice none 0 0, .slice none 0 0, .slice none 0 0]).all (·.oneCell') = true := by simp [Value.oneCell']
        have hb0 : (⟨#[]⟩ : ByteArray) = bsT (repB ch 0) := rfl
        clear hpo hp hra hx1
        go_wp2_with (first | (refine wpList_load_mid rfl 37 (.tmp 18) rfl b (off + i * 12 + 2) rfl _ _ HG7.out Try.underlying37 rfl inl_size ?_) | (refine wpList_store_row rfl 37 (.tmp 7) (.tmp 19) rfl wr.heap.size #[x0, x1, x2, x3, x4, x5, x6, x7, x8, x9] rfl rfl 37 _ (Blk.new wr _ _) inl_size (by rfl) hone' ?_; rw [World.setRow_alloc_new]) | (refine wpList_store_row rfl 37 (.tmp 7) (.tmp 26) rfl wr.heap.size #[.int .i64 1, .string (⟨#[]⟩), .string ⟨#[]⟩, .string ⟨#[]⟩, .string ⟨#[]⟩, .slice none 0 0, .slice none 0 0, .slice none 0 0, .slice none 0 0, .slice none 0 0] rfl rfl 37 _ (Blk.new wr _ _) inl_size (by rfl) honeT ?_; rw [World.setRow_alloc_new]; generalize (wr.alloc (.cells #[.int .i64 1, .string (⟨#[]⟩), .string ⟨#[]⟩, .string ⟨#[]⟩, .string ⟨#[]⟩, .slice none 0 0, .slice none 0 0, .slice none 0 0, .slice none 0 0, .slice none 0 0] 37)) = W2 at *))
        go_loopw [8] (fun v8 wq => ∃ k : Nat, k ≤ lf ∧ v8 = .int .i64 k ∧ Hid (Below wr.heap.size wr wq) ∧ Hid (Blk wq wr.heap.size 37 #[.int .i64 1, .string (bsT (repB ch k)), .string ⟨#[]⟩, .string ⟨#[]⟩, .string ⟨#[]⟩, .slice none 0 0, .slice none 0 0, .slice none 0 0, .slice none 0 0, .slice none 0 0])) (fun v8 _ => lf - (intOf v8).toNat)
        case atStart => exact ⟨0, Nat.zero_le _, rfl, HB1, HK1⟩
        case round =>
          clear hb0 HB1 HK1 k01
          obtain ⟨k, hk, rfl, HBq, HKq⟩ := hrel
          rename World => wq
          have j0 : wq.cell? ⟨b, off + i * 12, none⟩ = some (.int .i64 (a : Nat)) := (HBq.out.cell (p := ⟨b, off + i * 12, none⟩) (Nat.lt_of_lt_of_le hb HSZ)).trans k0
          have j1 : wq.cell? ⟨b, off + i * 12 + 1, none⟩ = some (.int .i64 (lf : Nat)) := (HBq.out.cell (p := ⟨b, off + i * 12 + 1, none⟩) (Nat.lt_of_lt_of_le hb HSZ)).trans k1
          have jc : wq.cell? ⟨b', off' + a * 18 + 11, none⟩ = some (.string ch) := (HBq.out.cell (p := ⟨b', off' + a * 18 + 11, none⟩) (Nat.lt_of_lt_of_le hb' HSZ)).trans ((HBw.out.cell (p := ⟨b', off' + a * 18 + 11, none⟩) hb').trans kc)
          have jt : wq.cell? ⟨wr.heap.size, 1, none⟩ = some (.string (bsT (repB ch k))) := HKq.out.cell 1
          have jf : wq.frozen? ⟨wr.heap.size, 1, none⟩ = false := HKq.out.frozen 1
          by_cases hkm : k < lf
          · have hkm' : (k : Int) < (lf : Int) := by omega
            have hrl := HCS.out k
            have hcat : ∀ W : World, (Op.stringOp .add (bsT (repB ch k)) ch).run Try.prog W = .ok (.string (bsT (repB ch k ++ ch.toList))) W := fun W => cat_s (P := Try.prog) W _ ch (by rw [hrl]; omega)
            have HPW : Hid (∀ W, W = (World.drew wq).setCell ⟨wr.heap.size, 1, none⟩ (.string (bsT (repB ch k ++ ch.toList))) → Below wr.heap.size wr W ∧ Blk W wr.heap.size 37 #[.int .i64 1, .string (bsT (repB ch (k + 1))), .string ⟨#[]⟩, .string ⟨#[]⟩, .string ⟨#[]⟩, .slice none 0 0, .slice none 0 0, .slice none 0 0, .slice none 0 0, .slice none 0 0]) := Lib.hid fun W hW => by
              subst hW
              refine ⟨HBq.out.drew.setCell (p := ⟨wr.heap.size, 1, none⟩) (Nat.le_refl _) _, ?_⟩
              rw [repB_snoc ch k]
              exact (HKq.out.drewN 1).set_ 1 _
            clear hrl
            go_wp2_with fail
            go_region
            all_goals
              go_wp2_with fail
              go_roundw
              case rel => exact ⟨k + 1, by omega, by go_num, Lib.hid (HPW.out _ rfl).1, Lib.hid (HPW.out _ rfl).2⟩
              case measure => simp [intOf]; omega
          · have hke : k = lf := by omega
            have hkm' : decide ((k : Int) < (lf : Int)) = false := decide_eq_false (by omega)
            subst hke
            have HEQ := HEQ0
            have HB1 := HBq
            have hBB : ∀ o, Below wr.heap.size wr (wq.alloc o) := fun o => HB1.out.alloc HB1.out.size o
            have HOW := Lib.hid (own_below HO3.out (hBB (.cells #[.int .i64 1, .string (bsT (repB ch k)), .string ⟨#[]⟩, .string ⟨#[]⟩, .string ⟨#[]⟩, .slice none 0 0, .slice none 0 0, .slice none 0 0, .slice none 0 0, .slice none 0 0] 37)))
            have HP : Hid (∀ (W8 : World) (g8 cap8 : Nat), W8.ownsRow w.heap.size 37 10 (.slice (some ⟨g8, 0, none⟩) (fu.length + 1) cap8) (fu.length + 1) (vsO.flatMap Array.toList ++ [.int .i64 1, .string (bsT (repB ch k)), .string ⟨#[]⟩, .string ⟨#[]⟩, .string ⟨#[]⟩, .slice none 0 0, .slice none 0 0, .slice none 0 0, .slice none 0 0, .slice none 0 0]) → (wq.alloc (.cells #[.int .i64 1, .string (bsT (repB ch k)), .string ⟨#[]⟩, .string ⟨#[]⟩, .string ⟨#[]⟩, .slice none 0 0, .slice none 0 0, .slice none 0 0, .slice none 0 0, .slice none 0 0] 37)).grownBy W8 (Value.slice AO fu.length cO).ownBlock →
                OwI w S ((s.take (i + 1)).map (toR ps)) (.slice (some ⟨g8, 0, none⟩) (fu.length + 1) cap8) W8 ∧ Below w.heap.size w W8) := Lib.hid fun W8 g8 cap8 h8 hg8 => by
              refine ⟨⟨vsO ++ [#[.int .i64 1, .string (bsT (repB ch k)), .string ⟨#[]⟩, .string ⟨#[]⟩, .string ⟨#[]⟩, .slice none 0 0, .slice none 0 0, .slice none 0 0, .slice none 0 0, .slice none 0 0]], ?_, ?_⟩, (HBw.out.trans ((hBB _).mono HSZ)).grown hg8 (Nat.le_trans HSZ (hBB _).size) fun k hk => (HO3.out.lt k hk).1⟩
              · rw [HEQ.out]; exact HO2.out.snoc (RepI.txt w _ 1 (bsT (repB ch k)))
              · rw [HEQ.out, List.length_append, List.flatMap_append, List.flatMap_singleton]; exact h8
            have hzq := HBq.out.size
            clear hBB
            go_wp2_with (first | (refine wpList_load_row rfl 37 (.tmp 7) rfl wr.heap.size rfl 37 #[.int .i64 1, .string (bsT (repB ch k)), .string ⟨#[]⟩, .string ⟨#[]⟩, .string ⟨#[]⟩, .slice none 0 0, .slice none 0 0, .slice none 0 0, .slice none 0 0, .slice none 0 0] _ _ HKq.out Try.underlying37 rfl inl_size ?_) | (refine wpList_inSlice rfl (.tmp 50) rfl (.int .i64 1) (.string (bsT (repB ch k))) (.string ⟨#[]⟩) (.string ⟨#[]⟩) (.string ⟨#[]⟩) (.slice none 0 0) (.slice none 0 0) (.slice none 0 0) (.slice none 0 0) (.slice none 0 0) rfl ?_) | (at_builtin; refine wpList_append_lies _ rfl _ _ 26 rfl w.heap.size 37 i0 _ 10 192 Try.underlying26 hi0 hz0 hz1 hz2 rfl (by decide) _ _ _ rfl HOW.out ⟨wq.heap.size, 0, none⟩ 1 1 [.int .i64 1, .string (bsT (repB ch k)), .string ⟨#[]⟩, .string ⟨#[]⟩, .string ⟨#[]⟩, .slice none 0 0, .slice none 0 0, .slice none 0 0, .slice none 0 0, .slice none 0 0] rfl rfl ?f1 ?f2 (by decide) ?f3 ?f4 ?f5 (wq.heap.size + 1) ?f6 ?_))
            try case f1 => exact World.news_of_block (t := 37) (fr := (0, 0)) (heap_alloc_new wq _)
            try case f2 => simp [Value.oneCell']
            try case f3 => unfold maxLen; omega
            try case f4 => omega
            try case f5 => first | omega | (simp; omega)
            try case f6 => simp
            intro gA capA WA hown hgrow hlies hltA
            obtain ⟨p1, p2⟩ := HP.out WA gA capA hown hgrow
            have HOA := Lib.hid p1
            have HBA := Lib.hid p2
            clear hown hgrow hlies hltA p1 p2 HP HOW
            go_wp2_with fail
            go_roundw
            case rel =>
              exact ⟨i + 1, by omega, by go_num, HOA, HBA⟩
            case measure => simp [intOf]; omega
    · obtain rfl : i = s.length := by omega
      have e0 := HEND.out
      obtain ⟨vsW, w1', w2'⟩ := HO.out
      rw [e0] at w1' w2'
      have hl2 : (s.map (toR ps)).length = s.length := List.length_map _
      have HCM : Hid (Calls Try.prog 18 #[.slice AO s.length cO] wr (RmgP (fun g => S g ∨ NewG w wr g) (s.map (toR ps)) wr)) := Lib.hid (by
        have h9 := HMG.out (fun g => S g ∨ NewG w wr g) wr AO cO vsW (w1'.keep (fun g hg => HBw.out.block g (HSS.out g hg)) fun g hg => .inl hg) ((ReadsS.of_own w2').keep (fun g hg => rfl) fun g hg => .inr hg) (fun g hg => by
          rcases hg with hg | hg
          · exact Nat.lt_of_lt_of_le (HSS.out g hg) HSZ
          · exact hg.2)
        rwa [hl2] at h9)
      obtain rfl := HWE.out
      clear w1' w2' e0 o2 o3
      go_wp2_with fail
      ((with_reducible refine HCM.out.mono ?_))
      rintro e wC ⟨AM, cM, vsM, rfl, hrM, ownM, bC⟩
      have HF : Hid (WrP S (mergeL (s.map (toR ps))) w (.returned (.slice AM (mergeL (s.map (toR ps))).length cM)) wC) := Lib.hid ⟨AM, cM, vsM, rfl, hrM.keep (fun _ _ => rfl) (fun g hg => by
        rcases hg with (hg | hg) | hg
        · exact .inl hg
        · exact .inr ⟨hg.1, Nat.lt_of_lt_of_le hg.2 bC.size⟩
        · exact .inr ⟨Nat.le_trans HSZ hg.1, hg.2⟩), (ReadsS.of_own ownM).keep (fun _ _ => rfl) (fun g hg => ⟨Nat.le_trans HSZ hg.1, hg.2⟩), HBw.out.trans (bC.mono HSZ)⟩
      clear hrM ownM bC
      go_wp2_with fail
      go_ret
      exact HF.out

end Go.Proofs.Ytfnloonmeilhlaa
