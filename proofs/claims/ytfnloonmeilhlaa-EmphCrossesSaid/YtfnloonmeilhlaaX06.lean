/-
  Texts of the proof, put together (what this law reaches): EmX, EmY, EmSA, EmVA, EmZ, EmMA, EmMB.
-/
import Derived.Test.YtfnloonmeilhlaaX05
import Derived.Laws.CopyOwn
import Derived.Test.YtfnloonmeilhlaaX04
import Derived.Test.YtfnloonmeilhlaaX02
set_option linter.unusedVariables false
set_option linter.unusedSimpArgs false
namespace Go.Proofs.Ytfnloonmeilhlaa
open Go.RowKit Go.Pub
def ClnP (z n : Nat) (xs : List Value) (w : World) (e : Ending) (w' : World) : Prop :=
  ∃ A c, e = .returned (.slice A n c) ∧ ReadsS w' (fun g => w.heap.size ≤ g ∧ g < w'.heap.size) z A n xs ∧ Below w.heap.size w w'
theorem str_info : (Try.prog.info? 9).map (fun i => (i.zero, i.size, i.bytes)) = some (some (.string ⟨#[]⟩), 1, 16) := by kernel_rfl
set_option maxHeartbeats 2000000 in
set_option maxRecDepth 100000 in
theorem clone_str {S : Nat → Prop} {A : Option Addr} {n c : Nat} {xs : List Value} (w : World) (h : ReadsS w S 1 A n xs) (h1 : ∀ u ∈ xs, u.oneCell' = true) (hn : n ≤ 1000000) : Calls Try.prog 51 #[.slice A n c] w (ClnP 1 n xs w) := by
  have q24 : ∀ (w : World) (a : Option Addr) (n c n' c' : Nat), (binOp .eql 31 (.slice a n c) (.slice none n' c')).run Try.prog w = .ok (.bool a.isNone) w := fun w a n c n' c' => Lib.run_eql_slice_nil w _ _ a n c n' c' Try.underlying31
  have u24 : ∀ w, Sem.run Try.prog (underlying 31) w = .ok (TypeDesc.slice 9) w := run_underlying Try.underlying31
  obtain ⟨i0, hi, hz0, hz1, hz2⟩ := info_parts str_info
  cases A with
  | none =>
    have h0 : n = 0 := by
      rcases Nat.eq_zero_or_pos n with h0 | h0
      · exact h0
      · obtain ⟨ad, e, _⟩ := h.2 h0; cases e
    subst h0
    have hx : xs = [] := List.length_eq_zero_iff.1 (by have := h.1.1; omega)
    subst hx
    clear h h1
    go_enter Try.func51, Try.ntmps51
    go_wp2
    go_ret
    exact ⟨none, 0, rfl, ReadsS.none_, Below.refl _ _⟩
  | some ad =>
    have HR := Lib.hid h
    have HO := Lib.hid h1
    clear h h1
    go_enter Try.func51, Try.ntmps51
    go_wp2_with (at_builtin; refine wpList_append_own _ rfl _ _ 31 rfl w.heap.size 9 i0 _ 1 16 Try.underlying31 hi hz0 hz1 hz2 rfl (by decide) _ _ _ rfl (World.ownsRow_made w #[] 0 (Nat.le_refl _) (Nat.zero_le _) rfl) ad n c xs rfl ?qc1 ?qc2 ?qc3 ?qc4 ?qc5 ?qc6 ?_)
    case qc1 => exact HR.out.1.1
    case qc2 =>
      intro j u hj
      refine Lib.cell?_alloc_some _ ?_
      have hjl := (List.getElem?_eq_some_iff.1 hj).1
      have hl := HR.out.1.1
      obtain ⟨ad', e, -, hc⟩ := HR.out.2 (Nat.pos_of_ne_zero fun h0 => by subst h0; omega)
      injection e with e
      subst e
      exact hc j u hj
    case qc3 => exact HO.out
    case qc4 => unfold maxLen; omega
    case qc5 => omega
    case qc6 => simp
    intro v' w1 hown hgrow hnil
    have hb : Below w.heap.size w w1 := ((Below.refl _ w).alloc (Nat.le_refl _) _).grown hgrow (by simp) (by intro k hk; simp [Value.ownBlock] at hk; omega)
    obtain ⟨A', c', hv, -, -⟩ := own_form hown
    subst hv
    have HF := Lib.hid (show ClnP 1 n xs w (.returned (.slice A' n c')) w1 from ⟨A', c', rfl, ReadsS.of_own hown, hb⟩)
    clear hb hown hgrow hnil
    go_wp2_with fail
    go_ret
    exact HF.out

theorem pair_info : (Try.prog.info? 71).map (fun i => (i.zero, i.size, i.bytes)) = some (some (.agg #[.string ⟨#[]⟩, .string ⟨#[]⟩]), 2, 32) := by kernel_rfl
set_option maxHeartbeats 2000000 in
set_option maxRecDepth 100000 in
theorem clone_pair {S : Nat → Prop} {A : Option Addr} {n c : Nat} {xs : List Value} (w : World) (h : ReadsS w S 2 A n xs) (h1 : ∀ u ∈ xs, u.oneCell' = true) (hn : n ≤ 1000000) : Calls Try.prog 61 #[.slice A n c] w (ClnP 2 n xs w) := by
  have q24 : ∀ (w : World) (a : Option Addr) (n c n' c' : Nat), (binOp .eql 32 (.slice a n c) (.slice none n' c')).run Try.prog w = .ok (.bool a.isNone) w := fun w a n c n' c' => Lib.run_eql_slice_nil w _ _ a n c n' c' Try.underlying32
  have u24 : ∀ w, Sem.run Try.prog (underlying 32) w = .ok (TypeDesc.slice 71) w := run_underlying Try.underlying32
  obtain ⟨i0, hi, hz0, hz1, hz2⟩ := info_parts pair_info
  cases A with
  | none =>
    have h0 : n = 0 := by
      rcases Nat.eq_zero_or_pos n with h0 | h0
      · exact h0
      · obtain ⟨ad, e, _⟩ := h.2 h0; cases e
    subst h0
    have hx : xs = [] := List.length_eq_zero_iff.1 (by have := h.1.1; omega)
    subst hx
    clear h h1
    go_enter Try.func61, Try.ntmps61
    go_wp2
    go_ret
    exact ⟨none, 0, rfl, ReadsS.none_, Below.refl _ _⟩
  | some ad =>
    have HR := Lib.hid h
    have HO := Lib.hid h1
    clear h h1
    go_enter Try.func61, Try.ntmps61
    go_wp2_with (at_builtin; refine wpList_append_own _ rfl _ _ 32 rfl w.heap.size 71 i0 _ 2 32 Try.underlying32 hi hz0 hz1 hz2 rfl (by decide) _ _ _ rfl (World.ownsRow_made w #[] 0 (Nat.le_refl _) (Nat.zero_le _) rfl) ad n c xs rfl ?qc1 ?qc2 ?qc3 ?qc4 ?qc5 ?qc6 ?_)
    case qc1 => exact HR.out.1.1
    case qc2 =>
      intro j u hj
      refine Lib.cell?_alloc_some _ ?_
      have hjl := (List.getElem?_eq_some_iff.1 hj).1
      have hl := HR.out.1.1
      obtain ⟨ad', e, -, hc⟩ := HR.out.2 (Nat.pos_of_ne_zero fun h0 => by subst h0; omega)
      injection e with e
      subst e
      exact hc j u hj
    case qc3 => exact HO.out
    case qc4 => unfold maxLen; omega
    case qc5 => omega
    case qc6 => simp
    intro v' w1 hown hgrow hnil
    have hb : Below w.heap.size w w1 := ((Below.refl _ w).alloc (Nat.le_refl _) _).grown hgrow (by simp) (by intro k hk; simp [Value.ownBlock] at hk; omega)
    obtain ⟨A', c', hv, -, -⟩ := own_form hown
    subst hv
    have HF := Lib.hid (show ClnP 2 n xs w (.returned (.slice A' n c')) w1 from ⟨A', c', rfl, ReadsS.of_own hown, hb⟩)
    clear hb hown hgrow hnil
    go_wp2_with fail
    go_ret
    exact HF.out

theorem cited_info : (Try.prog.info? 55).map (fun i => (i.zero, i.size, i.bytes)) = some (some (.agg #[.string ⟨#[]⟩, .string ⟨#[]⟩, .string ⟨#[]⟩, .bool false]), 4, 56) := by kernel_rfl
set_option maxHeartbeats 2000000 in
set_option maxRecDepth 100000 in
theorem clone_cited {S : Nat → Prop} {A : Option Addr} {n c : Nat} {xs : List Value} (w : World) (h : ReadsS w S 4 A n xs) (h1 : ∀ u ∈ xs, u.oneCell' = true) (hn : n ≤ 1000000) : Calls Try.prog 52 #[.slice A n c] w (ClnP 4 n xs w) := by
  have q24 : ∀ (w : World) (a : Option Addr) (n c n' c' : Nat), (binOp .eql 35 (.slice a n c) (.slice none n' c')).run Try.prog w = .ok (.bool a.isNone) w := fun w a n c n' c' => Lib.run_eql_slice_nil w _ _ a n c n' c' Try.underlying35
  have u24 : ∀ w, Sem.run Try.prog (underlying 35) w = .ok (TypeDesc.slice 55) w := run_underlying Try.underlying35
  obtain ⟨i0, hi, hz0, hz1, hz2⟩ := info_parts cited_info
  cases A with
  | none =>
    have h0 : n = 0 := by
      rcases Nat.eq_zero_or_pos n with h0 | h0
      · exact h0
      · obtain ⟨ad, e, _⟩ := h.2 h0; cases e
    subst h0
    have hx : xs = [] := List.length_eq_zero_iff.1 (by have := h.1.1; omega)
    subst hx
    clear h h1
    go_enter Try.func52, Try.ntmps52
    go_wp2
    go_ret
    exact ⟨none, 0, rfl, ReadsS.none_, Below.refl _ _⟩
  | some ad =>
    have HR := Lib.hid h
    have HO := Lib.hid h1
    clear h h1
    go_enter Try.func52, Try.ntmps52
    go_wp2_with (at_builtin; refine wpList_append_own _ rfl _ _ 35 rfl w.heap.size 55 i0 _ 4 56 Try.underlying35 hi hz0 hz1 hz2 rfl (by decide) _ _ _ rfl (World.ownsRow_made w #[] 0 (Nat.le_refl _) (Nat.zero_le _) rfl) ad n c xs rfl ?qc1 ?qc2 ?qc3 ?qc4 ?qc5 ?qc6 ?_)
    case qc1 => exact HR.out.1.1
    case qc2 =>
      intro j u hj
      refine Lib.cell?_alloc_some _ ?_
      have hjl := (List.getElem?_eq_some_iff.1 hj).1
      have hl := HR.out.1.1
      obtain ⟨ad', e, -, hc⟩ := HR.out.2 (Nat.pos_of_ne_zero fun h0 => by subst h0; omega)
      injection e with e
      subst e
      exact hc j u hj
    case qc3 => exact HO.out
    case qc4 => unfold maxLen; omega
    case qc5 => omega
    case qc6 => simp
    intro v' w1 hown hgrow hnil
    have hb : Below w.heap.size w w1 := ((Below.refl _ w).alloc (Nat.le_refl _) _).grown hgrow (by simp) (by intro k hk; simp [Value.ownBlock] at hk; omega)
    obtain ⟨A', c', hv, -, -⟩ := own_form hown
    subst hv
    have HF := Lib.hid (show ClnP 4 n xs w (.returned (.slice A' n c')) w1 from ⟨A', c', rfl, ReadsS.of_own hown, hb⟩)
    clear hb hown hgrow hnil
    go_wp2_with fail
    go_ret
    exact HF.out

end Go.Proofs.Ytfnloonmeilhlaa
namespace Go.Pub
mutual
def sizeI : InT → Nat
  | .mk _ t _ _ a ar c kids => 1 + t.size + a.cl.length + a.pr.length + ar.length + c.length + sizeL kids
def sizeL : List InT → Nat
  | [] => 0
  | x :: l => sizeI x + sizeL l
end
end Go.Pub
namespace Go.Proofs.Ytfnloonmeilhlaa
open Go.RowKit Go.Pub
/-- What lies in new memory. -/
def NewG (w w' : World) (g : Nat) : Prop := w.heap.size ≤ g ∧ g < w'.heap.size
theorem row_ret {F : Func} {a T : Nat} {W : World} {g : Nat} {cs : Array Value} {P : Ending → World → Prop} {act : Act} (hF : F.results = #[ResultVar.cell a T]) (hl : (loadVar T ⟨g, 0, none⟩).run Try.prog W = .ok (.agg cs) W)
    (h4 : act.tmps.getD a undef = .pointer (some ⟨g, 0, none⟩)) (hdf : act.defers = []) (hP : P (.returned (.agg cs)) W) : bodyPost Try.prog F P Exit.ret act W := by
  refine bodyPost_ret (v := .agg cs) ?_ hdf hP
  rw [Array.getD_eq_getD_getElem?] at h4
  simp [results, hF, h4, asAddr, hl]
theorem attr_size : (Try.prog.info? 34).map (·.size) = some 3 := by kernel_rfl
def CpyP (id : ByteArray) (cl : List ByteArray) (pr : List (ByteArray × ByteArray)) (w : World) (e : Ending) (w' : World) : Prop :=
  ∃ A1 c1 A2 c2, e = .returned (.agg #[.string id, .slice A1 cl.length c1, .slice A2 pr.length c2]) ∧ ReadsS w' (NewG w w') 1 A1 cl.length (strs cl) ∧ ReadsS w' (NewG w w') 2 A2 pr.length (prs pr) ∧ Below w.heap.size w w'
theorem strs_one (l : List ByteArray) : ∀ u ∈ strs l, u.oneCell' = true := by
  intro u hu
  unfold strs at hu
  obtain ⟨x, _, rfl⟩ := List.mem_map.1 hu
  rfl
theorem prs_one (l : List (ByteArray × ByteArray)) : ∀ u ∈ prs l, u.oneCell' = true := by
  intro u hu
  unfold prs at hu
  obtain ⟨x, _, hx⟩ := List.mem_flatMap.1 hu
  simp only [List.mem_cons, List.not_mem_nil, or_false] at hx
  rcases hx with rfl | rfl <;> rfl
theorem citVT_one (l : List CitL) : ∀ u ∈ citVT l, u.oneCell' = true := by
  intro u hu
  unfold citVT at hu
  obtain ⟨x, _, hx⟩ := List.mem_flatMap.1 hu
  simp only [List.mem_cons, List.not_mem_nil, or_false] at hx
  rcases hx with rfl | rfl | rfl | rfl <;> rfl
set_option maxHeartbeats 4000000 in
set_option maxRecDepth 100000 in
theorem t_copyAttr {S : Nat → Prop} {A1 A2 : Option Addr} {c1 c2 : Nat} {id : ByteArray} {cl : List ByteArray} {pr : List (ByteArray × ByteArray)} (w : World) (h1 : ReadsS w S 1 A1 cl.length (strs cl)) (h2 : ReadsS w S 2 A2 pr.length (prs pr)) (hS : ∀ g, S g → g < w.heap.size) (n1 : cl.length ≤ 1000000) (n2 : pr.length ≤ 1000000) :
    Calls Try.prog 50 #[.agg #[.string id, .slice A1 cl.length c1, .slice A2 pr.length c2]] w (CpyP id cl pr w) := by
  have H1 := Lib.hid h1
  have H2 := Lib.hid h2
  have HS := Lib.hid hS
  clear h1 h2 hS
  go_enter Try.func50, Try.ntmps50
  go_wp2_with fail
  have b1 : Blk ((w.alloc (.cells #[.string id, .slice A1 cl.length c1, .slice A2 pr.length c2] 34)).alloc (.cells #[.string ⟨#[]⟩, .slice none 0 0, .slice none 0 0] 34)) w.heap.size 34 #[.string id, .slice A1 cl.length c1, .slice A2 pr.length c2] := (Blk.new _ _ _).alloc _
  have b2 : Blk ((w.alloc (.cells #[.string id, .slice A1 cl.length c1, .slice A2 pr.length c2] 34)).alloc (.cells #[.string ⟨#[]⟩, .slice none 0 0, .slice none 0 0] 34)) (w.heap.size + 1) 34 #[.string ⟨#[]⟩, .slice none 0 0, .slice none 0 0] := by
    have := Blk.new (w.alloc (.cells #[.string id, .slice A1 cl.length c1, .slice A2 pr.length c2] 34)) 34 #[.string ⟨#[]⟩, .slice none 0 0, .slice none 0 0]
    rw [World.size_alloc] at this
    exact this
  have hb : Below w.heap.size w ((w.alloc (.cells #[.string id, .slice A1 cl.length c1, .slice A2 pr.length c2] 34)).alloc (.cells #[.string ⟨#[]⟩, .slice none 0 0, .slice none 0 0] 34)) := ((Below.refl _ w).alloc (Nat.le_refl _) _).alloc (by simp) _
  generalize (w.alloc (.cells #[.string id, .slice A1 cl.length c1, .slice A2 pr.length c2] 34)).alloc (.cells #[.string ⟨#[]⟩, .slice none 0 0, .slice none 0 0] 34) = W1 at *
  ((with_reducible refine (clone_str W1 (H1.out.keep (fun g hg => hb.block g (HS.out g hg)) fun _ h => h) (strs_one cl) n1).mono ?_))
  rintro e W2 ⟨A3, c3, rfl, r1, p1⟩
  have l1 := b1.lt
  have l2 := b2.lt
  have q1 := b1.below p1 l1
  have q2 := b2.below p1 l2
  have x1 := q1.cell 1
  have x2 := q1.frozen 1
  have x3 : W2.cell? ⟨w.heap.size, 2, none⟩ = some (.slice A2 pr.length c2) := q1.cell 2
  have hz2 := p1.size
  have HQ1 := Lib.hid (q1.set_ 1 (.slice A3 cl.length c3))
  have HQ2 := Lib.hid (q2.far (p := ⟨w.heap.size, 1, none⟩) (by show w.heap.size + 1 ≠ w.heap.size; omega) (.slice A3 cl.length c3))
  have HB2 : Hid (Below w.heap.size w (W2.setCell ⟨w.heap.size, 1, none⟩ (.slice A3 cl.length c3))) := Lib.hid ((hb.trans (p1.mono hb.size)).setCell (p := ⟨w.heap.size, 1, none⟩) (Nat.le_refl _) _)
  have HR1 : Hid (ReadsS (W2.setCell ⟨w.heap.size, 1, none⟩ (.slice A3 cl.length c3)) (fun g => W1.heap.size ≤ g ∧ g < W2.heap.size) 1 A3 cl.length (strs cl)) := Lib.hid (r1.keep (fun g hg => Below.heap_setCell W2 ⟨w.heap.size, 1, none⟩ _ g (by show g ≠ w.heap.size; omega)) fun _ h => h)
  have HZ : Hid (W1.heap.size ≤ W2.heap.size ∧ w.heap.size ≤ W1.heap.size) := Lib.hid ⟨p1.size, hb.size⟩
  clear b1 b2 hb q1 q2 r1 p1
  go_wp2_with fail
  generalize hW3 : W2.setCell ⟨w.heap.size, 1, none⟩ (.slice A3 cl.length c3) = W3 at *
  have hz3 : W2.heap.size = W3.heap.size := by rw [← hW3]; simp [World.setCell]
  have HZ3 := Lib.hid hz3
  clear hW3 hz3 x1 x2 x3
  ((with_reducible refine (clone_pair W3 (H2.out.keep (fun g hg => HB2.out.block g (HS.out g hg)) fun _ h => h) (prs_one pr) n2).mono ?_))
  rintro e W4 ⟨A5, c5, rfl, r2, p2⟩
  have q1 := HQ1.out.below p2 HQ1.out.lt
  have q2 := HQ2.out.below p2 HQ2.out.lt
  have l3 := HQ2.out.lt
  have hz4 := p2.size
  have x2 : W4.cell? ⟨w.heap.size, 2, none⟩ = some (.slice A2 pr.length c2) := q1.cell 2
  have x3 := q1.frozen 2
  have x4 : W4.cell? ⟨w.heap.size, 0, none⟩ = some (.string id) := q1.cell 0
  have x5 : W4.cell? ⟨w.heap.size, 1, none⟩ = some (.slice A3 cl.length c3) := q1.cell 1
  have HQ3 := Lib.hid (q1.set_ 2 (.slice A5 pr.length c5))
  have HQ4 := Lib.hid (q2.far (p := ⟨w.heap.size, 2, none⟩) (by show w.heap.size + 1 ≠ w.heap.size; omega) (.slice A5 pr.length c5))
  have HB4 : Hid (Below w.heap.size w (W4.setCell ⟨w.heap.size, 2, none⟩ (.slice A5 pr.length c5))) := Lib.hid ((HB2.out.trans (p2.mono (by have := HZ.out; have := HZ3.out; omega))).setCell (p := ⟨w.heap.size, 2, none⟩) (Nat.le_refl _) _)
  have HR3 : Hid (ReadsS (W4.setCell ⟨w.heap.size, 2, none⟩ (.slice A5 pr.length c5)) (fun g => W3.heap.size ≤ g ∧ g < W4.heap.size) 2 A5 pr.length (prs pr)) := Lib.hid (r2.keep (fun g hg => Below.heap_setCell W4 ⟨w.heap.size, 2, none⟩ _ g (by show g ≠ w.heap.size; have := HZ.out; have := HZ3.out; omega)) fun _ h => h)
  have HR4 : Hid (ReadsS (W4.setCell ⟨w.heap.size, 2, none⟩ (.slice A5 pr.length c5)) (fun g => W1.heap.size ≤ g ∧ g < W2.heap.size) 1 A3 cl.length (strs cl)) := Lib.hid (HR1.out.keep (fun g hg => (Below.heap_setCell W4 ⟨w.heap.size, 2, none⟩ _ g (by show g ≠ w.heap.size; omega)).trans (p2.block g (by have := HZ3.out; omega))) fun _ h => h)
  have HZ4 : Hid ((W4.setCell ⟨w.heap.size, 2, none⟩ (.slice A5 pr.length c5)).heap.size = W4.heap.size) := Lib.hid (by simp [World.setCell])
  have HZ5 := Lib.hid hz4
  clear q1 q2 r2 p2
  go_wp2_with (refine wpList_store_row rfl 34 (.tmp 2) (.tmp 11) rfl (w.heap.size + 1) #[.string id, .slice A3 cl.length c3, .slice A5 pr.length c5] rfl rfl 34 _ HQ4.out attr_size (by rfl) (by simp [Value.oneCell']) ?_)
  have HL := Lib.hid (run_loadVar_row (P := Try.prog) _ (w.heap.size + 1) 34 34 #[.string id, .slice A3 cl.length c3, .slice A5 pr.length c5] (0, 0) _ (setRow_heap _ _ _ _ _ _ HQ4.out) Try.underlying34 rfl attr_size)
  have HF : Hid (CpyP id cl pr w (.returned (.agg #[.string id, .slice A3 cl.length c3, .slice A5 pr.length c5])) ((W4.setCell ⟨w.heap.size, 2, none⟩ (.slice A5 pr.length c5)).setRow (w.heap.size + 1) #[.string id, .slice A3 cl.length c3, .slice A5 pr.length c5])) := Lib.hid ⟨A3, c3, A5, c5, rfl, HR4.out.keep (fun g hg => setRow_other _ _ _ _ (by have := HZ.out; have := HZ3.out; show g ≠ w.heap.size + 1; omega)) (fun g hg => ⟨by have := HZ.out; omega, by rw [setRow_size, HZ4.out]; have := HZ3.out; have := HZ5.out; omega⟩), HR3.out.keep (fun g hg => setRow_other _ _ _ _ (by have := HZ.out; have := HZ3.out; show g ≠ w.heap.size + 1; omega)) (fun g hg => ⟨by have := HZ.out; have := HZ3.out; omega, by rw [setRow_size, HZ4.out]; exact hg.2⟩), below_setRow HB4.out (by omega) _⟩
  refine row_ret Try.results50 HL.out ?_ ?_ HF.out
  · rfl
  · rfl

end Go.Proofs.Ytfnloonmeilhlaa
namespace Go.Pub
open Go.RowKit
def sumS : List ByteArray → Nat
  | [] => 0
  | s :: l => s.size + sumS l
def sumP : List (ByteArray × ByteArray) → Nat
  | [] => 0
  | s :: l => s.1.size + s.2.size + sumP l
def longA (a : AttrL) : Bool := decide (40 < a.cl.length) || (decide (40 < a.pr.length) || decide (600 < a.id.size + sumS a.cl + sumP a.pr))
def argsW : List ByteArray → Nat
  | [] => 0
  | s :: l => s.size / 40 + argsW l
def citsW : List CitL → Nat
  | [] => 0
  | x :: l => (x.key.size + x.pre.size + x.suf.size) / 40 + citsW l
def badI : InT → Bool
  | .mk _ t d ti a ar c _ => decide (300 < t.size + d.size + ti.size) || (longA a || (decide (9 < ar.length) || decide (9 < c.length)))
def ownW : InT → Nat
  | .mk _ _ _ _ _ ar c _ => argsW ar + citsW c
/-- The weight of a list, given that of its kids. -/
def wgtL (g : List InT → Nat) : Nat → List InT → Nat
  | n, [] => n
  | n, x :: l => if 1000 ≤ n then n else if badI x = true then 1000 else wgtL g (n + ownW x + g x.kids) l
def wgtF : Nat → List InT → Nat
  | 0, _ => 1000
  | f + 1, l => if 200 < l.length then 1000 else wgtL (wgtF f) l.length l
def fewP (ps : List PcT) : Bool := decide (ps.length ≤ 40) && (ps.all (fun p => decide (p.ch.size ≤ 9) && decide (p.n ≤ 40)) && decide (1 + wgtF 21 (ps.map (·.inl)) ≤ 120))
theorem sumS_le : ∀ (l : List ByteArray) (B : Nat), (∀ s ∈ l, s.size ≤ B) → sumS l ≤ l.length * B
  | [], _, _ => Nat.zero_le _
  | s :: l, B, h => by
    have h1 := sumS_le l B fun x hx => h x (List.mem_cons_of_mem _ hx)
    have h2 := h s (by simp)
    rw [List.length_cons, Nat.succ_mul]
    show s.size + sumS l ≤ _
    omega
theorem sumP_le : ∀ (l : List (ByteArray × ByteArray)) (B : Nat), (∀ s ∈ l, s.1.size ≤ B ∧ s.2.size ≤ B) → sumP l ≤ l.length * (2 * B)
  | [], _, _ => Nat.zero_le _
  | s :: l, B, h => by
    have h1 := sumP_le l B fun x hx => h x (List.mem_cons_of_mem _ hx)
    have h2 := h s (by simp)
    rw [List.length_cons, Nat.succ_mul]
    show s.1.size + s.2.size + sumP l ≤ _
    omega
theorem argsW_le : ∀ (l : List ByteArray) (B : Nat), (∀ s ∈ l, s.size ≤ B) → argsW l ≤ l.length * B
  | [], _, _ => Nat.zero_le _
  | s :: l, B, h => by
    have h1 := argsW_le l B fun x hx => h x (List.mem_cons_of_mem _ hx)
    have h2 := h s (by simp)
    rw [List.length_cons, Nat.succ_mul]
    show s.size / 40 + argsW l ≤ _
    omega
theorem citsW_le : ∀ (l : List CitL) (B : Nat), (∀ s ∈ l, s.key.size ≤ B ∧ s.pre.size ≤ B ∧ s.suf.size ≤ B) → citsW l ≤ l.length * (3 * B)
  | [], _, _ => Nat.zero_le _
  | s :: l, B, h => by
    have h1 := citsW_le l B fun x hx => h x (List.mem_cons_of_mem _ hx)
    have h2 := h s (by simp)
    rw [List.length_cons, Nat.succ_mul]
    show (s.key.size + s.pre.size + s.suf.size) / 40 + citsW l ≤ _
    omega
/-- What a step of the weight adds is no more than memory holds. -/
theorem ownW_le {x : InT} (h : okI x) (hb : badI x = false) : ownW x ≤ 36 * 140737488355328 := by
  obtain ⟨k, t, d, ti, a, ar, c, ks⟩ := x
  rw [okI] at h
  obtain ⟨-, -, h1, h2, -⟩ := h
  unfold badI at hb
  simp only [Bool.or_eq_false_iff, decide_eq_false_iff_not, Nat.not_lt] at hb
  obtain ⟨-, -, h3, h4⟩ := hb
  have h5 := argsW_le ar reachBytes h1
  have h6 := citsW_le c reachBytes h2
  show argsW ar + citsW c ≤ _
  have h7 : ar.length * reachBytes ≤ 9 * reachBytes := Nat.mul_le_mul_right _ h3
  have h8 : c.length * (3 * reachBytes) ≤ 9 * (3 * reachBytes) := Nat.mul_le_mul_right _ h4
  unfold reachBytes at *
  omega
theorem wgtL_le (g : List InT → Nat) (G : Nat) (hg : ∀ l, okL l → g l ≤ G) : ∀ (l : List InT) (n : Nat), okL l → n ≤ 1000 + 36 * 140737488355328 + G → wgtL g n l ≤ 1000 + 36 * 140737488355328 + G
  | [], n, _, hn => by unfold wgtL; exact hn
  | x :: l, n, h, hn => by
    rw [okL] at h
    unfold wgtL
    split
    · exact hn
    · split
      · omega
      · rename_i h1 h2
        refine wgtL_le g G hg l _ h.2 ?_
        have h3 := ownW_le h.1 (by simpa using h2)
        have h4 := hg x.kids (by
          obtain ⟨k, t, d, ti, a, ar, c, ks⟩ := x
          have := h.1
          rw [okI] at this
          exact this.2.2.2.2)
        omega
theorem wgtF_le : ∀ (f : Nat) (l : List InT), okL l → wgtF f l ≤ 1000 + f * (1000 + 36 * 140737488355328)
  | 0, l, _ => by unfold wgtF; omega
  | f + 1, l, h => by
    unfold wgtF
    split
    · omega
    · have := wgtL_le (wgtF f) _ (wgtF_le f) l l.length h (by omega)
      rw [Nat.succ_mul]
      omega
end Go.Pub
namespace Go.Pub
section
variable {ps : List PcT} {k : Nat} {st : EmS} {ids : List Nat}
theorem MatI.after' {c : Nat} {L : List Nat} {s2 : EmS} (h0 : MatI ps k st ids) (hp : runP (pcX ps k) = true) (h : ClI ps k c s2 L) (hx : s2.xs.length + st.prs.length = st.xs.length + 1 + s2.prs.length) (hr : s2.prs.length + lfX s2.xs c ≤ st.prs.length + (pcX ps k).n.toNat) :
    MatI ps (k + 1) (if (pcX ps k).opn = true ∧ 0 < lfX s2.xs c then opnS ps s2 k c else s2) (L ++ if lfX s2.xs c = 0 then [] else [c]) := by
  have hs : sumN ps (k + 1) = sumN ps k + (pcX ps k).n.toNat := by show sumN ps k + (if runP (pcX ps k) = true then _ else 0) = _; rw [if_pos hp]
  have hl := h0.len
  have hq := h0.prs
  by_cases hz : lfX s2.xs c = 0
  · rw [if_neg (by omega)]
    exact ⟨h.em, h.rb, by omega, by omega⟩
  · by_cases ho : (pcX ps k).opn = true
    · rw [if_pos ⟨ho, by omega⟩, if_neg hz]
      exact ⟨h.open_ hz, h.rb, by show s2.xs.length ≤ 1 + (k + 1) + s2.prs.length; omega, by show s2.prs.length ≤ _; omega⟩
    · rw [if_neg (fun h => ho h.1)]
      exact ⟨h.em, h.rb, by omega, by omega⟩
/-- The elements of the ring, a closer's with it if it is not empty. -/
def withC (st : EmS) (L : List Nat) (c : Nat) : List Nat := L ++ if lfX st.xs c = 0 then [] else [c]
/-- The matches of pieces keep what each step keeps. -/
theorem match_ind (ps : List PcT) (P : Nat → EmS → List Nat → Prop) (h0 : P 0 start0 [])
    (hskip : ∀ {k st ids}, MatI ps k st ids → k < ps.length → runP (pcX ps k) = false → ¬ ((pcX ps k).kind = 0 ∧ ((pcX ps k).inl.kind ≠ 1 ∨ (pcX ps k).inl.text.toList ≠ [])) → P k st ids → P (k + 1) st ids)
    (hinl : ∀ {k st ids}, MatI ps k st ids → k < ps.length → runP (pcX ps k) = false → (pcX ps k).kind = 0 → ((pcX ps k).inl.kind ≠ 1 ∨ (pcX ps k).inl.text.toList ≠ []) → P k st ids → P (k + 1) (inlS ps st k) (ids ++ [st.xs.length]))
    (hrun : ∀ {k st ids}, MatI ps k st ids → k < ps.length → runP (pcX ps k) = true → P k st ids → P (k + 1) (runS ps st k) (ids ++ [st.xs.length]))
    (hm : ∀ {k c st A B R}, k < ps.length → (pcX ps k).clo = true → ClI ps k c st (A ++ R :: B) → lfX st.xs c ≠ 0 → R = clO ps st c → R ≠ 0 → B ≠ [] → RingI st.xs (A ++ R :: (B ++ [c])) → runX st.xs R = true → 0 < lfX st.xs R → P (k + 1) st (A ++ R :: (B ++ [c])) →
      P (k + 1) (mtchA ps st R c) (A ++ (if lfX st.xs R ≤ pairN st.xs R c then [] else [R]) ++ st.xs.length :: (if lfX st.xs c ≤ pairN st.xs R c then [] else [c])))
    (hopn : ∀ {k c st ids}, P (k + 1) st ids → P (k + 1) (opnS ps st k c) ids) :
    ∀ k, k ≤ ps.length → ∃ ids, MatI ps k (matchF ps k) ids ∧ P k (matchF ps k) ids
  | 0, _ => ⟨[], MatI.start ps, h0⟩
  | k + 1, h => by
    obtain ⟨ids, hM, hP⟩ := match_ind ps P h0 hskip hinl hrun hm hopn k (by omega)
    show ∃ ids, MatI ps (k + 1) (stepA ps (matchF ps k) k) ids ∧ P (k + 1) (stepA ps (matchF ps k) k) ids
    generalize matchF ps k = st at *
    cases hp : runP (pcX ps k) with
    | false =>
      by_cases hi : (pcX ps k).kind = 0 ∧ ((pcX ps k).inl.kind ≠ 1 ∨ (pcX ps k).inl.text.toList ≠ [])
      · rw [stepA_inl hp hi]; exact ⟨_, hM.inl, hinl hM h hp hi.1 hi.2 hP⟩
      · rw [stepA_none hp hi]; exact ⟨_, hM.skip, hskip hM h hp hi hP⟩
    | true =>
      obtain ⟨c1, c2, c3, c4⟩ := hM.run h hp
      rw [stepA_run hp]
      have hP1 := hrun hM h hp hP
      have hx1 : (runS ps st k).xs.length = st.xs.length + 1 := by unfold runS; rw [len_ins]
      have hp1 : (runS ps st k).prs = st.prs := rfl
      have hfin : ∀ (s2 : EmS) (L : List Nat), ClI ps k st.xs.length s2 L → s2.xs.length + st.prs.length = st.xs.length + 1 + s2.prs.length → s2.prs.length + lfX s2.xs st.xs.length ≤ st.prs.length + (pcX ps k).n.toNat → P (k + 1) s2 (withC s2 L st.xs.length) →
          ∃ ids, MatI ps (k + 1) (if (pcX ps k).opn = true ∧ 0 < lfX s2.xs st.xs.length then opnS ps s2 k st.xs.length else s2) ids ∧ P (k + 1) (if (pcX ps k).opn = true ∧ 0 < lfX s2.xs st.xs.length then opnS ps s2 k st.xs.length else s2) ids := fun s2 L hc ha hb hP2 => by
        refine ⟨_, hM.after' hp hc ha hb, ?_⟩
        split
        · exact hopn hP2
        · exact hP2
      have hP1' : P (k + 1) (runS ps st k) (withC (runS ps st k) ids st.xs.length) := by
        unfold withC
        rw [c2, if_neg (by omega)]
        exact hP1
      cases hc : (pcX ps k).clo with
      | false =>
        simp only [Bool.false_eq_true, if_false]
        exact hfin _ _ c1 (by have := congrArg List.length hp1; omega) (by have := congrArg List.length hp1; omega) hP1'
      | true =>
        simp only [if_true]
        obtain ⟨L', d1, ⟨d2, d3, d4⟩, -⟩ := closeF_ind (fun s L => s.xs.length + st.prs.length = st.xs.length + 1 + s.prs.length ∧ s.prs.length + lfX s.xs st.xs.length ≤ st.prs.length + (pcX ps k).n.toNat ∧ P (k + 1) s (withC s L st.xs.length)) (fun {s A B R} g hl hR hR0 hB hg hr hlr hQ => by
          obtain ⟨q1, q2, q3⟩ := hQ
          unfold withC at q3
          rw [if_neg hl, List.append_assoc, List.cons_append] at q3
          have q4 := hm h hc g hl hR hR0 hB hg hr hlr q3
          have hRc : R ≠ st.xs.length := by
            rintro e
            obtain ⟨A', B', L', -, -, -, -, -, -, -, g8, -⟩ := g.pair hl (hR ▸ hR0)
            exact g8 (hR ▸ e)
          have hlf : lfX (mtchA ps s R st.xs.length).xs st.xs.length = lfX s.xs st.xs.length - pairN s.xs R st.xs.length := by
            have hRl : R < s.xs.length := hg.bd R (by simp)
            have := (core_mtch' (ps := ps) (st := s) (o := R) (c := st.xs.length) (j := st.xs.length) hRl g.lt hRc (by have := g.lt; omega)).2.2.2
            rw [this, if_pos (.inr rfl)]
          refine ⟨?_, ?_, ?_⟩
          · subst hR
            obtain ⟨A', B', L', -, -, -, -, -, -, -, -, -, g1, g2, g3⟩ := g.pair hl hR0
            rw [g2, g3]; omega
          · subst hR
            obtain ⟨A', B', L', -, -, -, -, -, -, -, -, -, g1, g2, g3⟩ := g.pair hl hR0
            rw [g3]; omega
          · unfold withC
            rw [hlf]
            rw [List.append_assoc]
            by_cases hz : lfX s.xs st.xs.length ≤ pairN s.xs R st.xs.length
            · rw [if_pos (show lfX s.xs st.xs.length - pairN s.xs R st.xs.length = 0 by omega)]
              rw [if_pos hz] at q4
              exact q4
            · rw [if_neg (show ¬ lfX s.xs st.xs.length - pairN s.xs R st.xs.length = 0 by omega)]
              rw [if_neg hz] at q4
              exact q4) (lfX (runS ps st k).xs st.xs.length) (runS ps st k) ids c1 (Nat.le_refl _) ⟨by rw [hx1, hp1], by rw [hp1, c2]; exact Nat.le_refl _, hP1'⟩
        exact hfin _ _ d1 d2 d3 d4
end
end Go.Pub
namespace Go.Proofs.Ytfnloonmeilhlaa
open Go.RowKit Go.Pub
def zIn : Array Value := #[.int .i64 0, .string ⟨#[]⟩, .string ⟨#[]⟩, .string ⟨#[]⟩, .string ⟨#[]⟩, .slice none 0 0, .slice none 0 0, .slice none 0 0, .slice none 0 0, .slice none 0 0]
/-- Merged inlines in new memory. -/
def MrgP (l : List InT) (w : World) (e : Ending) (w' : World) : Prop :=
  ∃ A c vs, e = .returned (.slice A (mergeL l).length c) ∧ RepIs w' (NewG w w') vs (mergeL l) ∧ w'.ownsRow w.heap.size 37 10 (.slice A (mergeL l).length c) (mergeL l).length (vs.flatMap Array.toList) ∧ Below w.heap.size w w'
/-- Merge is right on inlines up to a size. -/
def MrgH (N : Nat) : Prop := ∀ l : List InT, sizeL l ≤ N → ∀ (S : Nat → Prop) (w : World) (A : Option Addr) (c : Nat) (vs : List (Array Value)), RepIs w S vs l → ReadsS w S 10 A l.length (vs.flatMap Array.toList) → (∀ g, S g → g < w.heap.size) → Calls Try.prog 25 #[.slice A l.length c] w (MrgP l w)
def MgdP (x : InT) (w : World) (e : Ending) (w' : World) : Prop := ∃ v, e = .returned (.agg v) ∧ RepI w' (NewG w w') v (mergeI x) ∧ Below w.heap.size w w'
def N2 (w W : World) (g : Nat) : Prop := w.heap.size + 2 ≤ g ∧ g < W.heap.size
structure MgW (w W : World) (cs : Array Value) : Prop where
  b1 : Blk W w.heap.size 37 cs
  b2 : Blk W (w.heap.size + 1) 37 zIn
  bel : Below w.heap.size w W
section
variable {w W W' : World} {cs : Array Value}
theorem MgW.call (h : MgW w W cs) (hb : Below W.heap.size W W') : MgW w W' cs := ⟨h.b1.below hb h.b1.lt, h.b2.below hb h.b2.lt, h.bel.trans (hb.mono h.bel.size)⟩
theorem MgW.set (h : MgW w W cs) (i : Nat) (u : Value) : MgW w (W.setCell ⟨w.heap.size, i, none⟩ u) (cs.setIfInBounds i u) :=
  ⟨h.b1.set_ i u, h.b2.far (p := ⟨w.heap.size, i, none⟩) (by show w.heap.size + 1 ≠ w.heap.size; omega) u, h.bel.setCell (p := ⟨w.heap.size, i, none⟩) (Nat.le_refl _) u⟩
theorem MgW.sz (h : MgW w W cs) : w.heap.size + 2 ≤ W.heap.size := by have := h.b2.lt; omega
/-- What is new in W stays in W'. -/
def KpN (w W W' : World) : Prop := ∀ g, N2 w W g → W'.heap[g]? = W.heap[g]? ∧ N2 w W' g
theorem KpN.call (hb : Below W.heap.size W W') : KpN w W W' := fun g hg => ⟨hb.block g hg.2, hg.1, Nat.lt_of_lt_of_le hg.2 hb.size⟩
theorem KpN.set (i : Nat) (u : Value) : KpN w W (W.setCell ⟨w.heap.size, i, none⟩ u) := fun g hg => ⟨Below.heap_setCell W ⟨w.heap.size, i, none⟩ u g (by have := hg.1; show g ≠ w.heap.size; omega), hg.1, by simpa [World.setCell] using hg.2⟩
theorem KpN.trans {W'' : World} (h : KpN w W W') (k : KpN w W' W'') : KpN w W W'' := fun g hg => ⟨(k g (h g hg).2).1.trans (h g hg).1, (k g (h g hg).2).2⟩
theorem KpN.rd {z n : Nat} {A : Option Addr} {xs : List Value} (h : ReadsS W (N2 w W) z A n xs) (k : KpN w W W') : ReadsS W' (N2 w W') z A n xs := h.keep (fun g hg => (k g hg).1) fun g hg => (k g hg).2
end
set_option maxHeartbeats 8000000 in
set_option maxRecDepth 100000 in
theorem t_merged {N : Nat} {S : Nat → Prop} {x0 x1 x2 x3 x4 x5 x6 x7 x8 x9 : Value} {x : InT} (w : World) (hM : MrgH N) (h : RepI w S #[x0, x1, x2, x3, x4, x5, x6, x7, x8, x9] x) (hS : ∀ g, S g → g < w.heap.size) (hx : sizeI x ≤ 1000000) (hN : sizeL x.kids ≤ N) :
    Calls Try.prog 35 #[.agg #[x0, x1, x2, x3, x4, x5, x6, x7, x8, x9]] w (MgdP x w) := by
  cases h with
  | mk kind text dest title att args cites kids A1 A2 A3 A4 A5 c1 c2 c3 c4 c5 vs h1 h2 h3 h4 h5 h6 =>
  have hn : att.cl.length ≤ 1000000 ∧ att.pr.length ≤ 1000000 ∧ args.length ≤ 1000000 ∧ cites.length ≤ 1000000 := by
    unfold sizeI at hx
    omega
  obtain ⟨n1, n2, n3, n4⟩ := hn
  have hN' : sizeL kids ≤ N := hN
  obtain ⟨id, cl, pr⟩ := att
  have H1 := Lib.hid h1
  have H2 := Lib.hid h2
  have H3 := Lib.hid h3
  have H4 := Lib.hid h4
  have H5 := Lib.hid h5
  have H6 := Lib.hid h6
  have HS := Lib.hid hS
  unfold MrgH at hM
  have HM := Lib.hid (hM kids hN' S)
  have HX : Hid (mergeI (.mk kind text dest title ⟨id, cl, pr⟩ args cites kids) = .mk kind text dest title ⟨id, cl, pr⟩ args cites (mergeL kids)) := Lib.hid (by unfold mergeL; rw [mergeI])
  clear h1 h2 h3 h4 h5 h6 hS hM hx hN
  go_enter Try.func35, Try.ntmps35
  go_wp2_with fail
  have q : MgW w ((w.alloc (.cells #[.int .i64 kind, .string text, .string dest, .string title, .string id, .slice A1 cl.length c1, .slice A2 pr.length c2, .slice A3 args.length c3, .slice A4 cites.length c4, .slice A5 kids.length c5] 37)).alloc (.cells zIn 37)) #[.int .i64 kind, .string text, .string dest, .string title, .string id, .slice A1 cl.length c1, .slice A2 pr.length c2, .slice A3 args.length c3, .slice A4 cites.length c4, .slice A5 kids.length c5] := ⟨(Blk.new _ _ _).alloc _, by
    have := Blk.new (w.alloc (.cells #[.int .i64 kind, .string text, .string dest, .string title, .string id, .slice A1 cl.length c1, .slice A2 pr.length c2, .slice A3 args.length c3, .slice A4 cites.length c4, .slice A5 kids.length c5] 37)) 37 zIn
    rw [World.size_alloc] at this
    exact this, ((Below.refl _ w).alloc (Nat.le_refl _) _).alloc (by simp) _⟩
  unfold zIn at q
  generalize (w.alloc (.cells #[.int .i64 kind, .string text, .string dest, .string title, .string id, .slice A1 cl.length c1, .slice A2 pr.length c2, .slice A3 args.length c3, .slice A4 cites.length c4, .slice A5 kids.length c5] 37)).alloc (.cells #[.int .i64 0, .string ⟨#[]⟩, .string ⟨#[]⟩, .string ⟨#[]⟩, .string ⟨#[]⟩, .slice none 0 0, .slice none 0 0, .slice none 0 0, .slice none 0 0, .slice none 0 0] 37) = W1 at *
  have hlt := q.b1.lt
  ((with_reducible refine (t_copyAttr W1 (H1.out.keep (fun g hg => q.bel.block g (HS.out g hg)) fun _ h => h) (H2.out.keep (fun g hg => q.bel.block g (HS.out g hg)) fun _ h => h) (fun g hg => Nat.lt_of_lt_of_le (HS.out g hg) q.bel.size) n1 n2).mono ?_))
  rintro e W2 ⟨B1, d1, B2, d2, rfl, r1, r2, p⟩
  have z := q.sz
  have r1 : ReadsS W2 (N2 w W2) 1 B1 cl.length (strs cl) := r1.keep (fun _ _ => rfl) fun g hg => ⟨Nat.le_trans z hg.1, hg.2⟩
  have r2 : ReadsS W2 (N2 w W2) 2 B2 pr.length (prs pr) := r2.keep (fun _ _ => rfl) fun g hg => ⟨Nat.le_trans z hg.1, hg.2⟩
  have q := q.call p
  clear p z
  have y4 : W2.cell? ⟨w.heap.size, 4, none⟩ = some (.string id) := q.b1.cell 4
  have y5 : W2.cell? ⟨w.heap.size, 5, none⟩ = some (.slice A1 cl.length c1) := q.b1.cell 5
  have y6 : W2.cell? ⟨w.heap.size, 6, none⟩ = some (.slice A2 pr.length c2) := q.b1.cell 6
  have y7 : W2.cell? ⟨w.heap.size, 7, none⟩ = some (.slice A3 args.length c3) := q.b1.cell 7
  have yf := q.b1.frozen
  have Q := Lib.hid (((q.set 4 (.string id)).set 5 (.slice B1 cl.length d1)).set 6 (.slice B2 pr.length d2))
  have KK : KpN w W2 (((W2.setCell ⟨w.heap.size, 4, none⟩ (.string id)).setCell ⟨w.heap.size, 5, none⟩ (.slice B1 cl.length d1)).setCell ⟨w.heap.size, 6, none⟩ (.slice B2 pr.length d2)) := (KpN.set 4 _).trans ((KpN.set 5 _).trans (KpN.set 6 _))
  have R1 := Lib.hid (KpN.rd r1 KK)
  have R2 := Lib.hid (KpN.rd r2 KK)
  clear q r1 r2 KK
  go_wp2_with fail
  generalize ((W2.setCell ⟨w.heap.size, 4, none⟩ (.string id)).setCell ⟨w.heap.size, 5, none⟩ (.slice B1 cl.length d1)).setCell ⟨w.heap.size, 6, none⟩ (.slice B2 pr.length d2) = W3 at *
  clear y4 y5 y6 y7 yf
  have q := Q.out
  ((with_reducible refine (clone_str W3 (H3.out.keep (fun g hg => q.bel.block g (HS.out g hg)) fun _ h => h) (strs_one args) n3).mono ?_))
  rintro e W4 ⟨B3, d3, rfl, r3, p⟩
  have z := q.sz
  have r3 : ReadsS W4 (N2 w W4) 1 B3 args.length (strs args) := r3.keep (fun _ _ => rfl) fun g hg => ⟨Nat.le_trans z hg.1, hg.2⟩
  have q := q.call p
  have R1' := KpN.rd R1.out (KpN.call p)
  have R2' := KpN.rd R2.out (KpN.call p)
  have hlt := q.b1.lt
  clear p z Q R1 R2
  have y7 : W4.cell? ⟨w.heap.size, 7, none⟩ = some (.slice A3 args.length c3) := q.b1.cell 7
  have y8 : W4.cell? ⟨w.heap.size, 8, none⟩ = some (.slice A4 cites.length c4) := q.b1.cell 8
  have yf := q.b1.frozen
  have Q := Lib.hid (q.set 7 (.slice B3 args.length d3))
  have KK : KpN w W4 (W4.setCell ⟨w.heap.size, 7, none⟩ (.slice B3 args.length d3)) := KpN.set 7 _
  have R1 := Lib.hid (KpN.rd R1' KK)
  have R2 := Lib.hid (KpN.rd R2' KK)
  have R3 := Lib.hid (KpN.rd r3 KK)
  clear q r3 R1' R2' KK
  go_wp2_with fail
  generalize W4.setCell ⟨w.heap.size, 7, none⟩ (.slice B3 args.length d3) = W5 at *
  clear y7 y8 yf
  have q := Q.out
  ((with_reducible refine (clone_cited W5 (H4.out.keep (fun g hg => q.bel.block g (HS.out g hg)) fun _ h => h) (citVT_one cites) n4).mono ?_))
  rintro e W6 ⟨B4, d4, rfl, r4, p⟩
  have z := q.sz
  have r4 : ReadsS W6 (N2 w W6) 4 B4 cites.length (citVT cites) := r4.keep (fun _ _ => rfl) fun g hg => ⟨Nat.le_trans z hg.1, hg.2⟩
  have q := q.call p
  have R1' := KpN.rd R1.out (KpN.call p)
  have R2' := KpN.rd R2.out (KpN.call p)
  have R3' := KpN.rd R3.out (KpN.call p)
  have hlt := q.b1.lt
  clear p z Q R1 R2 R3
  have y8 : W6.cell? ⟨w.heap.size, 8, none⟩ = some (.slice A4 cites.length c4) := q.b1.cell 8
  have y9 : W6.cell? ⟨w.heap.size, 9, none⟩ = some (.slice A5 kids.length c5) := q.b1.cell 9
  have yf := q.b1.frozen
  have Q := Lib.hid (q.set 8 (.slice B4 cites.length d4))
  have KK : KpN w W6 (W6.setCell ⟨w.heap.size, 8, none⟩ (.slice B4 cites.length d4)) := KpN.set 8 _
  have R1 := Lib.hid (KpN.rd R1' KK)
  have R2 := Lib.hid (KpN.rd R2' KK)
  have R3 := Lib.hid (KpN.rd R3' KK)
  have R4 := Lib.hid (KpN.rd r4 KK)
  clear q r4 R1' R2' R3' KK
  go_wp2_with fail
  generalize W6.setCell ⟨w.heap.size, 8, none⟩ (.slice B4 cites.length d4) = W7 at *
  clear y8 y9 yf
  have q := Q.out
  ((with_reducible refine (HM.out W7 A5 c5 vs (H5.out.keep (fun g hg => q.bel.block g (HS.out g hg)) fun _ h => h) (H6.out.keep (fun g hg => q.bel.block g (HS.out g hg)) fun _ h => h) (fun g hg => Nat.lt_of_lt_of_le (HS.out g hg) q.bel.size)).mono ?_))
  rintro e W8 ⟨B5, d5, vs', rfl, r5, r6, p⟩
  have z := q.sz
  have r6' : ReadsS W8 (N2 w W8) 10 B5 (mergeL kids).length (vs'.flatMap Array.toList) := (ReadsS.of_own r6).keep (fun _ _ => rfl) fun g hg => ⟨Nat.le_trans z hg.1, hg.2⟩
  have r5' : RepIs W8 (N2 w W8) vs' (mergeL kids) := r5.keep (fun _ _ => rfl) fun g hg => ⟨Nat.le_trans z hg.1, hg.2⟩
  have q := q.call p
  have R1' := KpN.rd R1.out (KpN.call p)
  have R2' := KpN.rd R2.out (KpN.call p)
  have R3' := KpN.rd R3.out (KpN.call p)
  have R4' := KpN.rd R4.out (KpN.call p)
  have hlt := q.b1.lt
  clear p z Q R1 R2 R3 R4 r5 r6
  have y9 : W8.cell? ⟨w.heap.size, 9, none⟩ = some (.slice A5 kids.length c5) := q.b1.cell 9
  have yf := q.b1.frozen
  have hq9 := q.set 9 (.slice B5 (mergeL kids).length d5)
  have KK : KpN w W8 (W8.setCell ⟨w.heap.size, 9, none⟩ (.slice B5 (mergeL kids).length d5)) := KpN.set 9 _
  have hR : RepI (W8.setCell ⟨w.heap.size, 9, none⟩ (.slice B5 (mergeL kids).length d5)) (N2 w (W8.setCell ⟨w.heap.size, 9, none⟩ (.slice B5 (mergeL kids).length d5))) #[.int .i64 kind, .string text, .string dest, .string title, .string id, .slice B1 cl.length d1, .slice B2 pr.length d2, .slice B3 args.length d3, .slice B4 cites.length d4, .slice B5 (mergeL kids).length d5] (.mk kind text dest title ⟨id, cl, pr⟩ args cites (mergeL kids)) :=
    .mk kind text dest title ⟨id, cl, pr⟩ args cites (mergeL kids) B1 B2 B3 B4 B5 d1 d2 d3 d4 d5 vs' (KpN.rd R1' KK) (KpN.rd R2' KK) (KpN.rd R3' KK) (KpN.rd R4' KK) (r5'.keep (fun g hg => (KK g hg).1) fun g hg => (KK g hg).2) (KpN.rd r6' KK)
  have HQ : Hid (MgW w (W8.setCell ⟨w.heap.size, 9, none⟩ (.slice B5 (mergeL kids).length d5)) #[.int .i64 kind, .string text, .string dest, .string title, .string id, .slice B1 cl.length d1, .slice B2 pr.length d2, .slice B3 args.length d3, .slice B4 cites.length d4, .slice B5 (mergeL kids).length d5]) := Lib.hid hq9
  have HR := Lib.hid hR
  clear q r5' r6' R1' R2' R3' R4' KK hR hq9
  go_wp2_with (first | (refine wpList_load_row rfl 37 (.tmp 1) rfl w.heap.size rfl 37 #[.int .i64 kind, .string text, .string dest, .string title, .string id, .slice B1 cl.length d1, .slice B2 pr.length d2, .slice B3 args.length d3, .slice B4 cites.length d4, .slice B5 (mergeL kids).length d5] _ _ HQ.out.b1 Try.underlying37 rfl inl_size ?_) | (refine wpList_store_row rfl 37 (.tmp 2) (.tmp 19) rfl (w.heap.size + 1) #[.int .i64 kind, .string text, .string dest, .string title, .string id, .slice B1 cl.length d1, .slice B2 pr.length d2, .slice B3 args.length d3, .slice B4 cites.length d4, .slice B5 (mergeL kids).length d5] rfl rfl 37 _ HQ.out.b2 inl_size (by rfl) (by simp [Value.oneCell']) ?_))
  have HL := Lib.hid (run_loadVar_row (P := Try.prog) _ (w.heap.size + 1) 37 37 #[.int .i64 kind, .string text, .string dest, .string title, .string id, .slice B1 cl.length d1, .slice B2 pr.length d2, .slice B3 args.length d3, .slice B4 cites.length d4, .slice B5 (mergeL kids).length d5] (0, 0) _ (setRow_heap _ _ _ _ _ _ HQ.out.b2) Try.underlying37 rfl inl_size)
  have HF : Hid (MgdP (.mk kind text dest title ⟨id, cl, pr⟩ args cites kids) w (.returned (.agg #[.int .i64 kind, .string text, .string dest, .string title, .string id, .slice B1 cl.length d1, .slice B2 pr.length d2, .slice B3 args.length d3, .slice B4 cites.length d4, .slice B5 (mergeL kids).length d5])) ((W8.setCell ⟨w.heap.size, 9, none⟩ (.slice B5 (mergeL kids).length d5)).setRow (w.heap.size + 1) #[.int .i64 kind, .string text, .string dest, .string title, .string id, .slice B1 cl.length d1, .slice B2 pr.length d2, .slice B3 args.length d3, .slice B4 cites.length d4, .slice B5 (mergeL kids).length d5])) := Lib.hid ⟨_, rfl, by
    rw [HX.out]
    exact HR.out.keep (fun g hg => setRow_other _ _ _ _ (by have := hg.1; show g ≠ w.heap.size + 1; omega)) fun g hg => ⟨by have := hg.1; omega, by rw [setRow_size]; exact hg.2⟩, below_setRow HQ.out.bel (by omega) _⟩
  refine row_ret Try.results35 HL.out ?_ ?_ HF.out
  · rfl
  · rfl

end Go.Proofs.Ytfnloonmeilhlaa
namespace Go.Pub
def setTxt : InT → List UInt8 → InT
  | .mk k t d ti a ar c ks, s => .mk k ⟨s.toArray⟩ d ti a ar c ks
def catT (l : List InT) : List UInt8 := l.flatMap fun x => x.text.toList
/-- The first text that is not empty. -/
def firstT : List InT → Option InT
  | [] => none
  | x :: l => if x.text.toList = [] then firstT l else some x
def runOut (l : List InT) : List InT := match firstT l with
  | none => []
  | some x => [setTxt x (catT l)]
theorem ofList_toList (t : ByteArray) : (⟨t.toList.toArray⟩ : ByteArray) = t := by
  rw [Lib.toList_data]
theorem toList_ofList (s : List UInt8) : (⟨s.toArray⟩ : ByteArray).toList = s := by
  rw [Lib.toList_data]
theorem setTxt_self (x : InT) : setTxt x x.text.toList = x := by
  obtain ⟨k, t, d, ti, a, ar, c, ks⟩ := x
  show InT.mk k ⟨t.toList.toArray⟩ d ti a ar c ks = _
  rw [ofList_toList]
theorem firstT_none : ∀ (l : List InT), firstT l = none → catT l = []
  | [], _ => rfl
  | x :: l, h => by
    unfold firstT at h
    by_cases hx : x.text.toList = []
    · rw [if_pos hx] at h
      show x.text.toList ++ catT l = []
      rw [hx, firstT_none l h]; rfl
    · rw [if_neg hx] at h; cases h
theorem firstT_mem : ∀ (l : List InT) (x : InT), firstT l = some x → x ∈ l ∧ x.text.toList ≠ []
  | [], x, h => by cases h
  | y :: l, x, h => by
    unfold firstT at h
    by_cases hx : y.text.toList = []
    · rw [if_pos hx] at h
      obtain ⟨h1, h2⟩ := firstT_mem l x h
      exact ⟨List.mem_cons_of_mem _ h1, h2⟩
    · rw [if_neg hx] at h
      injection h with h
      subst h
      exact ⟨by simp, hx⟩
theorem setTxt_kind (x : InT) (s : List UInt8) : (setTxt x s).kind = x.kind := by obtain ⟨k, t, d, ti, a, ar, c, ks⟩ := x; rfl
theorem setTxt_text (x : InT) (s : List UInt8) : (setTxt x s).text.toList = s := by
  obtain ⟨k, t, d, ti, a, ar, c, ks⟩ := x
  exact toList_ofList s
/-- What is not a text begins a new part. -/
def NoTxt (l : List InT) : Prop := ∀ x r, l = x :: r → x.kind ≠ 1
theorem joinT_cons (x : InT) (l : List InT) : joinT (x :: l) = if x.kind ≠ 1 then x :: joinT l else if x.text.toList = [] then joinT l else match joinT l with
    | [] => [x]
    | y :: r => if y.kind = 1 then setTxt x (x.text.toList ++ y.text.toList) :: r else x :: y :: r := by
  obtain ⟨k, t, d, ti, a, ar, c, ks⟩ := x
  rw [joinT.eq_def]
  dsimp only
  split
  · rfl
  · split
    · rfl
    · cases joinT l <;> rfl
theorem joinT_no {x : InT} {l : List InT} (h : x.kind ≠ 1) : joinT (x :: l) = x :: joinT l := by
  rw [joinT_cons, if_pos h]
theorem joinT_empty {x : InT} {l : List InT} (h : x.kind = 1) (h2 : x.text.toList = []) : joinT (x :: l) = joinT l := by
  rw [joinT_cons, if_neg (by simp [h]), if_pos h2]
theorem joinT_txt0 {x : InT} {l : List InT} (h : x.kind = 1) (h2 : x.text.toList ≠ []) (h3 : NoTxt (joinT l)) : joinT (x :: l) = x :: joinT l := by
  rw [joinT_cons, if_neg (by simp [h]), if_neg h2]
  cases hj : joinT l with
  | nil => rfl
  | cons y r =>
    have := h3 y r hj
    simp only [if_neg this]
theorem joinT_txt1 {x y : InT} {l r : List InT} (h : x.kind = 1) (h2 : x.text.toList ≠ []) (h3 : joinT l = y :: r) (h4 : y.kind = 1) : joinT (x :: l) = setTxt x (x.text.toList ++ y.text.toList) :: r := by
  rw [joinT_cons, if_neg (by simp [h]), if_neg h2, h3]
  simp only [if_pos h4]
theorem NoTxt.join {l : List InT} (h : NoTxt l) : NoTxt (joinT l) := by
  cases l with
  | nil => intro x r e; cases e
  | cons y l =>
    have hy := h y l rfl
    rw [joinT_no hy]
    intro x r e
    injection e with e1 e2
    rw [← e1]; exact hy
/-- A run of texts is one text, or none. -/
theorem joinT_run : ∀ (ts rest : List InT), (∀ x ∈ ts, x.kind = 1) → NoTxt rest → joinT (ts ++ rest) = runOut ts ++ joinT rest
  | [], rest, _, _ => rfl
  | x :: ts, rest, h, hr => by
    have hx := h x (by simp)
    have ih := joinT_run ts rest (fun y hy => h y (List.mem_cons_of_mem _ hy)) hr
    rw [List.cons_append]
    by_cases he : x.text.toList = []
    · rw [joinT_empty hx he, ih]
      congr 1
      unfold runOut
      rw [show firstT (x :: ts) = firstT ts by rw [firstT, if_pos he], show catT (x :: ts) = catT ts by show x.text.toList ++ catT ts = _; rw [he]; rfl]
    · have hf : firstT (x :: ts) = some x := by rw [firstT, if_neg he]
      have ho : runOut (x :: ts) = [setTxt x (x.text.toList ++ catT ts)] := by unfold runOut; rw [hf]; rfl
      rw [ho]
      cases hz : firstT ts with
      | none =>
        have hc := firstT_none ts hz
        have hro : runOut ts = [] := by unfold runOut; rw [hz]
        rw [hro, List.nil_append] at ih
        rw [joinT_txt0 hx he (by rw [ih]; exact hr.join), ih, hc, List.append_nil, setTxt_self]
        rfl
      | some z =>
        obtain ⟨hz1, -⟩ := firstT_mem ts z hz
        have hro : runOut ts = [setTxt z (catT ts)] := by unfold runOut; rw [hz]
        rw [hro] at ih
        rw [joinT_txt1 hx he ih (by rw [setTxt_kind]; exact h z (List.mem_cons_of_mem _ hz1)), setTxt_text]
        rfl
theorem mergeI_kind (x : InT) : (mergeI x).kind = x.kind ∧ (mergeI x).text = x.text := by
  obtain ⟨k, t, d, ti, a, ar, c, ks⟩ := x
  rw [mergeI]
  exact ⟨rfl, rfl⟩
theorem mapI_eq : ∀ (l : List InT), mapI l = l.map mergeI
  | [] => by rw [mapI]; rfl
  | x :: l => by rw [mapI, mapI_eq l]; rfl
theorem catT_map (l : List InT) : catT (l.map mergeI) = catT l := by
  unfold catT
  rw [List.flatMap_map]
  congr 1
  funext x
  show (mergeI x).text.toList = x.text.toList
  rw [(mergeI_kind x).2]
theorem firstT_map : ∀ (l : List InT), firstT (l.map mergeI) = (firstT l).map mergeI
  | [] => rfl
  | x :: l => by
    rw [List.map_cons, firstT, (mergeI_kind x).2, firstT_map l, firstT]
    split <;> rfl
theorem mergeL_no {x : InT} {l : List InT} (h : x.kind ≠ 1) : mergeL (x :: l) = mergeI x :: mergeL l := by
  unfold mergeL
  rw [mapI, joinT_no (by rw [(mergeI_kind x).1]; exact h)]
theorem mergeL_run {ts rest : List InT} (h : ∀ x ∈ ts, x.kind = 1) (hr : NoTxt rest) : mergeL (ts ++ rest) = (match firstT ts with | none => [] | some x => [setTxt (mergeI x) (catT ts)]) ++ mergeL rest := by
  unfold mergeL
  rw [mapI_eq, mapI_eq, List.map_append, joinT_run (ts.map mergeI) (rest.map mergeI) (fun y hy => by
    obtain ⟨x, hx, rfl⟩ := List.mem_map.1 hy
    rw [(mergeI_kind x).1]; exact h x hx) (fun y r e => by
    cases rest with
    | nil => cases e
    | cons z rest =>
      injection e with e1 e2
      rw [← e1, (mergeI_kind z).1]; exact hr z rest rfl)]
  congr 1
  unfold runOut
  rw [firstT_map, catT_map]
  cases firstT ts <;> rfl
theorem firstT_snoc (x : InT) : ∀ (l : List InT), firstT (l ++ [x]) = match firstT l with
    | some y => some y
    | none => if x.text.toList = [] then none else some x
  | [] => by
    show firstT [x] = _
    rw [firstT]; rfl
  | y :: l => by
    rw [List.cons_append, firstT, firstT_snoc x l, firstT]
    by_cases h : y.text.toList = []
    · rw [if_pos h, if_pos h]
    · rw [if_neg h, if_neg h]
theorem catT_snoc (x : InT) (l : List InT) : catT (l ++ [x]) = catT l ++ x.text.toList := by
  unfold catT; rw [List.flatMap_append]; simp
/-- The elements from i up to j. -/
def segL (l : List InT) (i j : Nat) : List InT := (l.drop i).take (j - i)
theorem segL_snoc {l : List InT} {i j : Nat} (hij : i ≤ j) (h : j < l.length) : segL l i (j + 1) = segL l i j ++ [l[j]] := by
  unfold segL
  have h1 : j - i < (l.drop i).length := by rw [List.length_drop]; omega
  rw [show j + 1 - i = (j - i) + 1 by omega, List.take_succ_eq_append_getElem h1, List.getElem_drop]
  congr 3
  omega
theorem segL_nil (l : List InT) (i : Nat) : segL l i i = [] := by unfold segL; rw [Nat.sub_self, List.take_zero]
theorem segL_mem {l : List InT} {i j : Nat} {x : InT} (hj : j ≤ l.length) (h : x ∈ segL l i j) : ∃ (q : Nat) (hq : q < l.length), i ≤ q ∧ q < j ∧ x = l[q] := by
  unfold segL at h
  obtain ⟨k, hk, e⟩ := List.mem_iff_getElem.1 h
  rw [List.length_take, List.length_drop] at hk
  refine ⟨i + k, by omega, by omega, by omega, ?_⟩
  rw [← e, List.getElem_take, List.getElem_drop]
theorem seg_end {l : List InT} {i j : Nat} (hij : i ≤ j) (hj : j ≤ l.length) (hk : ∀ (q : Nat) (hq : q < l.length), i ≤ q → q < j → l[q].kind = 1) (he : ∀ (h : j < l.length), l[j].kind ≠ 1) :
    mergeL (l.drop i) = (match firstT (segL l i j) with | none => [] | some x => [setTxt (mergeI x) (catT (segL l i j))]) ++ mergeL (l.drop j) := by
  have hs : l.drop i = segL l i j ++ l.drop j := by
    unfold segL
    conv => lhs; rw [← List.take_append_drop (j - i) (l.drop i)]
    rw [List.drop_drop, show i + (j - i) = j by omega]
  rw [hs]
  refine mergeL_run (fun x hx => ?_) fun x r e => ?_
  · obtain ⟨q, hq, h1, h2, rfl⟩ := segL_mem hj hx
    exact hk q hq h1 h2
  · have hlt : j < l.length := by
      rcases Nat.lt_or_ge j l.length with h | h
      · exact h
      · rw [List.drop_eq_nil_of_le h] at e; cases e
    rw [List.drop_eq_getElem_cons hlt] at e
    injection e with e1 e2
    rw [← e1]; exact he hlt
end Go.Pub
namespace Go.Proofs.Ytfnloonmeilhlaa
open Go.RowKit Go.Pub
theorem wpList_inSlice {ops : Array Oper} {rest : List Oper} {o : Oper} {a : Act} {w : World} {Q : Exit → Act → World → Prop} (hgd : o.guard = none) (x : Operand) (ho : o.op = .buildSlice 26 1 #[(0, x)])
    (x0 x1 x2 x3 x4 x5 x6 x7 x8 x9 : Value) (hx : a.eval x = .agg #[x0, x1, x2, x3, x4, x5, x6, x7, x8, x9])
    (h : wpList Try.prog ops Q rest (a.put o.dst (.slice (some ⟨w.heap.size, 0, none⟩) 1 1)) (w.alloc (.cells #[x0, x1, x2, x3, x4, x5, x6, x7, x8, x9] 37))) : wpList Try.prog ops Q (o :: rest) a w := by
  obtain ⟨i0, hi0, hz0, hz1, hz2⟩ := info_parts inl_info
  refine wpList_buildSlice hgd 26 37 1 _ ho _ i0 _ Try.underlying26 hi0 hz0 (by rw [hz1]; decide) (by rw [hz1]; decide) ?_ h
  rw [hz1]
  have e : (#[((0 : Nat), x)].map fun (q : Nat × Operand) => (q.1, a.eval q.2)).toList = [(0, a.eval x)] := by simp
  rw [hx] at e
  show Instr.fill _ _ (#[((0 : Nat), x)].map fun (q : Nat × Operand) => (q.1, a.eval q.2)).toList = _
  rw [e]
  exact inl_fill x0 x1 x2 x3 x4 x5 x6 x7 x8 x9
/-- What is done of a list lies in a row of the call's own, none of what it reads in that row. -/
structure MrW (w : World) (l done : List InT) (i : Nat) (v : Value) (wr : World) : Prop where
  eq : mergeL l = done ++ mergeL (l.drop i)
  row : ∃ (S : Nat → Prop) (vs : List (Array Value)), (∀ g, S g → NewG w wr g ∧ v.ownBlock ≠ some g) ∧ RepIs wr S vs done ∧ wr.ownsRow w.heap.size 37 10 v done.length (vs.flatMap Array.toList)
  bel : Below w.heap.size w wr
section
variable {w wr W W7 : World} {l done : List InT} {i : Nat} {v : Value}
theorem MrW.start (w : World) (l : List InT) : MrW w l [] 0 (.slice none 0 0) w :=
  ⟨rfl, ⟨fun _ => False, [], fun _ h => h.elim, .nil, World.ownsRow_nil _ _ _ _⟩, Below.refl _ _⟩
theorem MrW.call (h : MrW w l done i v wr) (hb : Below wr.heap.size wr W) : MrW w l done i v W := by
  obtain ⟨S, vs, h1, h2, h3⟩ := h.row
  exact ⟨h.eq, ⟨S, vs, fun g hg => ⟨⟨(h1 g hg).1.1, Nat.lt_of_lt_of_le (h1 g hg).1.2 hb.size⟩, (h1 g hg).2⟩, h2.keep (fun g hg => hb.block g (h1 g hg).1.2) fun _ h => h, own_below h3 hb⟩, h.bel.trans (hb.mono h.bel.size)⟩
/-- An inline more. -/
theorem MrW.push {j g cap H : Nat} {x : InT} {u : Array Value} {o : Obj} {S2 S : Nat → Prop} {vs : List (Array Value)} (h : MrW w l done i v wr) (h1 : ∀ g, S g → NewG w wr g ∧ v.ownBlock ≠ some g) (h2 : RepIs wr S vs done) (h3 : wr.ownsRow w.heap.size 37 10 v done.length (vs.flatMap Array.toList)) (hb : Below wr.heap.size wr W) (hx : RepI W S2 u x) (hS2 : ∀ g, S2 g → wr.heap.size ≤ g ∧ g < W.heap.size)
    (hown : W7.ownsRow w.heap.size 37 10 (.slice (some ⟨g, 0, none⟩) (done.length + 1) cap) (done.length + 1) (vs.flatMap Array.toList ++ u.toList))
    (hgrow : (W.alloc o).grownBy W7 v.ownBlock) (hlies : v.ownBlock = some g ∨ g = H) (hH : W.heap.size ≤ H) (he : mergeL (l.drop i) = x :: mergeL (l.drop j)) :
    MrW w l (done ++ [x]) j (.slice (some ⟨g, 0, none⟩) (done.length + 1) cap) W7 := by
  have hlt := h3.lt
  have hzb := h.bel.size
  have hzW := hb.size
  have hz7 := hgrow.size
  rw [World.size_alloc] at hz7
  have hk : ∀ k, k < W.heap.size → v.ownBlock ≠ some k → W7.heap[k]? = W.heap[k]? := fun k hk hne => (hgrow.block k (by rw [World.size_alloc]; omega) fun e => hne e.symm).trans (Below.heap_alloc W o k hk)
  refine ⟨by rw [h.eq, he]; simp, ⟨fun k => S k ∨ S2 k, vs ++ [u], fun k hk => ?_, ?_, ?_⟩, ?_⟩
  · rcases hk with hk | hk
    · obtain ⟨⟨a1, a2⟩, a3⟩ := h1 k hk
      refine ⟨⟨a1, by omega⟩, fun e => ?_⟩
      have e' : g = k := by simpa [Value.ownBlock] using e
      subst e'
      rcases hlies with hl | hl
      · exact a3 hl
      · omega
    · obtain ⟨a1, a2⟩ := hS2 k hk
      refine ⟨⟨by omega, by omega⟩, fun e => ?_⟩
      have e' : g = k := by simpa [Value.ownBlock] using e
      subst e'
      rcases hlies with hl | hl
      · have := (hlt g hl).2; omega
      · omega
  · refine RepIs.snoc (h2.keep (fun k hk' => ?_) fun _ h => Or.inl h) (hx.keep (fun k hk' => ?_) fun _ h => Or.inr h)
    · obtain ⟨⟨a1, a2⟩, a3⟩ := h1 k hk'
      exact (hk k (by omega) a3).trans (hb.block k a2)
    · obtain ⟨a1, a2⟩ := hS2 k hk'
      exact hk k a2 fun e => by have := (hlt k e).2; omega
  · rw [List.length_append, List.length_singleton, List.flatMap_append, List.flatMap_singleton]
    exact hown
  · refine ⟨hgrow.os.trans (hb.os.trans h.bel.os), hgrow.tape.trans (hb.tape.trans h.bel.tape), hgrow.output.trans (hb.output.trans h.bel.output), by omega, fun k hk' => ?_⟩
    exact (hk k (by omega) fun e => by have := (hlt k e).1; omega).trans ((hb.block k (by omega)).trans (h.bel.block k hk'))
/-- Nothing more: the rest gives nothing. -/
theorem MrW.skip {j : Nat} (h : MrW w l done i v wr) (he : mergeL (l.drop i) = mergeL (l.drop j)) : MrW w l done j v wr := ⟨by rw [h.eq, he], h.row, h.bel⟩
end
end Go.Proofs.Ytfnloonmeilhlaa
