/-
  Texts of the proof, put together (what this law reaches): EmM.
-/
import Derived.Test.YtfnloonmeilhlaaGreatDoorT12
import Derived.Test.YtfnloonmeilhlaaGreatDoorT13
set_option linter.unusedVariables false
set_option linter.unusedSimpArgs false
namespace Go.Pub
theorem repL_eq (c : ByteArray) : ∀ n, Lib.repeatL c.data.toList n = repB c n
  | 0 => rfl
  | n + 1 => by
    show c.data.toList ++ Lib.repeatL c.data.toList n = _
    rw [repL_eq c n]
    show _ = c.toList ++ repB c n
    rw [Lib.toList_data]
end Go.Pub
namespace Go.Proofs.YtfnloonmeilhlaaGreatDoor
open Go.RowKit Go.Pub
set_option maxRecDepth 100000 in
theorem inl_info : (Tryz.prog.info? 32).map (fun i => (i.zero, i.size, i.bytes)) = some (some (.agg #[.int .i64 0, .string ⟨#[]⟩, .string ⟨#[]⟩, .string ⟨#[]⟩, .string ⟨#[]⟩, .slice none 0 0, .slice none 0 0, .slice none 0 0, .slice none 0 0, .slice none 0 0]), 10, 192) := by kernel_rfl

theorem inl_size : (Tryz.prog.info? 32).map (·.size) = some 10 := by
  obtain ⟨i0, hi0, hz0, hz1, hz2⟩ := info_parts inl_info
  rw [hi0]; show some i0.size = _; rw [hz1]
set_option maxRecDepth 100000 in
theorem inl_fill (x0 x1 x2 x3 x4 x5 x6 x7 x8 x9 : Value) : Instr.fill (fun i => some (i * 10, 10)) ((Array.range (1 * 10)).map ((Value.agg #[.int .i64 0, .string ⟨#[]⟩, .string ⟨#[]⟩, .string ⟨#[]⟩, .string ⟨#[]⟩, .slice none 0 0, .slice none 0 0, .slice none 0 0, .slice none 0 0, .slice none 0 0]).cells[· % (Value.agg #[.int .i64 0, .string ⟨#[]⟩, .string ⟨#[]⟩, .string ⟨#[]⟩, .string ⟨#[]⟩, .slice none 0 0, .slice none 0 0, .slice none 0 0, .slice none 0 0, .slice none 0 0]).cells.size]!)) [(0, .agg #[x0, x1, x2, x3, x4, x5, x6, x7, x8, x9])] = some #[x0, x1, x2, x3, x4, x5, x6, x7, x8, x9] := by kernel_rfl

/-- A slice of one inline is laid. -/
theorem step_inSlice {ops : Array Oper} {o : Oper} {a : Act} {w : World} {K : Act → World → Prop} {Q : Exit → Act → World → Prop} {E : Prop} (hgd : o.guard = none) (x : Operand) (ho : o.op = .buildSlice 30 1 #[(0, x)])
    (x0 x1 x2 x3 x4 x5 x6 x7 x8 x9 : Value) (hx : a.eval x = .agg #[x0, x1, x2, x3, x4, x5, x6, x7, x8, x9])
    (h : K (a.put o.dst (.slice (some ⟨w.heap.size, 0, none⟩) 1 1)) (w.alloc (.cells #[x0, x1, x2, x3, x4, x5, x6, x7, x8, x9] 32))) :
    if Region.wanted o (yielded ops a.tmps) = true then Oper.wp Tryz.prog o a w K Q else E := by
  have hw : Region.wanted o (yielded ops a.tmps) = true := by simp [Region.wanted, hgd]
  rw [if_pos hw]
  obtain ⟨i0, hi0, hz0, hz1, hz2⟩ := info_parts inl_info
  refine wp_buildSlice 30 32 1 _ ho _ i0 _ Tryz.underlying30 hi0 hz0 (by rw [hz1]; decide) (by rw [hz1]; decide) ?_ h
  rw [hz1]
  have e : (#[((0 : Nat), x)].map fun (q : Nat × Operand) => (q.1, a.eval q.2)).toList = [(0, a.eval x)] := by simp
  rw [hx] at e
  show Instr.fill _ _ (#[((0 : Nat), x)].map fun (q : Nat × Operand) => (q.1, a.eval q.2)).toList = _
  rw [e]
  exact inl_fill x0 x1 x2 x3 x4 x5 x6 x7 x8 x9
/-- What the closure leaves. -/
def Bet1Post (B sb ob n : Nat) (S : Nat → Prop) (xs : List Value) (t : InT) (w : World) (e : Ending) (w' : World) : Prop :=
  ∃ g cap v, e = .returned (.tuple #[]) ∧ RepI w' S v t ∧ Blk w' ob 30 #[.slice (some ⟨g, 0, none⟩) (n + 1) cap] ∧ w'.ownsRow B 32 10 (.slice (some ⟨g, 0, none⟩) (n + 1) cap) (n + 1) (xs ++ v.toList) ∧ Below B w w' ∧ w'.heap[sb]? = w.heap[sb]?
/-- What the closure leaves, whichever of its two stores comes first. -/
theorem bet1_end {B sb ob n g2 cap2 : Nat} {S : Nat → Prop} {xs zs : List Value} {v : Value} {t : InT} {w W3 w2 : World} {u : Array Value} {cs : Array Value} {x : Obj} (hu : u.toList.length = 10) (hob : Blk w ob 30 #[v]) (hsb : Blk w sb 47 cs) (hso : sb ≠ ob) (hBs : B ≤ sb) (hBo : B ≤ ob) (hSB : ∀ g, S g → g < B)
    (hBw : B ≤ w.heap.size) (hown0 : w.ownsRow B 32 10 v n xs) (q1 : Below w.heap.size w W3) (q3 : RepI W3 S u t) (hown : w2.ownsRow B 32 10 (.slice (some ⟨g2, 0, none⟩) (n + 1) cap2) (n + 1) (xs ++ zs)) (hz : zs.length = 10) (hgrow : (W3.drew.alloc x).grownBy w2 v.ownBlock) :
    Blk w2 ob 30 #[v] ∧ g2 ≠ ob ∧ w2.there g2 (n * 10) 10 ∧ w2.heap[w.heap.size]? = (W3.drew.alloc x).heap[w.heap.size]? ∧ ∀ W5, (W5 = (w2.setCells g2 (n * 10) u.toList).setCell ⟨ob, 0, none⟩ (.slice (some ⟨g2, 0, none⟩) (n + 1) cap2) ∨ W5 = (w2.setCell ⟨ob, 0, none⟩ (.slice (some ⟨g2, 0, none⟩) (n + 1) cap2)).setCells g2 (n * 10) u.toList) → Bet1Post B sb ob n S xs t w (.returned (.tuple #[])) W5 := by
  have hxl : xs.length = n * 10 := hown0.1
  have hal : Below w.heap.size w (W3.drew.alloc x) := (q1.drew).alloc (by have := q1.size; show w.heap.size ≤ W3.heap.size; omega) x
  have hlt := hown0.lt
  have hvo : v.ownBlock ≠ some ob := own_blk hown0 hob (by decide)
  have hvs : v.ownBlock ≠ some sb := own_blk hown0 hsb (by decide)
  have hb2 : ∀ k, k < w.heap.size → v.ownBlock ≠ some k → w2.heap[k]? = w.heap[k]? := fun k hk hne => (hgrow.block k (by have := hal.size; omega) (fun e => hne e.symm)).trans (hal.block k hk)
  have hob2 : Blk w2 ob 30 #[v] := (hb2 ob hob.lt hvo).trans hob
  have hsb2 : Blk w2 sb 47 cs := (hb2 sb hsb.lt hvs).trans hsb
  have hgo : g2 ≠ ob := fun e => own_blk hown hob2 (by decide) (by rw [e]; rfl)
  have hgs : g2 ≠ sb := fun e => own_blk hown hsb2 (by decide) (by rw [e]; rfl)
  have hBg : B ≤ g2 := (hown.lt g2 rfl).1
  have hth : w2.there g2 (n * 10) 10 := fun j hj => by
    refine ⟨?_, hown.frozenAt _⟩
    rw [hown.cellAt _ (by omega), List.getElem?_eq_getElem (by rw [List.length_append]; omega)]
    rfl
  have hBel2 : Below B w w2 := ⟨hgrow.os.trans hal.os, hgrow.tape.trans hal.tape, hgrow.output.trans hal.output, by have := hgrow.size; have := hal.size; omega, fun k hk => hb2 k (by omega) (fun e => by have := (hlt k e).1; omega)⟩
  refine ⟨hob2, hgo, hth, hgrow.block w.heap.size (by rw [World.size_alloc]; have := q1.size; show w.heap.size < W3.heap.size + 1; omega) (fun e => by have := (hlt _ e.symm).2; omega), fun W5 hW => ?_⟩
  have hq3 : ∀ W5 : World, Below B w W5 → RepI W5 S u t := fun W5 hb => q3.keep (fun g hg => (hb.block g (hSB g hg)).trans (q1.block g (by have := hSB g hg; omega)).symm) fun _ h => h
  have hset : ∀ (W : World), W.ownsRow B 32 10 (.slice (some ⟨g2, 0, none⟩) (n + 1) cap2) (n + 1) (xs ++ zs) → (W.setCells g2 (n * 10) u.toList).ownsRow B 32 10 (.slice (some ⟨g2, 0, none⟩) (n + 1) cap2) (n + 1) (xs ++ u.toList) := fun W h => by
    have := own_setCells u.toList (n * 10) _ _ h
    rwa [show setL (xs ++ zs) (n * 10) u.toList = xs ++ u.toList by rw [← hxl]; exact setL_app _ _ _ (by omega)] at this
  have hst : ∀ (W : World), Blk W ob 30 #[v] → W.ownsRow B 32 10 (.slice (some ⟨g2, 0, none⟩) (n + 1) cap2) (n + 1) (xs ++ u.toList) ∨ W.ownsRow B 32 10 (.slice (some ⟨g2, 0, none⟩) (n + 1) cap2) (n + 1) (xs ++ zs) → True := fun _ _ _ => trivial
  have hk1 : ∀ (W : World) (ys : List Value), W.ownsRow B 32 10 (.slice (some ⟨g2, 0, none⟩) (n + 1) cap2) (n + 1) ys → (W.setCell ⟨ob, 0, none⟩ (.slice (some ⟨g2, 0, none⟩) (n + 1) cap2)).ownsRow B 32 10 (.slice (some ⟨g2, 0, none⟩) (n + 1) cap2) (n + 1) ys := fun W ys h =>
    h.kept (row := some ob) ⟨rfl, rfl, rfl, by simp [World.setCell], fun k _ hk => Below.heap_setCell W ⟨ob, 0, none⟩ _ k (fun e => hk (by rw [e]))⟩ (.inr (fun e => hgo (by simpa [Value.ownBlock] using e)))
  rcases hW with rfl | rfl
  · have hb5 : Below B w ((w2.setCells g2 (n * 10) u.toList).setCell ⟨ob, 0, none⟩ (.slice (some ⟨g2, 0, none⟩) (n + 1) cap2)) := (below_setCells g2 hBg _ _ _ hBel2).setCell (p := ⟨ob, 0, none⟩) hBo _
    refine ⟨g2, cap2, u, rfl, hq3 _ hb5, ?_, hk1 _ _ (hset _ hown), hb5, ?_⟩
    · exact Blk.set_ ((heap_setCells g2 ob (Ne.symm hgo) _ _ _).trans hob2) 0 _
    · exact (Below.heap_setCell _ ⟨ob, 0, none⟩ _ sb hso).trans ((heap_setCells g2 sb (Ne.symm hgs) _ _ _).trans (hb2 sb hsb.lt hvs))
  · have hb5 : Below B w ((w2.setCell ⟨ob, 0, none⟩ (.slice (some ⟨g2, 0, none⟩) (n + 1) cap2)).setCells g2 (n * 10) u.toList) := below_setCells g2 hBg _ _ _ (hBel2.setCell (p := ⟨ob, 0, none⟩) hBo _)
    refine ⟨g2, cap2, u, rfl, hq3 _ hb5, ?_, hset _ (hk1 _ _ hown), hb5, ?_⟩
    · exact (heap_setCells g2 ob (Ne.symm hgo) _ _ _).trans (Blk.set_ hob2 0 _)
    · exact (heap_setCells g2 sb (Ne.symm hgs) _ _ _).trans ((Below.heap_setCell _ ⟨ob, 0, none⟩ _ sb hso).trans (hb2 sb hsb.lt hvs))
theorem step_store_mid {ops : Array Oper} {o : Oper} {a : Act} {w : World} {K : Act → World → Prop} {Q : Exit → Act → World → Prop} {E : Prop} (hgd : o.guard = none) (ty : TypeId) (x y : Operand) (ho : o.op = .store ty x y)
    (b f : Nat) (cells : Array Value) (hx : a.eval x = .pointer (some ⟨b, f, none⟩)) (hy : a.eval y = .agg cells) (ht : w.there b f cells.size) (hi : (Tryz.prog.info? ty).map (·.size) = some cells.size) (h1 : cells.all (·.oneCell') = true)
    (h : K (a.put o.dst undef) (w.setCells b f cells.toList)) : if Region.wanted o (yielded ops a.tmps) = true then Oper.wp Tryz.prog o a w K Q else E := by
  have hw : Region.wanted o (yielded ops a.tmps) = true := by simp [Region.wanted, hgd]
  rw [if_pos hw]
  exact wp_store_mid ty x y ho b f cells hx hy ht hi h1 h
set_option maxRecDepth 100000 in
set_option maxHeartbeats 4000000 in
theorem e_bet1 {B sb ob p n : Nat} {S : Nat → Prop} {L v : Value} {ps : List PcT} {xs : List Value} (w : World) (hL : PcsR w S L ps) (hSB : ∀ g, S g → g < B) (hp : p < B) (c0 : w.cell? ⟨p, 0, none⟩ = some L)
    (hsb : Blk w sb 47 #[.pointer (some ⟨p, 0, none⟩)]) (hob : Blk w ob 30 #[v]) (hBs : B ≤ sb) (hBo : B ≤ ob) (hown : w.ownsRow B 32 10 v n xs) (hn : n ≤ 1000000)
    (x0 x1 x2 x3 x4 x5 x6 x7 x8 x9 : Value) (e : ElL) (hr : RepI w S #[x0, x1, x2, x3, x4, x5, x6, x7, x8, x9] e.t) (hrun : e.run = true → e.pc < ps.length ∧ (pcX ps e.pc).ch.size * e.left ≤ 1000000 ∧ e.left ≤ 1000000) :
    Calls Tryz.prog 25 #[.agg #[x0, x1, x2, x3, x4, x5, x6, x7, x8, x9, .bool e.run, .int .i64 e.pc, .int .i64 e.left, .int .i64 e.before, .int .i64 e.next], .pointer (some ⟨sb, 0, none⟩), .pointer (some ⟨ob, 0, none⟩)] w (Bet1Post B sb ob n S xs (toI ps e) w) := by
  have hBw : B ≤ w.heap.size := by have := hsb.lt; omega
  have hso : sb ≠ ob := fun h => by
    subst h
    unfold Blk at hsb hob
    rw [hsb] at hob
    injection hob with hob
    injection hob with _ ht
    exact absurd ht (by decide)
  have s1 : w.cell? ⟨sb, 0, none⟩ = some (.pointer (some ⟨p, 0, none⟩)) := hsb.cell 0
  have HK : Hid (∀ W' x0' x1' x2' x3' x4' x5' x6' x7' x8' x9', Below w.heap.size w W' → W'.rangeAt w.heap.size 0 [x0', x1', x2', x3', x4', x5', x6', x7', x8', x9'] → RepI W' S #[x0', x1', x2', x3', x4', x5', x6', x7', x8', x9'] (toI ps e) → True) := Lib.hid fun _ _ _ _ _ _ _ _ _ _ _ _ _ _ => trivial
  have hz1 := hsb.lt
  have hz2 := hob.lt
  have HO := Lib.hid hob
  have HS := Lib.hid hsb
  have HW := Lib.hid hown
  have HR := Lib.hid hr
  have H10 := Lib.hid hr.one
  clear hsb hob hown hr HK
  obtain ⟨t, run, pc, left, bfr, nxt⟩ := e
  cases run
  have HT : Hid (toI ps ⟨t, false, pc, left, bfr, nxt⟩ = t) := Lib.hid (by unfold toI; rw [if_neg (by simp)])
  generalize toI ps ⟨t, false, pc, left, bfr, nxt⟩ = R at *
  clear hrun
  go_enter Tryz.func25, Tryz.ntmps25
  go_wp2_with fail
  have HX : ∃ u0 u1 u2 u3 u4 u5 u6 u7 u8 u9, Hid (Below w.heap.size w (w.alloc (.cells #[x0, x1, x2, x3, x4, x5, x6, x7, x8, x9, .bool false, .int .i64 pc, .int .i64 left, .int .i64 bfr, .int .i64 nxt] 67)) ∧ (w.alloc (.cells #[x0, x1, x2, x3, x4, x5, x6, x7, x8, x9, .bool false, .int .i64 pc, .int .i64 left, .int .i64 bfr, .int .i64 nxt] 67)).rangeAt w.heap.size 0 [u0, u1, u2, u3, u4, u5, u6, u7, u8, u9] ∧ RepI (w.alloc (.cells #[x0, x1, x2, x3, x4, x5, x6, x7, x8, x9, .bool false, .int .i64 pc, .int .i64 left, .int .i64 bfr, .int .i64 nxt] 67)) S #[u0, u1, u2, u3, u4, u5, u6, u7, u8, u9] R ∧ w.heap.size < (w.alloc (.cells #[x0, x1, x2, x3, x4, x5, x6, x7, x8, x9, .bool false, .int .i64 pc, .int .i64 left, .int .i64 bfr, .int .i64 nxt] 67)).heap.size) := by
    have hb : Below w.heap.size w (w.alloc (.cells #[x0, x1, x2, x3, x4, x5, x6, x7, x8, x9, .bool false, .int .i64 pc, .int .i64 left, .int .i64 bfr, .int .i64 nxt] 67)) := (Below.refl _ w).alloc (Nat.le_refl _) _
    have hk := Blk.new w 67 #[x0, x1, x2, x3, x4, x5, x6, x7, x8, x9, .bool false, .int .i64 pc, .int .i64 left, .int .i64 bfr, .int .i64 nxt]
    refine ⟨x0, x1, x2, x3, x4, x5, x6, x7, x8, x9, Lib.hid ⟨hb, fun j u hj => ?_, ?_, by simp⟩⟩
    · have hj10 := (List.getElem?_eq_some_iff.1 hj).1
      simp only [List.length_cons, List.length_nil] at hj10
      rw [Nat.zero_add, hk.cell j, ← hj, ← Array.getElem?_toList]
      exact (List.getElem?_append_left (l₁ := [x0, x1, x2, x3, x4, x5, x6, x7, x8, x9]) (l₂ := [.bool false, .int .i64 pc, .int .i64 left, .int .i64 bfr, .int .i64 nxt]) (by simpa using hj10))
    · rw [HT.out]
      exact HR.out.keep (fun g hg => hb.block g (by have := hSB g hg; omega)) fun _ h => h
  generalize w.alloc (.cells #[x0, x1, x2, x3, x4, x5, x6, x7, x8, x9, .bool false, .int .i64 pc, .int .i64 left, .int .i64 bfr, .int .i64 nxt] 67) = W3 at *
  clear s1 c0 hL
  rotate_left
  obtain ⟨hpcl, hsz, hlf⟩ := hrun (by simp)
  try dsimp only at hpcl hsz hlf
  obtain ⟨bb, off, cl, rfl, hSb, hpc⟩ := hL.opn (by omega)
  obtain ⟨y0, y1, y2, y3, y4, y5, y6, y7, y8, y9, -, hrg, -⟩ := hpc pc hpcl
  have hch : w.cell? ⟨bb, off + pc * 18 + 11, none⟩ = some (.string (pcX ps pc).ch) := hrg 11 _ rfl
  have hbl : bb < w.heap.size := by have := hSB bb hSb; omega
  have hpw : p < w.heap.size := by omega
  have hpi : (pc : Int) < (ps.length : Int) := by omega
  have hp0 : (0 : Int) ≤ (pc : Int) := by omega
  have HREP := Lib.hid fun W => Tryz.strings_Repeat (pcX ps pc).ch left W (by omega) (by omega)
  have HT : Hid (toI ps ⟨t, true, pc, left, bfr, nxt⟩ = txtT 1 ⟨(Lib.repeatL (pcX ps pc).ch.data.toList left).toArray⟩) := Lib.hid (by unfold toI; rw [if_pos rfl, repL_eq])
  generalize toI ps ⟨t, true, pc, left, bfr, nxt⟩ = R at *
  generalize (⟨(Lib.repeatL (pcX ps pc).ch.data.toList left).toArray⟩ : ByteArray) = tx at *
  generalize (pcX ps pc).ch = ch at *
  clear hrun hrg hpc hL
  go_enter Tryz.func25, Tryz.ntmps25
  go_wp2_with fail
  go_quiet (fail)
  go_wp2_with fail
  have hb1 : Below w.heap.size w ((w.alloc (.cells #[x0, x1, x2, x3, x4, x5, x6, x7, x8, x9, .bool true, .int .i64 pc, .int .i64 left, .int .i64 bfr, .int .i64 nxt] 67)).drewN nq) := below_drewN ((Below.refl _ w).alloc (Nat.le_refl _) _) nq
  have hk1 : Blk ((w.alloc (.cells #[x0, x1, x2, x3, x4, x5, x6, x7, x8, x9, .bool true, .int .i64 pc, .int .i64 left, .int .i64 bfr, .int .i64 nxt] 67)).drewN nq) w.heap.size 67 #[x0, x1, x2, x3, x4, x5, x6, x7, x8, x9, .bool true, .int .i64 pc, .int .i64 left, .int .i64 bfr, .int .i64 nxt] := Blk.new w 67 #[x0, x1, x2, x3, x4, x5, x6, x7, x8, x9, .bool true, .int .i64 pc, .int .i64 left, .int .i64 bfr, .int .i64 nxt]
  generalize (w.alloc (.cells #[x0, x1, x2, x3, x4, x5, x6, x7, x8, x9, .bool true, .int .i64 pc, .int .i64 left, .int .i64 bfr, .int .i64 nxt] 67)).drewN nq = W1 at *
  ((with_reducible refine (HREP.out _).mono ?_))
  rintro e W2 ⟨rfl, hb2⟩
  have hk2 := hk1.below hb2 hk1.lt
  have hb3 := hb1.trans (hb2.mono hb1.size)
  have hth : W2.there w.heap.size 0 10 := fun j hj => by
    refine ⟨?_, by rw [Nat.zero_add]; exact hk2.frozen j⟩
    rw [Nat.zero_add, hk2.cell j, Array.getElem?_eq_getElem (by show j < 15; omega)]
    rfl
  have HTH := Lib.hid hth
  have HB3 := Lib.hid hb3
  have HK2 := Lib.hid hk2
  clear hth hb3 hk2 hb2 hk1 hb1 s1 hch c0
  go_wp2_with (refine wpList_store_mid rfl 32 (.tmp 21) (.tmp 20) rfl w.heap.size 0 #[.int .i64 1, .string tx, .string ⟨#[]⟩, .string ⟨#[]⟩, .string ⟨#[]⟩, .slice none 0 0, .slice none 0 0, .slice none 0 0, .slice none 0 0, .slice none 0 0] rfl rfl HTH.out inl_size (by simp [Value.oneCell']) ?_)
  have HX : ∃ u0 u1 u2 u3 u4 u5 u6 u7 u8 u9, Hid (Below w.heap.size w (W2.setCells w.heap.size 0 #[.int .i64 1, .string tx, .string ⟨#[]⟩, .string ⟨#[]⟩, .string ⟨#[]⟩, .slice none 0 0, .slice none 0 0, .slice none 0 0, .slice none 0 0, .slice none 0 0].toList) ∧ (W2.setCells w.heap.size 0 #[.int .i64 1, .string tx, .string ⟨#[]⟩, .string ⟨#[]⟩, .string ⟨#[]⟩, .slice none 0 0, .slice none 0 0, .slice none 0 0, .slice none 0 0, .slice none 0 0].toList).rangeAt w.heap.size 0 [u0, u1, u2, u3, u4, u5, u6, u7, u8, u9] ∧ RepI (W2.setCells w.heap.size 0 #[.int .i64 1, .string tx, .string ⟨#[]⟩, .string ⟨#[]⟩, .string ⟨#[]⟩, .slice none 0 0, .slice none 0 0, .slice none 0 0, .slice none 0 0, .slice none 0 0].toList) S #[u0, u1, u2, u3, u4, u5, u6, u7, u8, u9] R ∧ w.heap.size < (W2.setCells w.heap.size 0 #[.int .i64 1, .string tx, .string ⟨#[]⟩, .string ⟨#[]⟩, .string ⟨#[]⟩, .slice none 0 0, .slice none 0 0, .slice none 0 0, .slice none 0 0, .slice none 0 0].toList).heap.size) := by
    refine ⟨.int .i64 1, .string tx, .string ⟨#[]⟩, .string ⟨#[]⟩, .string ⟨#[]⟩, .slice none 0 0, .slice none 0 0, .slice none 0 0, .slice none 0 0, .slice none 0 0, Lib.hid ⟨below_setCells _ (Nat.le_refl _) _ _ _ HB3.out, World.rangeAt_setCells_same _ _ _ _ HTH.out, ?_, by rw [size_setCells]; exact HK2.out.lt⟩⟩
    rw [HT.out]
    exact .mk 1 tx ⟨#[]⟩ ⟨#[]⟩ noAt [] [] [] none none none none none 0 0 0 0 0 [] ReadsS.none_ ReadsS.none_ ReadsS.none_ ReadsS.none_ .nil ReadsS.none_
  generalize W2.setCells w.heap.size 0 #[.int .i64 1, .string tx, .string ⟨#[]⟩, .string ⟨#[]⟩, .string ⟨#[]⟩, .slice none 0 0, .slice none 0 0, .slice none 0 0, .slice none 0 0, .slice none 0 0].toList = W3 at *
  clear HTH HB3 HK2 HT HREP
  rotate_left
  all_goals
    obtain ⟨u0, u1, u2, u3, u4, u5, u6, u7, u8, u9, HX⟩ := HX
    obtain ⟨q1, q2, q3, q4⟩ := HX.out
    obtain ⟨A, cc, hv, hlm, -⟩ := own_form HW.out
    subst hv
    obtain ⟨i0, hi0, hz0, hz1, hz2'⟩ := info_parts inl_info
    have o1 : W3.cell? ⟨ob, 0, none⟩ = some (.slice A n cc) := (HO.out.below q1 hz2).cell 0
    have HW3 := own_below HW.out q1
    have HK : Hid (∀ W' : World, W'.heap[w.heap.size]? = W3.heap[w.heap.size]? → W'.rangeAt w.heap.size 0 [u0, u1, u2, u3, u4, u5, u6, u7, u8, u9]) := Lib.hid fun W' h j u hj => (World.cell?_of_block h).trans (q2 j u hj)
    have H1 := Lib.hid q3.one
    have HEND := Lib.hid fun (w2 : World) (g2 cap2 : Nat) (x : Obj) (zs : List Value) (hown : w2.ownsRow B 32 10 (.slice (some ⟨g2, 0, none⟩) (n + 1) cap2) (n + 1) (xs ++ zs)) (hz : zs.length = 10) (hgrow : (W3.drew.alloc x).grownBy w2 (Value.slice A n cc).ownBlock) => bet1_end (u := #[u0, u1, u2, u3, u4, u5, u6, u7, u8, u9]) rfl HO.out HS.out hso hBs hBo hSB hBw HW.out q1 q3 hown hz hgrow
    have hz3 := q1.size
    have HQ3 := Lib.hid q3
    have HQ1 := Lib.hid q1
    clear q1 q2 q3 HX HR
    refine wp_region_held_drew (S := fun W' => W'.heap[w.heap.size]? = W3.heap[w.heap.size]?) (by kernel_rfl) rfl (fun hHeld => ?_)
    refine tk 1 (.pointer (some ⟨w.heap.size, 0, none⟩)) rfl hHeld (fun W' hSw => ?_) ?_
    · go_simp
    refine tkm 2 32 (.tmp 23) w.heap.size 0 [u0, u1, u2, u3, u4, u5, u6, u7, u8, u9] _ rfl hHeld rfl HK.out Tryz.underlying32 rfl inl_size ?_
    refine wpAnyH_ready (rs := [0, 4]) (by kernel_rfl) (by simp) (AllReadyH.cons rfl (fun K hK => ?_) (AllReadyH.cons rfl (fun K hK => ?_) AllReadyH.nil))
    go_simp
    refine hK.out _ _ rfl (fun hHeld => ?_)
    clear hK K
    refine tk 3 (.int .i64 n) rfl hHeld (fun W' hSw => ?_) ?_
    · go_simp
    refine rd1 4 rfl (fun K hK => ?_)
    refine step_inSlice rfl _ rfl (.int .i64 0) (.string ⟨#[]⟩) (.string ⟨#[]⟩) (.string ⟨#[]⟩) (.string ⟨#[]⟩) (.slice none 0 0) (.slice none 0 0) (.slice none 0 0) (.slice none 0 0) (.slice none 0 0) rfl ?_
    refine hK.out _ _ (Below.heap_alloc W3.drew _ _ (by show w.heap.size < W3.heap.size; omega)) (fun hHeld => ?_)
    clear hK K
    refine rd1 5 rfl (fun K hK => ?_)
    refine step_append_lies _ rfl (.tmp 22) (.tmp 26) 30 rfl B 32 i0 _ 10 192 Tryz.underlying30 hi0 hz0 hz1 hz2' rfl (by decide) _ _ _ rfl (HW3.alloc _) ⟨W3.heap.size, 0, none⟩ 1 1 [.int .i64 0, .string ⟨#[]⟩, .string ⟨#[]⟩, .string ⟨#[]⟩, .string ⟨#[]⟩, .slice none 0 0, .slice none 0 0, .slice none 0 0, .slice none 0 0, .slice none 0 0] rfl rfl ?c1 ?c2 (by decide) ?c3 ?c4 ?c5 (W3.heap.size + 1) ?c6 ?_
    case c1 => exact World.news_of_block (t := 32) (fr := (0, 0)) (heap_alloc_new W3.drew _)
    case c2 => simp [Value.oneCell']
    case c3 => unfold maxLen; omega
    case c4 => omega
    case c5 => simp; omega
    case c6 => simp
    intro g2 cap2 w2 hown hgrow0 hlies hlt2
    have hs2 : w2.heap[w.heap.size]? = W3.heap[w.heap.size]? := (HEND.out w2 g2 cap2 _ _ hown rfl hgrow0).2.2.2.1.trans (Below.heap_alloc W3.drew _ _ (by show w.heap.size < W3.heap.size; omega))
    have HE := Lib.hid (HEND.out w2 g2 cap2 _ _ hown rfl hgrow0)
    have hg2 : g2 ≠ w.heap.size := by
      rcases hlies with hl | hl
      · have := (HW.out.lt g2 (show (Value.slice A n cc).ownBlock = some g2 from hl)).2
        omega
      · omega
    clear hown hgrow0 hlies
    refine hK.out _ _ hs2 (fun hHeld => ?_)
    clear hK K
    rotate_left
    refine step_inSlice rfl _ rfl (.int .i64 0) (.string ⟨#[]⟩) (.string ⟨#[]⟩) (.string ⟨#[]⟩) (.string ⟨#[]⟩) (.slice none 0 0) (.slice none 0 0) (.slice none 0 0) (.slice none 0 0) (.slice none 0 0) rfl ?_
    refine hK.out _ _ (Below.heap_alloc W3.drew _ _ (by show w.heap.size < W3.heap.size; omega)) (fun hHeld => ?_)
    clear hK K
    have o2 : (W3.alloc (.cells #[.int .i64 0, .string ⟨#[]⟩, .string ⟨#[]⟩, .string ⟨#[]⟩, .string ⟨#[]⟩, .slice none 0 0, .slice none 0 0, .slice none 0 0, .slice none 0 0, .slice none 0 0] 32)).cell? ⟨ob, 0, none⟩ = some (.slice A n cc) := (World.cell?_alloc_lt W3 _ ⟨ob, 0, none⟩ (by show ob < W3.heap.size; omega)).trans o1
    refine rd1 0 rfl (fun K hK => ?_)
    go_simp
    refine hK.out _ _ (Below.heap_alloc W3.drew _ _ (by show w.heap.size < W3.heap.size; omega)) (fun hHeld => ?_)
    clear hK K o2
    refine tk 3 (.int .i64 n) rfl hHeld (fun W' hSw => ?_) ?_
    · go_simp
    refine rd1 5 rfl (fun K hK => ?_)
    refine step_append_lies _ rfl (.tmp 22) (.tmp 26) 30 rfl B 32 i0 _ 10 192 Tryz.underlying30 hi0 hz0 hz1 hz2' rfl (by decide) _ _ _ rfl (HW3.alloc _) ⟨W3.heap.size, 0, none⟩ 1 1 [.int .i64 0, .string ⟨#[]⟩, .string ⟨#[]⟩, .string ⟨#[]⟩, .string ⟨#[]⟩, .slice none 0 0, .slice none 0 0, .slice none 0 0, .slice none 0 0, .slice none 0 0] rfl rfl ?d1 ?d2 (by decide) ?d3 ?d4 ?d5 (W3.heap.size + 1) ?d6 ?_
    case d1 => exact World.news_of_block (t := 32) (fr := (0, 0)) (heap_alloc_new W3.drew _)
    case d2 => simp [Value.oneCell']
    case d3 => unfold maxLen; omega
    case d4 => omega
    case d5 => simp; omega
    case d6 => simp
    intro g2 cap2 w2 hown hgrow0 hlies hlt2
    have hs2 : w2.heap[w.heap.size]? = W3.heap[w.heap.size]? := (HEND.out w2 g2 cap2 _ _ hown rfl hgrow0).2.2.2.1.trans (Below.heap_alloc W3.drew _ _ (by show w.heap.size < W3.heap.size; omega))
    have HE := Lib.hid (HEND.out w2 g2 cap2 _ _ hown rfl hgrow0)
    have hg2 : g2 ≠ w.heap.size := by
      rcases hlies with hl | hl
      · have := (HW.out.lt g2 (show (Value.slice A n cc).ownBlock = some g2 from hl)).2
        omega
      · omega
    clear hown hgrow0 hlies
    refine hK.out _ _ hs2 (fun hHeld => ?_)
    clear hK K
    rotate_left
    all_goals
      obtain ⟨e1, e2, e3, -, e5⟩ := HE.out
      have f1 := e1.frozen 0
      have e1c := e1.cell 0
      have hn1 : (n : Int) < (n : Int) + 1 := by omega
      have HE1 := Lib.hid e1
      have HE3 := Lib.hid e3
      have HE5 := Lib.hid e5
      have hob1 := e1.lt
      clear e1 e3 e5 HE HEND
      refine tk 6 (.pointer (some ⟨g2, n * 10, none⟩)) rfl hHeld (fun W' hSw => ?_) ?_
      · go_simp
      refine wpAnyH_ready (rs := [7, 8]) (by kernel_rfl) (by simp) (AllReadyH.cons rfl (fun K hK => ?_) (AllReadyH.cons rfl (fun K hK => ?_) AllReadyH.nil))
      · refine step_store_mid rfl 32 (.tmp 28) (.tmp 24) rfl g2 (n * 10) #[u0, u1, u2, u3, u4, u5, u6, u7, u8, u9] (by kernel_rfl) (by kernel_rfl) HE3.out inl_size (by simpa using H1.out) ?_
        have hsA : (w2.setCells g2 (n * 10) #[u0, u1, u2, u3, u4, u5, u6, u7, u8, u9].toList).heap[w.heap.size]? = W3.heap[w.heap.size]? := (heap_setCells g2 _ (Ne.symm hg2) _ _ _).trans hs2
        refine hK.out _ _ hsA (fun hHeld => ?_)
        clear hK K
        have e1' : Blk (w2.setCells g2 (n * 10) #[u0, u1, u2, u3, u4, u5, u6, u7, u8, u9].toList) ob 30 #[.slice A n cc] := (heap_setCells g2 ob (Ne.symm e2) _ _ _).trans HE1.out
        have e1c' := e1'.cell 0
        have f1' := e1'.frozen 0
        have HF := Lib.hid (HE5.out _ (.inl rfl))
        clear e1c f1 e1'
        generalize w2.setCells g2 (n * 10) #[u0, u1, u2, u3, u4, u5, u6, u7, u8, u9].toList = w4 at *
        refine rd1 8 rfl (fun K hK => ?_)
        go_simp
        refine hK.out _ _ ((Below.heap_setCell w4 ⟨ob, 0, none⟩ _ _ (by show w.heap.size ≠ ob; omega)).trans hsA) (fun hHeld => ?_)
        clear hK K
        refine wpAnyH_done (by kernel_rfl) ?_ _
        go_wp2_with fail
        go_end0
        exact HF.out
      · go_simp
        have hsA : (w2.setCell ⟨ob, 0, none⟩ (.slice (some ⟨g2, 0, none⟩) (n + 1) cap2)).heap[w.heap.size]? = W3.heap[w.heap.size]? := (Below.heap_setCell w2 ⟨ob, 0, none⟩ _ _ (by show w.heap.size ≠ ob; omega)).trans hs2
        refine hK.out _ _ hsA (fun hHeld => ?_)
        clear hK K
        refine rd1 7 rfl (fun K hK => ?_)
        have hth : (w2.setCell ⟨ob, 0, none⟩ (.slice (some ⟨g2, 0, none⟩) (n + 1) cap2)).there g2 (n * 10) 10 := fun j hj => by
          have h3 := HE3.out j hj
          have hb := Below.heap_setCell w2 ⟨ob, 0, none⟩ (.slice (some ⟨g2, 0, none⟩) (n + 1) cap2) g2 e2
          exact ⟨by rw [World.cell?_of_block (a := ⟨g2, n * 10 + j, none⟩) hb]; exact h3.1, by rw [World.frozen?_of_block (a := ⟨g2, n * 10 + j, none⟩) hb]; exact h3.2⟩
        refine step_store_mid rfl 32 (.tmp 28) (.tmp 24) rfl g2 (n * 10) #[u0, u1, u2, u3, u4, u5, u6, u7, u8, u9] (by kernel_rfl) (by kernel_rfl) hth inl_size (by simpa using H1.out) ?_
        refine hK.out _ _ ((heap_setCells g2 _ (Ne.symm hg2) _ _ _).trans hsA) (fun hHeld => ?_)
        clear hK K
        have HF := Lib.hid (HE5.out _ (.inr rfl))
        refine wpAnyH_done (by kernel_rfl) ?_ _
        go_wp2_with fail
        go_end0
        exact HF.out

end Go.Proofs.YtfnloonmeilhlaaGreatDoor
