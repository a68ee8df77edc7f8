/-
  Texts of the proof, put together (what this law reaches): EmT, EmW, EmU, EmX, EmY.
-/
import Derived.Test.YtfnloonmeilhlaaGreatDoorT16
import Derived.Test.YtfnloonmeilhlaaGreatDoorT06
import Derived.Test.YtfnloonmeilhlaaGreatDoorT07
import Derived.Laws.MakeOwn
import Derived.Laws.CopyOwn
set_option linter.unusedVariables false
set_option linter.unusedSimpArgs false
namespace Go.Proofs.YtfnloonmeilhlaaGreatDoor
open Go.RowKit Go.Pub
/-- What holds in the loop. -/
structure ClW (base p : Nat) (L : Value) (S : Nat → Prop) (ps : List PcT) (i c k l : Nat) (st0 : EmS) (w0 wr : World) : Prop where
  ex : ∃ vE vO vP S' vs st ids f, EmR wr base p L vE vO vP S' vs st ∧ ClI ps i c st ids ∧ closeF ps c f st = clsA ps c st0 ∧ lfX st.xs c ≤ f ∧ lfX st.xs c = l ∧ (∀ g, S g → S' g) ∧ st.xs.length + l ≤ k ∧ st.prs.length + l ≤ k
  bel : Below base w0 wr
  kp : ∀ q, S q → wr.heap[q]? = w0.heap[q]?
/-- How much of the closer is left, in memory. -/
def leftW (p c : Nat) (wr : World) : Nat :=
  match wr.cell? ⟨p, 1, none⟩ with
  | some (.slice (some a) _ _) => match wr.cell? ⟨a.block, c * 15 + 12, none⟩ with
    | some (.int _ n) => n.toNat
    | _ => 0
  | _ => 0
theorem leftW_eq {base p c g n cap : Nat} {L vP : Value} {vO : Nat → Value} {S : Nat → Prop} {vs : List (Array Value)} {st : EmS} {w : World} (h : EmR w base p L (.slice (some ⟨g, 0, none⟩) n cap) vO vP S vs st) (hc : c < st.xs.length) : leftW p c w = lfX st.xs c := by
  unfold leftW
  rw [h.cel.c1]
  obtain ⟨-, h2, -, -⟩ := h.at_ c hc
  dsimp only
  rw [h2]
  rfl
set_option maxRecDepth 100000 in
set_option maxHeartbeats 4000000 in
theorem e_closeRun {base p i c k : Nat} {L vE vP : Value} {vO : Nat → Value} {S : Nat → Prop} {vs : List (Array Value)} {st : EmS} {ps : List PcT} {ids : List Nat} (w : World) (h : EmR w base p L vE vO vP S vs st) (hI : ClI ps i c st ids) (hL : PcsR w (fun g => g < base) L ps) (hbase : base ≤ w.heap.size)
    (hk1 : st.xs.length + lfX st.xs c ≤ k) (hk2 : st.prs.length + lfX st.xs c ≤ k) (hk : k ≤ 190000) (hip : i < ps.length) (hn1 : 1 ≤ (pcX ps i).n) (hn2 : (pcX ps i).n ≤ 262144) :
    Calls Tryz.prog 20 #[.pointer (some ⟨p, 0, none⟩), .int .i64 c] w (PairPost base p L S (clsA ps c st) w) := by
  have H0 : Hid (ClW base p L S ps i c k (lfX st.xs c) st w w) := Lib.hid ⟨⟨vE, vO, vP, S, vs, st, ids, lfX st.xs c, h, hI, rfl, Nat.le_refl _, rfl, fun _ h => h, hk1, hk2⟩, Below.refl _ _, fun _ _ => rfl⟩
  have HL := Lib.hid hL
  have hp0 := h.cel.lt
  clear h hI hL hk1 hk2
  generalize lfX st.xs c = l0 at *
  go_enter Tryz.func20, Tryz.ntmps20
  go_wp2_with fail
  go_loopw [4] (fun v4 wr => ∃ l, Hid (ClW base p L S ps i c k l st w wr)) (fun _ wr => leftW p c wr)
  case atStart => exact ⟨l0, H0⟩
  case round =>
    clear H0
    obtain ⟨l, HI⟩ := hrel
    obtain ⟨⟨vE, vO, vP, S', vs, st1, ids1, f, h1, h2, h3, h4, h5, h6, h7, h8⟩, hb, hkp⟩ := HI.out
    have hpos : 0 < st1.xs.length := h2.em.ring.pos
    obtain ⟨g, cap, rfl, -, -, hgp, hfr, -⟩ := h1.row hpos
    have hlt := h2.lt
    have hci : (c : Int) < (st1.xs.length : Int) := by omega
    have m1 := h1.cel.c1
    obtain ⟨-, mc, -, -⟩ := h1.at_ c hlt
    have mc' : wr.cell? ⟨g, c * 15 + 12, none⟩ = some (.int .i64 (l : Nat)) := by rw [mc]; exact congrArg (fun x : Nat => some (Value.int .i64 (x : Int))) h5
    clear mc
    have hms := leftW_eq h1 hlt
    by_cases hl : l = 0
    · have d1 : decide ((l : Int) > 0) = false := decide_eq_false (by omega)
      have HF : Hid (PairPost base p L S (clsA ps c st) w (.returned (.tuple #[])) wr) := Lib.hid ⟨_, _, _, S', _, rfl, by rw [← h3, closeF_zero (by omega)]; exact h1, h6, hb, hkp⟩
      subst hl
      clear h1 h2 h3 h4 h5 h6 h7 h8 hb hkp HI hms d1
      go_wp2_with fail
      go_end0
      exact HF.out
    · have d1 : decide (l > 0) = true := decide_eq_true (by omega)
      have hl0 : lfX st1.xs c ≠ 0 := by omega
      have hbb : base ≤ wr.heap.size := by have := hb.size; omega
      have hLb : PcsR wr (fun g => g < base) L ps := HL.out.keep (fun g hg => hb.block g hg) fun _ h => h
      have HOP : Hid (Calls Tryz.prog 42 #[.pointer (some ⟨p, 0, none⟩), .int .i64 c] wr fun e w' => e = .returned (.tuple #[.int .i64 (clO ps st1 c : Nat), .bool (decide (0 < clO ps st1 c))]) ∧ Below wr.heap.size wr w') := Lib.hid (by
        have hpc := h2.pc
        exact e_opener wr h1 (hLb.keep (fun _ _ => rfl) h1.low) hbb c hlt (by rw [hpc]; exact hip) (by rw [hpc]; exact hn1) (by rw [hpc]; exact hn2) (fun k x hx => h2.em.ring.bd x (h2.em.ops k x hx).1) (by omega))
      by_cases hR : clO ps st1 c = 0
      · have HF : Hid (∀ W, Below wr.heap.size wr W → PairPost base p L S (clsA ps c st) w (.returned (.tuple #[])) W) := Lib.hid fun W hW => ⟨_, _, _, S', _, rfl, by rw [← h3, closeF_none hR]; exact h1.below hW, h6, hb.trans (hW.mono hbb), fun q hq => (hW.block q (h1.fro q (h6 q hq)).1).trans (hkp q hq)⟩
        rw [hR] at HOP
        clear h1 h2 h3 h4 h5 h6 h7 h8 hb hkp HI hms hLb hR
        go_wp2_with fail
        ((with_reducible refine HOP.out.mono ?_))
        rintro e W2 ⟨rfl, hb2⟩
        have HF2 := Lib.hid (HF.out _ hb2)
        clear hb2 HF HOP
        go_wp2_with fail
        go_end0
        exact HF2.out
      · obtain ⟨A, B, L', e1, hB, e2, q1, q2, q3, q4, q5, q6, q7, q8, q9⟩ := h2.pair hl0 hR
        have hpR := h2.rb _ q2
        have HPA := Lib.hid fun (W : World) (hW : Below wr.heap.size wr W) => e_pair (o := clO ps st1 c) (c := c) W (h1.below hW) q1 (hLb.keep (fun g hg => hW.block g (by omega)) fun _ h => h) (by have := hW.size; omega) hpR.1 (by rw [h2.pc]; exact hip) (fun x hx hr => by
            obtain ⟨r1, r2, r3⟩ := h2.rb x hr
            have r4 := (runP_spec r2).2.2.1
            exact ⟨r1, by rw [runP_size r2]; omega, by omega⟩) (by omega) (by omega) (by omega) (by omega) (by have := (runP_spec hpR.2.1).2.2.1; have := hpR.2.2; omega) (by have := h2.rb c h2.run; have := (runP_spec this.2.1).2.2.1; have := this; omega)
        have HF : Hid (∀ W2 W3, Below wr.heap.size wr W2 → PairPost base p L S' (mtchA ps st1 (clO ps st1 c) c) W2 (.returned (.tuple #[])) W3 → (∃ l, ClW base p L S ps i c k l st w W3) ∧ leftW p c W3 < leftW p c wr) := Lib.hid fun W2 W3 hW2 hP => by
          obtain ⟨vE3, vO3, vP3, S3, vs3, -, f1, f2, f3, f4⟩ := hP
          have hpos3 : 0 < (mtchA ps st1 (clO ps st1 c) c).xs.length := by omega
          obtain ⟨g3, cap3, hv3, -⟩ := f1.row hpos3
          subst hv3
          obtain ⟨f', rfl⟩ : ∃ f', f = f' + 1 := ⟨f - 1, by omega⟩
          refine ⟨⟨_, ⟨_, vO3, vP3, S3, vs3, _, L', f', f1, q6, by rw [← h3, closeF_some hl0 hR], by omega, rfl, fun g hg => f2 g (h6 g hg), by omega, by omega⟩, (hb.trans (hW2.mono hbb)).trans f3, fun q hq => (f4 q (h6 q hq)).trans ((hW2.block q (h1.fro q (h6 q hq)).1).trans (hkp q hq))⟩, ?_⟩
          rw [leftW_eq f1 (by omega), hms]
          exact q7
        obtain ⟨R, hRR⟩ : ∃ R, R = clO ps st1 c := ⟨_, rfl⟩
        rw [← hRR] at HOP HPA HF hR
        have d2 : decide (0 < R) = true := decide_eq_true (by omega)
        clear h1 h2 h3 h4 h5 h6 h7 h8 hb hkp HI hms hLb e1 e2 q1 q2 q3 q4 q5 q6 q7 q8 q9 hpR hRR
        go_wp2_with fail
        ((with_reducible refine HOP.out.mono ?_))
        rintro e W2 ⟨rfl, hb2⟩
        have HPA2 := Lib.hid (HPA.out W2 hb2)
        have HB2 := Lib.hid hb2
        clear hb2 HPA HOP
        go_wp2_with fail
        ((with_reducible refine HPA2.out.mono ?_))
        rintro e W3 hP
        have he : e = .returned (.tuple #[]) := by obtain ⟨_, _, _, _, _, he, _⟩ := hP; exact he
        subst he
        obtain ⟨⟨l', f1⟩, f2⟩ := HF.out W2 W3 HB2.out hP
        have HF1 := Lib.hid f1
        have HF2 := Lib.hid f2
        clear f1 f2 HF hP HPA2 HB2
        go_wp2_with fail
        go_roundw
        case rel => exact ⟨l', HF1⟩
        case measure => exact HF2.out

end Go.Proofs.YtfnloonmeilhlaaGreatDoor
namespace Go.Proofs.YtfnloonmeilhlaaGreatDoor
open Go.RowKit Go.Pub
def zElem : Array Value := #[.int .i64 0, .string ⟨#[]⟩, .string ⟨#[]⟩, .string ⟨#[]⟩, .string ⟨#[]⟩, .slice none 0 0, .slice none 0 0, .slice none 0 0, .slice none 0 0, .slice none 0 0, .bool false, .int .i64 0, .int .i64 0, .int .i64 0, .int .i64 0]
theorem made15 (n : Nat) : (madeCells zElem ((n + 1) * 15)).toList.take 15 = zElem.toList := by
  unfold madeCells
  rw [Array.toList_map, Array.toList_range, ← List.map_take, List.take_range, Nat.min_eq_left (by omega)]
  rfl
/-- The slice of elements is made. -/
theorem run_elems (n : Nat) (hn : n ≤ 100000) (W : World) : (Instr.makeSlice 51 (.int .i64 1) (.int .i64 ((n : Int) + 1))).run Tryz.prog W = .ok (.slice (some ⟨W.heap.size, 0, none⟩) 1 (n + 1)) (W.alloc (.cells (madeCells zElem ((n + 1) * 15)) 67)) := by
  obtain ⟨i0, hi0, hz0, hz1, hz2⟩ := info_parts elem_info
  have h := run_make (P := Tryz.prog) W 51 67 i0 _ Tryz.underlying51 hi0 hz0 .i64 .i64 1 ((n : Int) + 1) (by omega) (by omega) (by rw [hz2]; omega) (by omega)
  rw [hz1, show ((n : Int) + 1).toNat = n + 1 by omega] at h
  exact h
/-- The cells of a state at the start. -/
def stZ (L : Value) (g n : Nat) : Array Value := #[L, .slice (some ⟨g, 0, none⟩) 1 (n + 1), .slice none 0 0, .slice none 0 0, .slice none 0 0, .slice none 0 0, .slice none 0 0, .slice none 0 0, .slice none 0 0, .slice none 0 0, .slice none 0 0, .slice none 0 0, .slice none 0 0, .slice none 0 0, .slice none 0 0, .slice none 0 0, .slice none 0 0, .slice none 0 0, .slice none 0 0, .slice none 0 0, .slice none 0 0]
theorem EmR.start (w : World) (L : Value) (n : Nat) (hn : n ≤ 100000) :
    EmR ((w.alloc (.cells (madeCells zElem ((n + 1) * 15)) 67)).alloc (.cells (stZ L w.heap.size n) 57)) w.heap.size (w.heap.size + 1) L (.slice (some ⟨w.heap.size, 0, none⟩) 1 (n + 1)) (fun _ => .slice none 0 0) (.slice none 0 0) (fun g => g < w.heap.size) [zElem] start0 := by
  have hb := Blk.new (w.alloc (.cells (madeCells zElem ((n + 1) * 15)) 67)) 57 (stZ L w.heap.size n)
  rw [World.size_alloc] at hb
  have he : Blk ((w.alloc (.cells (madeCells zElem ((n + 1) * 15)) 67)).alloc (.cells (stZ L w.heap.size n) 57)) w.heap.size 67 (madeCells zElem ((n + 1) * 15)) := (Blk.new w _ _).alloc _
  refine ⟨by omega, ⟨⟨_, hb, rfl⟩, hb.cell 0, hb.cell 1, fun j hj => ?_, hb.cell 20⟩, ⟨by rw [List.flatMap_singleton]; rfl, .inr ⟨w.heap.size, n + 1, _, rfl, Nat.le_refl _, he, by show 1 ≤ n + 1; omega, by unfold maxLen; omega, size_madeCells _ _, ?_⟩⟩, ⟨rfl, fun i hi => ?_⟩, fun j hj => World.ownsRow_nil _ _ _ _, World.ownsRow_nil _ _ _ _, fun j k hj hk hjk => .inl rfl, fun g hg => hg, fun g hg => ⟨by rw [World.size_alloc, World.size_alloc]; omega, fun h => absurd hg (by omega)⟩⟩
  · rw [hb.cell (2 + j)]
    have : ∀ j : Fin 18, (stZ L w.heap.size n)[2 + j.1]? = some (.slice none 0 0) := by
      intro j
      match j with
      | ⟨0, _⟩ | ⟨1, _⟩ | ⟨2, _⟩ | ⟨3, _⟩ | ⟨4, _⟩ | ⟨5, _⟩ | ⟨6, _⟩ | ⟨7, _⟩ | ⟨8, _⟩ | ⟨9, _⟩ | ⟨10, _⟩ | ⟨11, _⟩ | ⟨12, _⟩ | ⟨13, _⟩ | ⟨14, _⟩ | ⟨15, _⟩ | ⟨16, _⟩ | ⟨17, _⟩ => rfl
      | ⟨n + 18, h⟩ => exact absurd h (by omega)
    exact this ⟨j, hj⟩
  · rw [List.flatMap_singleton]
    exact made15 n
  · have h0 : i = 0 := by have : i < 1 := hi; omega
    subst h0
    exact ⟨_, RepI.zero _ _, rfl⟩
section
variable {w w' : World} {base p : Nat} {L vE vP : Value} {vO : Nat → Value} {S : Nat → Prop} {vs : List (Array Value)} {st : EmS}
/-- An opener more. -/
theorem EmR.pushO {w2 : World} {x g cap H : Nat} (h : EmR w base p L vE vO vP S vs st) (hbase : base ≤ w.heap.size) (j : Nat) (hj : j < 18)
    (hown : w2.ownsRow base 3 1 (.slice (some ⟨g, 0, none⟩) ((st.ops j).length + 1) cap) ((st.ops j).length + 1) (intsV (st.ops j) ++ [.int .i64 x])) (hgrow : w.grownBy w2 (vO j).ownBlock) (hlies : (vO j).ownBlock = some g ∨ g = H) (hH : w.heap.size ≤ H) :
    EmR (w2.setCell ⟨p, 2 + j, none⟩ (.slice (some ⟨g, 0, none⟩) ((st.ops j).length + 1) cap)) base p L vE (fun i => if i = j then .slice (some ⟨g, 0, none⟩) ((st.ops j).length + 1) cap else vO i) vP S vs { st with ops := fun i => if i = j then st.ops i ++ [x] else st.ops i } ∧
      Below base w (w2.setCell ⟨p, 2 + j, none⟩ (.slice (some ⟨g, 0, none⟩) ((st.ops j).length + 1) cap)) := by
  have hpl := h.cel.lt
  obtain ⟨cs, hbk, _⟩ := h.cel.blk
  have hEp : (vO j).ownBlock ≠ some p := own_blk (h.ops j hj) hbk (by decide)
  have hcel : StC w2 p L vE vO vP := h.cel.keep (hgrow.block p hpl (fun e => hEp e.symm))
  have hrows : ∀ k, S k → (w2.setCell ⟨p, 2 + j, none⟩ (.slice (some ⟨g, 0, none⟩) ((st.ops j).length + 1) cap)).heap[k]? = w.heap[k]? := fun k hk => by
    obtain ⟨n1, -, n3, -⟩ := h.notS hk
    exact (Below.heap_setCell w2 ⟨p, 2 + j, none⟩ _ k n1).trans (hgrow.block k (h.fro k hk).1 (fun e => n3 j hj e.symm))
  obtain ⟨cs2, hbk2, _⟩ := hcel.blk
  have hset : ∀ {n s : Nat} {t : TypeId} {u : Value} {x' : List Value}, w2.ownsRow base t s u n x' → t ≠ 57 → (w2.setCell ⟨p, 2 + j, none⟩ (.slice (some ⟨g, 0, none⟩) ((st.ops j).length + 1) cap)).ownsRow base t s u n x' := fun ho h2 =>
    ho.kept (row := some p) ⟨rfl, rfl, rfl, by simp [World.setCell], fun k _ hk => Below.heap_setCell w2 ⟨p, 2 + j, none⟩ _ k (fun e => hk (by rw [e]))⟩ (.inr (own_blk ho hbk2 h2))
  have hkeepO : ∀ {n s : Nat} {t : TypeId} {u : Value} {x' : List Value}, w.ownsRow base t s u n x' → (u.ownBlock = none ∨ u.ownBlock ≠ (vO j).ownBlock) → t ≠ 57 → (w2.setCell ⟨p, 2 + j, none⟩ (.slice (some ⟨g, 0, none⟩) ((st.ops j).length + 1) cap)).ownsRow base t s u n x' := fun ho h1 h2 => hset (ho.kept hgrow h1) h2
  have hbg : Below base w w2 := ⟨hgrow.os, hgrow.tape, hgrow.output, hgrow.size, fun k hk => hgrow.block k (by omega) (fun e => by have := ((h.ops j hj).lt k e.symm).1; omega)⟩
  have hgw : (vO j).ownBlock = some g ∨ w.heap.size ≤ g := hlies.imp id fun e => by omega
  refine ⟨⟨h.bp, hcel.setO j hj _, hkeepO h.els (own_apart h.els (h.ops j hj) (by decide)) (by decide), h.rep.keep hrows fun _ h => h, fun i hi => ?_, hkeepO h.prs (own_apart h.prs (h.ops j hj) (by decide)) (by decide), fun i k hi hk hne => ?_, h.low, fun k hk => ⟨?_, fun hbk => ?_⟩⟩, hbg.setCell (p := ⟨p, 2 + j, none⟩) h.bp _⟩
  · by_cases hij : i = j
    · subst hij
      show World.ownsRow _ _ _ _ (if i = i then _ else vO i) (if i = i then st.ops i ++ [x] else st.ops i).length (intsV (if i = i then st.ops i ++ [x] else st.ops i))
      rw [if_pos rfl, if_pos rfl, List.length_append, List.length_singleton]
      have : intsV (st.ops i ++ [x]) = intsV (st.ops i) ++ [.int .i64 x] := by unfold intsV; simp
      rw [this]
      exact hset hown (by decide)
    · show World.ownsRow _ _ _ _ (if i = j then _ else vO i) (if i = j then st.ops i ++ [x] else st.ops i).length (intsV (if i = j then st.ops i ++ [x] else st.ops i))
      rw [if_neg hij, if_neg hij]
      exact hkeepO (h.ops i hi) (h.apart i j hi hj hij) (by decide)
  · show (if i = j then Value.slice (some ⟨g, 0, none⟩) ((st.ops j).length + 1) cap else vO i).ownBlock = none ∨ (if i = j then Value.slice (some ⟨g, 0, none⟩) ((st.ops j).length + 1) cap else vO i).ownBlock ≠ (if k = j then Value.slice (some ⟨g, 0, none⟩) ((st.ops j).length + 1) cap else vO k).ownBlock
    have hoth : ∀ q, q < 18 → q ≠ j → (vO q).ownBlock ≠ some g := fun q hq hqj e => by
      rcases hgw with hh | hh
      · rcases h.apart q j hq hj hqj with h1 | h1
        · rw [h1] at e; cases e
        · exact h1 (e.trans hh.symm)
      · have := ((h.ops q hq).lt g e).2; omega
    by_cases hij : i = j
    · rw [if_pos hij, if_neg (by omega)]
      exact .inr fun e => hoth k hk (by omega) e.symm
    · rw [if_neg hij]
      by_cases hkj : k = j
      · rw [if_pos hkj]
        exact .inr (hoth i hi hij)
      · rw [if_neg hkj]; exact h.apart i k hi hk hne
  · have := (h.fro k hk).1
    have := hgrow.size
    simp [World.setCell]; omega
  · obtain ⟨n1, n2, n3, n4⟩ := h.notS hk
    refine ⟨n1, n2, fun i hi => ?_, n4⟩
    show (if i = j then Value.slice (some ⟨g, 0, none⟩) ((st.ops j).length + 1) cap else vO i).ownBlock ≠ some k
    by_cases hij : i = j
    · rw [if_pos hij]
      intro e
      have e' : g = k := by simpa [Value.ownBlock] using e
      subst e'
      rcases hgw with hh | hh
      · exact n3 j hj hh
      · have := (h.fro g hk).1; omega
    · rw [if_neg hij]; exact n3 i hi
end
end Go.Proofs.YtfnloonmeilhlaaGreatDoor
namespace Go.Proofs.YtfnloonmeilhlaaGreatDoor
open Go.RowKit Go.Pub
theorem RepI.two {w : World} {S : Nat → Prop} {x0 x1 x2 x3 x4 x5 x6 x7 x8 x9 : Value} {t : InT} (h : RepI w S #[x0, x1, x2, x3, x4, x5, x6, x7, x8, x9] t) : x0 = .int .i64 t.kind ∧ x1 = .string t.text := by
  cases h; exact ⟨rfl, rfl⟩
theorem int_info : (Tryz.prog.info? 3).map (fun i => (i.zero, i.size, i.bytes)) = some (some (.int .i64 0), 1, 8) := by kernel_rfl
/-- What holds ahead of a piece. -/
structure MatW (base p : Nat) (L : Value) (ps : List PcT) (st : EmS) (k : Nat) (w0 wr : World) : Prop where
  ex : ∃ vE vO vP S' vs ids, EmR wr base p L vE vO vP S' vs st ∧ MatI ps k st ids
  bel : Below base w0 wr
theorem MatW.of {base p : Nat} {L vE vP : Value} {vO : Nat → Value} {S : Nat → Prop} {vs : List (Array Value)} {ps : List PcT} {st1 st2 : EmS} {k : Nat} {w0 w : World} {ids : List Nat} (h : EmR w base p L vE vO vP S vs st1) (e : st2 = st1) (hn : MatI ps k st2 ids) (hb : Below base w0 w) : MatW base p L ps st2 k w0 w :=
  ⟨⟨vE, vO, vP, S, vs, ids, by rw [e]; exact h, hn⟩, hb⟩
/-- A state in memory, and a block that stays. -/
def StBE (base p : Nat) (L : Value) (xb : Nat) (cs : Array Value) (w0 : World) (st : EmS) (w : World) : Prop := ∃ vE vO vP S vs, EmR w base p L vE vO vP S vs st ∧ Blk w xb 34 cs ∧ S xb ∧ Below base w0 w
def MatPost (base p : Nat) (L : Value) (st : EmS) (w : World) (e : Ending) (w' : World) : Prop :=
  e = .returned (.pointer (some ⟨p, 0, none⟩)) ∧ Below base w w' ∧ ∃ vE vO vP S vs, EmR w' base p L vE vO vP S vs st
set_option maxRecDepth 100000 in
set_option maxHeartbeats 8000000 in
theorem e_match {L : Value} {ps : List PcT} (w : World) (hL : PcsR w (fun g => g < w.heap.size) L ps) (hlen : ps.length ≤ 30000) (hsum : sumN ps ps.length ≤ 30000) :
    Calls Tryz.prog 12 #[L] w (MatPost w.heap.size (w.heap.size + 1) L (matchA ps) w) := by
  obtain ⟨A0, c0, vs0, hL0, -⟩ := id hL
  subst hL0
  have HMK := Lib.hid fun W => run_elems ps.length (by omega) W
  have hst := EmR.start w (.slice A0 ps.length c0) ps.length (by omega)
  have H0 : Hid (MatW w.heap.size (w.heap.size + 1) (.slice A0 ps.length c0) ps (matchF ps 0) 0 w ((w.alloc (.cells (madeCells zElem ((ps.length + 1) * 15)) 67)).alloc (.cells (stZ (.slice A0 ps.length c0) w.heap.size ps.length) 57))) := Lib.hid ⟨⟨_, _, _, _, _, [], hst, MatI.start ps⟩, ((Below.refl _ w).alloc (Nat.le_refl _) _).alloc (by simp) _⟩
  have HL := Lib.hid hL
  clear hst hL
  unfold stZ at H0
  have hmk := HMK.out
  go_enter Tryz.func12, Tryz.ntmps12
  go_wp2_with fail
  clear hmk
  go_loopw [17] (fun v17 wr => ∃ k : Nat, k ≤ ps.length ∧ v17 = .int .i64 k ∧ Hid (MatW w.heap.size (w.heap.size + 1) (.slice A0 ps.length c0) ps (matchF ps k) k w wr)) (fun v17 _ => ps.length - (intOf v17).toNat)
  case atStart => exact ⟨0, Nat.zero_le _, rfl, H0⟩
  case round =>
    clear H0
    obtain ⟨k, hk, rfl, HI⟩ := hrel
    by_cases hlt : k < ps.length
    · obtain ⟨⟨vE, vO, vP, S', vs, ids, h1, h2⟩, hb⟩ := HI.out
      have hLw : PcsR wr (fun g => g < w.heap.size) (.slice A0 ps.length c0) ps := HL.out.keep (fun g hg => hb.block g hg) fun _ h => h
      obtain ⟨b, off, cl, hLe, hSb, hpc⟩ := hLw.opn (by omega)
      injection hLe with hA0 _ hc0
      subst hA0
      subst hc0
      obtain ⟨x0, x1, x2, x3, x4, x5, x6, x7, x8, x9, hr, hrg, h18⟩ := hpc k hlt
      have HSTEP : Hid (matchF ps (k + 1) = stepA ps (matchF ps k) k) := Lib.hid rfl
      have hnext := h2.step hlt
      have HRUN := Lib.hid fun hp => h2.run hlt hp
      have HKO : Hid (kindO (pcX ps k) = (charNum (pcX ps k).ch * 3 + (pcX ps k).n.toNat % 3) * 2 + (if (pcX ps k).clo = true then 1 else 0)) := Lib.hid rfl
      have HSR := Lib.hid fun hp => stepA_run (ps := ps) (st := matchF ps k) (k := k) hp
      have HSI := Lib.hid fun hp h => stepA_inl (ps := ps) (st := matchF ps k) (k := k) hp h
      have HSN := Lib.hid fun hp h => stepA_none (ps := ps) (st := matchF ps k) (k := k) hp h
      have HOS : Hid (∀ s c, opnS ps s k c = { s with ops := fun j => if j = kindO (pcX ps k) then s.ops j ++ [c] else s.ops j }) := Lib.hid fun _ _ => rfl
      have HRS : Hid (runS ps (matchF ps k) k = { matchF ps k with xs := insX (matchF ps k).xs { run := true, pc := k, left := (pcX ps k).n.toNat } 0 }) := Lib.hid rfl
      have HIS : Hid (inlS ps (matchF ps k) k = { matchF ps k with xs := insX (matchF ps k).xs { t := (pcX ps k).inl } 0 }) := Lib.hid rfl
      have HRP : Hid (runP (pcX ps k) = runBit (pcX ps k).kind (pcX ps k).ch (pcX ps k).n) := Lib.hid rfl
      have HPX : Hid (pcX ps k = pcX ps k) := Lib.hid rfl
      have hs1 := sumN_le ps hk
      have HSM : Hid (runP (pcX ps k) = true → (pcX ps k).n.toNat ≤ 30000) := Lib.hid fun hp => by
        have h := sumN_le ps (show k + 1 ≤ ps.length from hlt)
        rw [show sumN ps (k + 1) = sumN ps k + (if runP (pcX ps k) = true then (pcX ps k).n.toNat else 0) from rfl, if_pos hp] at h
        omega
      have hln := h2.len
      have hpn := h2.prs
      have hbnd : (matchF ps k).xs.length ≤ 70000 ∧ (matchF ps k).prs.length ≤ 30000 := by omega
      generalize hP : pcX ps k = P at *
      generalize matchF ps k = st at *
      obtain ⟨kind, inl, ch, nn, o, cc, im, bg, nd⟩ := P
      try dsimp only at hrg h18 hr
      have hki : (k : Int) < (ps.length : Int) := by omega
      have hk0 : (0 : Int) ≤ (k : Int) := by omega
      have HRG := Lib.hid hrg
      have H18 := Lib.hid h18
      have HR := Lib.hid hr
      have HPX := Lib.hid hP
      have HNX := Lib.hid hnext
      have H1 := Lib.hid h1
      have H2 := Lib.hid h2
      have HB := Lib.hid hb
      have HLW := Lib.hid hLw
      have hcr : w.heap.size ≤ wr.heap.size := hb.size
      have hbw : b < wr.heap.size := by omega
      clear hLw hpc hr hrg h18 hP hnext h1 h2 hb HI hs1 hln hpn
      go_wp2_with (first | (refine wpList_load_mid rfl 34 (.tmp 20) rfl b (off + k * 18) rfl _ _ HRG.out Tryz.underlying34 rfl pcE_size ?_) | (refine wpList_store_row rfl 34 (.tmp 5) (.tmp 21) rfl wr.heap.size #[.int .i64 kind, x0, x1, x2, x3, x4, x5, x6, x7, x8, x9, .string ch, .int .i64 nn, .bool o, .bool cc, .bool im, .int .i64 bg, .int .i64 nd] rfl rfl 34 _ (Blk.new _ _ _) pcE_size (by rfl) (by simpa using H18.out) ?_; rw [World.setRow_alloc_new]) | (refine wpList_load_row rfl 34 (.tmp 5) rfl wr.heap.size rfl 34 #[.int .i64 kind, x0, x1, x2, x3, x4, x5, x6, x7, x8, x9, .string ch, .int .i64 nn, .bool o, .bool cc, .bool im, .int .i64 bg, .int .i64 nd] _ _ (Blk.new _ _ _) Tryz.underlying34 rfl pcE_size ?_))
      have hw1 : Below wr.heap.size wr (wr.alloc (.cells #[.int .i64 kind, x0, x1, x2, x3, x4, x5, x6, x7, x8, x9, .string ch, .int .i64 nn, .bool o, .bool cc, .bool im, .int .i64 bg, .int .i64 nd] 34)) := (Below.refl _ wr).alloc (Nat.le_refl _) _
      have hk1 := Blk.new wr 34 #[.int .i64 kind, x0, x1, x2, x3, x4, x5, x6, x7, x8, x9, .string ch, .int .i64 nn, .bool o, .bool cc, .bool im, .int .i64 bg, .int .i64 nd]
      generalize wr.alloc (.cells #[.int .i64 kind, x0, x1, x2, x3, x4, x5, x6, x7, x8, x9, .string ch, .int .i64 nn, .bool o, .bool cc, .bool im, .int .i64 bg, .int .i64 nd] 34) = W1 at *
      ((with_reducible refine (e_isRun _ _ _ _ _ _ _ _ _ _ _ _ _ _ _ _ _ _ _).mono ?_))
      rintro e W2 ⟨rfl, hb2⟩
      have hw2 := hw1.trans (hb2.mono hw1.size)
      have hk2 := hk1.below hb2 hk1.lt
      have hx2 := hk2.lt
      have hE2 := H1.out.moreNew hw2 hcr
      have HW2 := Lib.hid hw2
      have HK2 := Lib.hid hk2
      have HE2 := Lib.hid hE2
      have hz2 := hw2.size
      have hp2 := hE2.cel.lt
      clear hw1 hk1 hb2 hw2 hk2 hE2
      cases hrp : runBit kind ch nn with
      | true =>
        have rp := HRP.out.trans hrp
        obtain ⟨cl1, lf1, n1, n2⟩ := HRUN.out rp
        have hm3 := HSM.out rp
        try dsimp only at n1 n2 lf1 hm3
        obtain ⟨m, rfl⟩ : ∃ m : Nat, nn = m := ⟨nn.toNat, by omega⟩
        rw [Int.toNat_natCast] at lf1 hm3
        have hst1 : runS ps st k = { st with xs := insX st.xs { run := true, pc := k, left := m } 0 } := by rw [HRS.out]; simp only [Int.toNat_natCast]
        have hem := H2.out.em
        have hbf : bf st.xs 0 ≤ st.xs.length := by
          rw [hem.ring.link.bf_]
          exact Nat.le_of_lt (hem.ring.bd0 _ (lastOf_mem _ _))
        have HINS : Hid (Calls Tryz.prog 19 #[.pointer (some ⟨w.heap.size + 1, 0, none⟩), .agg #[.int .i64 0, .string ⟨#[]⟩, .string ⟨#[]⟩, .string ⟨#[]⟩, .string ⟨#[]⟩, .slice none 0 0, .slice none 0 0, .slice none 0 0, .slice none 0 0, .slice none 0 0, .bool true, .int .i64 k, .int .i64 m, .int .i64 0, .int .i64 0], .int .i64 0] W2 (InsPost w.heap.size (w.heap.size + 1) (.slice (some ⟨b, off, none⟩) ps.length c0) vO vP (fun g => S' g ∨ (wr.heap.size ≤ g ∧ g < W2.heap.size)) st (runS ps st k) W2)) := Lib.hid (by
          rw [hst1]
          exact e_insert W2 HE2.out (by omega) _ _ _ _ _ _ _ _ _ _ zeroT true k m 0 0 0 (RepI.zero _ _) hem.ring.pos hbf (by omega) { run := true, pc := k, left := m } rfl)
        have HCL := Lib.hid cl1
        have HLF := Lib.hid lf1
        have HRPT := Lib.hid rp
        have hl1 : (runS ps st k).xs.length = st.xs.length + 1 := by unfold runS; rw [len_ins]
        have HL1 := Lib.hid hl1
        have k3 := HK2.out.cell 12
        have hcw : (wr.heap.size : Nat) < W2.heap.size := hx2
        have r3 : W2.cell? ⟨wr.heap.size, 12, none⟩ = some (.int .i64 m) := k3
        clear cl1 lf1 rp hst1 hem hbf hl1 k3 hrp
        go_wp2_with fail
        ((with_reducible refine HINS.out.mono ?_))
        rintro e W3 ⟨vE3, vs3, rfl, f1, f2, f3⟩
        have hk3 : Blk W3 wr.heap.size 34 #[.int .i64 kind, x0, x1, x2, x3, x4, x5, x6, x7, x8, x9, .string ch, .int .i64 m, .bool o, .bool cc, .bool im, .int .i64 bg, .int .i64 nd] := (f3 wr.heap.size (Or.inr ⟨Nat.le_refl _, hx2⟩)).trans HK2.out
        have r14 : W3.cell? ⟨wr.heap.size, 14, none⟩ = some (.bool cc) := hk3.cell 14
        have HBW3 : Hid (Below w.heap.size wr W3) := Lib.hid ((HW2.out.mono hcr).trans f2)
        have HF1 := Lib.hid f1
        have HK3 := Lib.hid hk3
        clear f1 f2 f3 hk3 r3 HINS
        go_upto_if 32 with fail
        go_cut [] (fun wx => StBE w.heap.size (w.heap.size + 1) (.slice (some ⟨b, off, none⟩) ps.length c0) wr.heap.size #[.int .i64 kind, x0, x1, x2, x3, x4, x5, x6, x7, x8, x9, .string ch, .int .i64 m, .bool o, .bool cc, .bool im, .int .i64 bg, .int .i64 nd] w (if cc = true then clsA ps st.xs.length (runS ps st k) else runS ps st k) wx)
        case first =>
          cases cc with
          | false =>
            go_wp2_with fail
            go_meet
            exact ⟨_, _, _, _, _, HF1.out, HK3.out, Or.inr ⟨Nat.le_refl _, hx2⟩, HB.out.trans HBW3.out⟩
          | true =>
            have HCR := Lib.hid (e_closeRun (k := 190000) W3 HF1.out HCL.out (HLW.out.keep (fun g hg => HBW3.out.block g hg) fun _ h => h) (by have := HBW3.out.size; omega) (by rw [HL1.out, HLF.out]; omega) (by rw [HLF.out]; show st.prs.length + m ≤ _; omega) (by omega) hlt (by rw [HPX.out]; exact n1) (by rw [HPX.out]; exact n2))
            go_wp2_with fail
            ((with_reducible refine HCR.out.mono ?_))
            rintro e W4 ⟨vE4, vO4, vP4, S4, vs4, rfl, g1, g2, g3, g4⟩
            have HF := Lib.hid (show StBE w.heap.size (w.heap.size + 1) (.slice (some ⟨b, off, none⟩) ps.length c0) wr.heap.size #[.int .i64 kind, x0, x1, x2, x3, x4, x5, x6, x7, x8, x9, .string ch, .int .i64 m, .bool o, .bool true, .bool im, .int .i64 bg, .int .i64 nd] w (if true = true then clsA ps st.xs.length (runS ps st k) else runS ps st k) W4 from ⟨vE4, vO4, vP4, S4, vs4, g1, (g4 wr.heap.size (Or.inr ⟨Nat.le_refl _, hx2⟩)).trans HK3.out, g2 _ (Or.inr ⟨Nat.le_refl _, hx2⟩), HB.out.trans (HBW3.out.trans g3)⟩)
            clear g1 g2 g3 g4 HCR
            go_wp2_with fail
            go_meet
            exact HF.out
        case rest =>
        obtain ⟨vE5, vO5, vP5, S5, vs5, e5, k5, s5, b5⟩ := hcut
        have hcnt : ∃ L', ClI ps k st.xs.length (if cc = true then clsA ps st.xs.length (runS ps st k) else runS ps st k) L' ∧ (if cc = true then clsA ps st.xs.length (runS ps st k) else runS ps st k).xs.length ≤ 190000 := by
          by_cases hcc : cc = true
          · rw [if_pos hcc]
            obtain ⟨L', d1, d2, d3⟩ := HCL.out.all
            rw [HL1.out] at d2
            rw [HLF.out] at d3
            have : (runS ps st k).prs.length = st.prs.length := rfl
            exact ⟨L', d1, by omega⟩
          · rw [if_neg hcc]; exact ⟨_, HCL.out, by rw [HL1.out]; omega⟩
        have hnx := HSR.out HRPT.out
        try dsimp only at hnx
        generalize (if cc = true then clsA ps st.xs.length (runS ps st k) else runS ps st k) = s2 at *
        obtain ⟨L', hc1, hc2⟩ := hcnt
        have hops : ∀ j, (s2.ops j).length ≤ 190000 := fun j => Nat.le_trans (nodup_le s2.xs.length _ ((hc1.em.oas j).imp fun h => Nat.ne_of_lt h) fun x hx => hc1.em.ring.bd x (hc1.em.ops j x hx).1) hc2
        have hcl := hc1.lt
        obtain ⟨g5, cap5, rfl, -, -, hgp5, fz5, -⟩ := e5.row (by omega)
        have m1 := e5.cel.c1
        obtain ⟨-, mc, -, -⟩ := e5.at_ st.xs.length hcl
        have mc2 : wc.cell? ⟨g5, st.xs.length * 15 + 12, none⟩ = some (.int .i64 (lfX s2.xs st.xs.length : Nat)) := mc
        have r13 : wc.cell? ⟨wr.heap.size, 13, none⟩ = some (.bool o) := k5.cell 13
        have hci : (st.xs.length : Int) < (s2.xs.length : Int) := by omega
        have hc0 : (0 : Int) ≤ (st.xs.length : Int) := by omega
        have HE5 := Lib.hid e5
        have HK5 := Lib.hid k5
        have HB5 := Lib.hid b5
        have HNXT := Lib.hid hnx
        clear mc e5 k5 s5 b5 hc1 hnx r14
        generalize lfX s2.xs st.xs.length = lf at *
        cases o with
        | false =>
          have HF : Hid (MatW w.heap.size (w.heap.size + 1) (.slice (some ⟨b, off, none⟩) ps.length c0) ps (matchF ps (k + 1)) (k + 1) w wc) := Lib.hid (by
            obtain ⟨ids', hn⟩ := HNX.out
            rw [HSTEP.out]
            refine ⟨⟨(.slice (some ⟨g5, 0, none⟩) s2.xs.length cap5), vO5, vP5, S5, vs5, ids', ?_, hn⟩, HB5.out⟩
            rw [HNXT.out]
            simpa using HE5.out)
          go_wp2_with fail
          go_roundw
          case rel => exact ⟨k + 1, by omega, by go_num, HF⟩
          case measure => simp [intOf]; omega
        | true =>
          by_cases hlf : 0 < lf
          · have d1 : decide (lf > 0) = true := decide_eq_true hlf
            have d2 : decide (0 < lf) = true := decide_eq_true hlf
            have HOL := Lib.hid (e_openersLike (w.heap.size + 1) kind (m : Int) x0 x1 x2 x3 x4 x5 x6 x7 x8 x9 ch true cc im bg nd wc n1 n2)
            rw [Int.toNat_natCast] at HOL
            have hj : (charNum ch * 3 + m % 3) * 2 + (if cc = true then 1 else 0) < 18 := by
              have := charNum_lt ch
              split <;> omega
            have hko : kindO ⟨kind, inl, ch, (m : Int), true, cc, im, bg, nd⟩ = (charNum ch * 3 + m % 3) * 2 + (if cc = true then 1 else 0) := by
              rw [HKO.out]; simp only [Int.toNat_natCast]
            have HKO2 := Lib.hid hko
            clear hko
            generalize (charNum ch * 3 + m % 3) * 2 + (if cc = true then 1 else 0) = j at *
            go_wp2_with (refine wpList_load_row rfl 34 (.tmp 5) rfl wr.heap.size rfl 34 #[.int .i64 kind, x0, x1, x2, x3, x4, x5, x6, x7, x8, x9, .string ch, .int .i64 m, .bool true, .bool cc, .bool im, .int .i64 bg, .int .i64 nd] _ _ HK5.out Tryz.underlying34 rfl pcE_size ?_)
            ((with_reducible refine HOL.out.mono ?_))
            rintro e W6 ⟨rfl, hb6⟩
            have e6 := HE5.out.below hb6
            obtain ⟨AO, cO, hvO, hlmO, -⟩ := own_form (e6.ops j hj)
            have hcO := e6.cel.cO j hj
            have hfO := e6.cel.frozen (2 + j)
            have hoj := hops j
            have hpO : (vO5 j).ownBlock ≠ some (w.heap.size + 1) := by
              obtain ⟨cs, hbk, _⟩ := e6.cel.blk
              exact own_blk (e6.ops j hj) hbk (by decide)
            have hown6 := e6.ops j hj
            have hcb : w.heap.size ≤ W6.heap.size := by have := HB5.out.size; have := hb6.size; omega
            have hAl : Below W6.heap.size W6 (W6.alloc (.cells #[.int .i64 st.xs.length] 3)) := (Below.refl _ W6).alloc (Nat.le_refl _) _
            have HPU := Lib.hid fun (W7 : World) (g7 cap7 : Nat) hown hgrow hlies => (e6.below hAl).pushO (w2 := W7) (x := st.xs.length) (g := g7) (cap := cap7) (H := W6.heap.size + 1) (by rw [World.size_alloc]; omega) j hj hown hgrow hlies (by rw [World.size_alloc]; exact Nat.le_refl _)
            have hp6 := e6.cel.lt
            have HNP := Lib.hid fun (W7 : World) (hgrow : (W6.alloc (.cells #[.int .i64 st.xs.length] 3)).grownBy W7 (vO5 j).ownBlock) => (show W7.cell? ⟨w.heap.size + 1, 2 + j, none⟩ = some (vO5 j) ∧ W7.frozen? ⟨w.heap.size + 1, 2 + j, none⟩ = false by
              have hb : W7.heap[w.heap.size + 1]? = W6.heap[w.heap.size + 1]? := (hgrow.block _ (by rw [World.size_alloc]; omega) (fun e => hpO e.symm)).trans (hAl.block _ hp6)
              exact ⟨(World.cell?_of_block (a := ⟨w.heap.size + 1, 2 + j, none⟩) hb).trans hcO, (World.frozen?_of_block (a := ⟨w.heap.size + 1, 2 + j, none⟩) hb).trans hfO⟩)
            have HB6 := Lib.hid (HB5.out.trans ((hb6.mono (by have := HB5.out.size; omega)).trans (hAl.mono hcb)))
            rw [hvO] at hcO HNP HPU hown6
            obtain ⟨i0, hi0, hz0, hz1, hz2'⟩ := info_parts int_info
            have HOW := Lib.hid hown6
            clear e6 hb6 hAl hvO hown6
            go_wp2_with (at_builtin; refine wpList_append_lies _ rfl _ _ 52 rfl w.heap.size 3 i0 _ 1 8 Tryz.underlying52 hi0 hz0 hz1 hz2' rfl (by decide) _ _ _ rfl (HOW.out.alloc _) ⟨W6.heap.size, 0, none⟩ 1 1 [.int .i64 st.xs.length] rfl rfl ?c1 ?c2 (by decide) ?c3 ?c4 ?c5 (W6.heap.size + 1) ?c6 ?_)
            case c1 => exact World.news_of_block (t := 3) (fr := (0, 0)) (heap_alloc_new W6 _)
            case c2 => simp [Value.oneCell']
            case c3 => unfold maxLen; omega
            case c4 => omega
            case c5 => simp; omega
            case c6 => simp
            intro g7 cap7 W7 hown hgrow hlies hlt7
            obtain ⟨n20, nf20⟩ := HNP.out W7 hgrow
            obtain ⟨p1, p2⟩ := HPU.out W7 g7 cap7 hown hgrow hlies
            have HF : Hid (MatW w.heap.size (w.heap.size + 1) (.slice (some ⟨b, off, none⟩) ps.length c0) ps (matchF ps (k + 1)) (k + 1) w (W7.setCell ⟨w.heap.size + 1, 2 + j, none⟩ (.slice (some ⟨g7, 0, none⟩) ((s2.ops j).length + 1) cap7))) := Lib.hid (by
              obtain ⟨ids', hn⟩ := HNX.out
              rw [HSTEP.out]
              exact MatW.of p1 (by rw [HNXT.out, if_pos (by simp [hlf]), HOS.out, HKO2.out]) hn (HB6.out.trans p2))
            clear p1 p2 hown hgrow hlies hlt7 HPU HNP
            go_wp2_with fail
            go_roundw
            case rel => exact ⟨k + 1, by omega, by go_num, HF⟩
            case measure => simp [intOf]; omega
          · have d1 : decide (lf > 0) = false := decide_eq_false hlf
            have d2 : decide (0 < lf) = false := decide_eq_false hlf
            have HF : Hid (MatW w.heap.size (w.heap.size + 1) (.slice (some ⟨b, off, none⟩) ps.length c0) ps (matchF ps (k + 1)) (k + 1) w wc) := Lib.hid (by
              obtain ⟨ids', hn⟩ := HNX.out
              rw [HSTEP.out]
              refine ⟨⟨(.slice (some ⟨g5, 0, none⟩) s2.xs.length cap5), vO5, vP5, S5, vs5, ids', ?_, hn⟩, HB5.out⟩
              rw [HNXT.out, if_neg (fun h => hlf h.2)]
              exact HE5.out)
            go_wp2_with fail
            go_roundw
            case rel => exact ⟨k + 1, by omega, by go_num, HF⟩
            case measure => simp [intOf]; omega
      | false =>
        have rp := HRP.out.trans hrp
        obtain ⟨ex0, ex1⟩ := RepI.two HR.out
        subst ex0
        subst ex1
        have HRPF := Lib.hid rp
        have r0 : W2.cell? ⟨wr.heap.size, 0, none⟩ = some (.int .i64 kind) := HK2.out.cell 0
        have r1 : W2.cell? ⟨wr.heap.size, 1, none⟩ = some (.int .i64 inl.kind) := HK2.out.cell 1
        have r2 : W2.cell? ⟨wr.heap.size, 2, none⟩ = some (.string inl.text) := HK2.out.cell 2
        have HNO : Hid (¬ (kind = 0 ∧ (inl.kind ≠ 1 ∨ inl.text.toList ≠ [])) → MatW w.heap.size (w.heap.size + 1) (.slice (some ⟨b, off, none⟩) ps.length c0) ps (matchF ps (k + 1)) (k + 1) w W2) := Lib.hid fun hn0 => by
          obtain ⟨ids', hn⟩ := HNX.out
          rw [HSTEP.out]
          exact MatW.of HE2.out (HSN.out HRPF.out hn0) hn (HB.out.trans (HW2.out.mono hcr))
        have HYES : Hid (kind = 0 ∧ (inl.kind ≠ 1 ∨ inl.text.toList ≠ []) → Calls Tryz.prog 19 #[.pointer (some ⟨w.heap.size + 1, 0, none⟩), .agg #[.int .i64 inl.kind, .string inl.text, x2, x3, x4, x5, x6, x7, x8, x9, .bool false, .int .i64 0, .int .i64 0, .int .i64 0, .int .i64 0], .int .i64 0] W2 fun e w' => e = .returned (.int .i64 (st.xs.length : Nat)) ∧ MatW w.heap.size (w.heap.size + 1) (.slice (some ⟨b, off, none⟩) ps.length c0) ps (matchF ps (k + 1)) (k + 1) w w') := Lib.hid fun hy => by
          have hem := H2.out.em
          have hbf : bf st.xs 0 ≤ st.xs.length := by
            rw [hem.ring.link.bf_]
            exact Nat.le_of_lt (hem.ring.bd0 _ (lastOf_mem _ _))
          have hri := HR.out.keep (fun g hg => HW2.out.block g (by omega)) fun g hg => H1.out.low g hg
          have hin := e_insert W2 HE2.out (by omega) _ _ _ _ _ _ _ _ _ _ inl false 0 0 0 0 0 (hri.keep (fun _ _ => rfl) fun g hg => Or.inl hg) hem.ring.pos hbf (by omega) { t := inl } rfl
          refine hin.mono fun e w' hP => ?_
          obtain ⟨vE3, vs3, he, f1, f2, f3⟩ := hP
          obtain ⟨ids', hn⟩ := HNX.out
          refine ⟨he, ?_⟩
          rw [HSTEP.out]
          exact MatW.of f1 ((HSI.out HRPF.out hy).trans HIS.out) hn (HB.out.trans ((HW2.out.mono hcr).trans f2))
        have HRG1 : Hid (W2.rangeAt wr.heap.size 1 [.int .i64 inl.kind, .string inl.text, x2, x3, x4, x5, x6, x7, x8, x9]) := Lib.hid fun j u hj => by
          have hj10 := (List.getElem?_eq_some_iff.1 hj).1
          simp only [List.length_cons, List.length_nil] at hj10
          rw [HK2.out.cell (1 + j), ← hj, ← Array.getElem?_toList, Nat.add_comm 1 j]
          exact (List.getElem?_append_left (l₁ := [.int .i64 inl.kind, .string inl.text, x2, x3, x4, x5, x6, x7, x8, x9]) (l₂ := [.string ch, .int .i64 nn, .bool o, .bool cc, .bool im, .int .i64 bg, .int .i64 nd]) (by simpa using hj10))
        clear rp hrp
        by_cases hk0 : kind = 0
        · have d1 : (kind == 0) = true := beq_iff_eq.2 hk0
          by_cases hik : inl.kind = 1
          · have d2 : (inl.kind != 1) = false := by rw [hik]; rfl
            by_cases ht : inl.text.toList = []
            · have d3 : inl.text.toList.isEmpty = true := by rw [ht]; rfl
              have HF := Lib.hid (HNO.out fun h => h.2.elim (fun h => h hik) fun h => h ht)
              clear HNO HYES hik
              go_wp2_with fail
              go_roundw
              case rel => exact ⟨k + 1, by omega, by go_num, HF⟩
              case measure => simp [intOf]; omega
            · have d3 : inl.text.toList.isEmpty = false := by cases h : inl.text.toList with | nil => exact absurd h ht | cons a l => rfl
              have HF := Lib.hid (HYES.out ⟨hk0, .inr ht⟩)
              clear HNO HYES hik
              go_wp2_with (refine wpList_load_mid rfl 32 (.tmp 77) rfl wr.heap.size 1 rfl _ _ HRG1.out Tryz.underlying32 rfl inl_size ?_)
              ((with_reducible refine HF.out.mono ?_))
              rintro e W3 ⟨rfl, hM⟩
              have HM := Lib.hid hM
              clear hM HF
              go_wp2_with fail
              go_roundw
              case rel => exact ⟨k + 1, by omega, by go_num, HM⟩
              case measure => simp [intOf]; omega
          · have d2 : (inl.kind != 1) = true := bne_iff_ne.2 hik
            have HF := Lib.hid (HYES.out ⟨hk0, .inl hik⟩)
            clear HNO HYES hik
            go_wp2_with (refine wpList_load_mid rfl 32 (.tmp 77) rfl wr.heap.size 1 rfl _ _ HRG1.out Tryz.underlying32 rfl inl_size ?_)
            ((with_reducible refine HF.out.mono ?_))
            rintro e W3 ⟨rfl, hM⟩
            have HM := Lib.hid hM
            clear hM HF
            go_wp2_with fail
            go_roundw
            case rel => exact ⟨k + 1, by omega, by go_num, HM⟩
            case measure => simp [intOf]; omega
        · have d1 : (kind == 0) = false := beq_eq_false_iff_ne.2 hk0
          have HF := Lib.hid (HNO.out fun h => hk0 h.1)
          clear HNO HYES
          go_wp2_with fail
          go_roundw
          case rel => exact ⟨k + 1, by omega, by go_num, HF⟩
          case measure => simp [intOf]; omega
    · obtain rfl : k = ps.length := by omega
      obtain ⟨⟨vE, vO, vP, S', vs, ids, q1, q2⟩, q3⟩ := HI.out
      have HF : Hid (MatPost w.heap.size (w.heap.size + 1) (.slice A0 ps.length c0) (matchA ps) w (.returned (.pointer (some ⟨w.heap.size + 1, 0, none⟩))) wr) := Lib.hid ⟨rfl, q3, vE, vO, vP, S', vs, q1⟩
      clear q1 q2 q3 HI
      go_wp2_with fail
      go_ret
      exact HF.out

end Go.Proofs.YtfnloonmeilhlaaGreatDoor
namespace Go.Proofs.YtfnloonmeilhlaaGreatDoor
open Go.RowKit Go.Pub
def ClnP (z n : Nat) (xs : List Value) (w : World) (e : Ending) (w' : World) : Prop :=
  ∃ A c, e = .returned (.slice A n c) ∧ ReadsS w' (fun g => w.heap.size ≤ g ∧ g < w'.heap.size) z A n xs ∧ Below w.heap.size w w'
theorem str_infoE : (Tryz.prog.info? 9).map (fun i => (i.zero, i.size, i.bytes)) = some (some (.string ⟨#[]⟩), 1, 16) := by kernel_rfl
set_option maxHeartbeats 2000000 in
set_option maxRecDepth 100000 in
theorem clone_str {S : Nat → Prop} {A : Option Addr} {n c : Nat} {xs : List Value} (w : World) (h : ReadsS w S 1 A n xs) (h1 : ∀ u ∈ xs, u.oneCell' = true) (hn : n ≤ 1000000) : Calls Tryz.prog 46 #[.slice A n c] w (ClnP 1 n xs w) := by
  have q24 : ∀ (w : World) (a : Option Addr) (n c n' c' : Nat), (binOp .eql 25 (.slice a n c) (.slice none n' c')).run Tryz.prog w = .ok (.bool a.isNone) w := fun w a n c n' c' => Lib.run_eql_slice_nil w _ _ a n c n' c' Tryz.underlying25
  have u24 : ∀ w, Sem.run Tryz.prog (underlying 25) w = .ok (TypeDesc.slice 9) w := run_underlying Tryz.underlying25
  obtain ⟨i0, hi, hz0, hz1, hz2⟩ := info_parts str_infoE
  cases A with
  | none =>
    have h0 : n = 0 := by
      rcases Nat.eq_zero_or_pos n with h0 | h0
      · exact h0
      · obtain ⟨ad, e, _⟩ := h.2 h0; cases e
    subst h0
    have hx : xs = [] := List.length_eq_zero_iff.1 (by have := h.1.1; omega)
    subst hx
    clear h h1
    go_enter Tryz.func46, Tryz.ntmps46
    go_wp2
    go_ret
    exact ⟨none, 0, rfl, ReadsS.none_, Below.refl _ _⟩
  | some ad =>
    have HR := Lib.hid h
    have HO := Lib.hid h1
    clear h h1
    go_enter Tryz.func46, Tryz.ntmps46
    go_wp2_with (at_builtin; refine wpList_append_own _ rfl _ _ 25 rfl w.heap.size 9 i0 _ 1 16 Tryz.underlying25 hi hz0 hz1 hz2 rfl (by decide) _ _ _ rfl (World.ownsRow_made w #[] 0 (Nat.le_refl _) (Nat.zero_le _) rfl) ad n c xs rfl ?qc1 ?qc2 ?qc3 ?qc4 ?qc5 ?qc6 ?_)
    case qc1 => exact HR.out.1.1
    case qc2 =>
      intro j u hj
      refine Lib.cell?_alloc_some _ ?_
      have hjl := (List.getElem?_eq_some_iff.1 hj).1
      have hl := HR.out.1.1
      obtain ⟨ad', e, -, hc⟩ := HR.out.2 (Nat.pos_of_ne_zero fun h0 => by subst h0; omega)
      injection e with e
      subst e
      exact hc j u hj
    case qc3 => exact HO.out
    case qc4 => unfold maxLen; omega
    case qc5 => omega
    case qc6 => simp
    intro v' w1 hown hgrow hnil
    have hb : Below w.heap.size w w1 := ((Below.refl _ w).alloc (Nat.le_refl _) _).grown hgrow (by simp) (by intro k hk; simp [Value.ownBlock] at hk; omega)
    obtain ⟨A', c', hv, -, -⟩ := own_form hown
    subst hv
    have HF := Lib.hid (show ClnP 1 n xs w (.returned (.slice A' n c')) w1 from ⟨A', c', rfl, ReadsS.of_own hown, hb⟩)
    clear hb hown hgrow hnil
    go_wp2_with fail
    go_ret
    exact HF.out

theorem pair_info : (Tryz.prog.info? 121).map (fun i => (i.zero, i.size, i.bytes)) = some (some (.agg #[.string ⟨#[]⟩, .string ⟨#[]⟩]), 2, 32) := by kernel_rfl
set_option maxHeartbeats 2000000 in
set_option maxRecDepth 100000 in
theorem clone_pair {S : Nat → Prop} {A : Option Addr} {n c : Nat} {xs : List Value} (w : World) (h : ReadsS w S 2 A n xs) (h1 : ∀ u ∈ xs, u.oneCell' = true) (hn : n ≤ 1000000) : Calls Tryz.prog 68 #[.slice A n c] w (ClnP 2 n xs w) := by
  have q24 : ∀ (w : World) (a : Option Addr) (n c n' c' : Nat), (binOp .eql 26 (.slice a n c) (.slice none n' c')).run Tryz.prog w = .ok (.bool a.isNone) w := fun w a n c n' c' => Lib.run_eql_slice_nil w _ _ a n c n' c' Tryz.underlying26
  have u24 : ∀ w, Sem.run Tryz.prog (underlying 26) w = .ok (TypeDesc.slice 121) w := run_underlying Tryz.underlying26
  obtain ⟨i0, hi, hz0, hz1, hz2⟩ := info_parts pair_info
  cases A with
  | none =>
    have h0 : n = 0 := by
      rcases Nat.eq_zero_or_pos n with h0 | h0
      · exact h0
      · obtain ⟨ad, e, _⟩ := h.2 h0; cases e
    subst h0
    have hx : xs = [] := List.length_eq_zero_iff.1 (by have := h.1.1; omega)
    subst hx
    clear h h1
    go_enter Tryz.func68, Tryz.ntmps68
    go_wp2
    go_ret
    exact ⟨none, 0, rfl, ReadsS.none_, Below.refl _ _⟩
  | some ad =>
    have HR := Lib.hid h
    have HO := Lib.hid h1
    clear h h1
    go_enter Tryz.func68, Tryz.ntmps68
    go_wp2_with (at_builtin; refine wpList_append_own _ rfl _ _ 26 rfl w.heap.size 121 i0 _ 2 32 Tryz.underlying26 hi hz0 hz1 hz2 rfl (by decide) _ _ _ rfl (World.ownsRow_made w #[] 0 (Nat.le_refl _) (Nat.zero_le _) rfl) ad n c xs rfl ?qc1 ?qc2 ?qc3 ?qc4 ?qc5 ?qc6 ?_)
    case qc1 => exact HR.out.1.1
    case qc2 =>
      intro j u hj
      refine Lib.cell?_alloc_some _ ?_
      have hjl := (List.getElem?_eq_some_iff.1 hj).1
      have hl := HR.out.1.1
      obtain ⟨ad', e, -, hc⟩ := HR.out.2 (Nat.pos_of_ne_zero fun h0 => by subst h0; omega)
      injection e with e
      subst e
      exact hc j u hj
    case qc3 => exact HO.out
    case qc4 => unfold maxLen; omega
    case qc5 => omega
    case qc6 => simp
    intro v' w1 hown hgrow hnil
    have hb : Below w.heap.size w w1 := ((Below.refl _ w).alloc (Nat.le_refl _) _).grown hgrow (by simp) (by intro k hk; simp [Value.ownBlock] at hk; omega)
    obtain ⟨A', c', hv, -, -⟩ := own_form hown
    subst hv
    have HF := Lib.hid (show ClnP 2 n xs w (.returned (.slice A' n c')) w1 from ⟨A', c', rfl, ReadsS.of_own hown, hb⟩)
    clear hb hown hgrow hnil
    go_wp2_with fail
    go_ret
    exact HF.out

theorem cited_infoE : (Tryz.prog.info? 99).map (fun i => (i.zero, i.size, i.bytes)) = some (some (.agg #[.string ⟨#[]⟩, .string ⟨#[]⟩, .string ⟨#[]⟩, .bool false]), 4, 56) := by kernel_rfl
set_option maxHeartbeats 2000000 in
set_option maxRecDepth 100000 in
theorem clone_cited {S : Nat → Prop} {A : Option Addr} {n c : Nat} {xs : List Value} (w : World) (h : ReadsS w S 4 A n xs) (h1 : ∀ u ∈ xs, u.oneCell' = true) (hn : n ≤ 1000000) : Calls Tryz.prog 47 #[.slice A n c] w (ClnP 4 n xs w) := by
  have q24 : ∀ (w : World) (a : Option Addr) (n c n' c' : Nat), (binOp .eql 29 (.slice a n c) (.slice none n' c')).run Tryz.prog w = .ok (.bool a.isNone) w := fun w a n c n' c' => Lib.run_eql_slice_nil w _ _ a n c n' c' Tryz.underlying29
  have u24 : ∀ w, Sem.run Tryz.prog (underlying 29) w = .ok (TypeDesc.slice 99) w := run_underlying Tryz.underlying29
  obtain ⟨i0, hi, hz0, hz1, hz2⟩ := info_parts cited_infoE
  cases A with
  | none =>
    have h0 : n = 0 := by
      rcases Nat.eq_zero_or_pos n with h0 | h0
      · exact h0
      · obtain ⟨ad, e, _⟩ := h.2 h0; cases e
    subst h0
    have hx : xs = [] := List.length_eq_zero_iff.1 (by have := h.1.1; omega)
    subst hx
    clear h h1
    go_enter Tryz.func47, Tryz.ntmps47
    go_wp2
    go_ret
    exact ⟨none, 0, rfl, ReadsS.none_, Below.refl _ _⟩
  | some ad =>
    have HR := Lib.hid h
    have HO := Lib.hid h1
    clear h h1
    go_enter Tryz.func47, Tryz.ntmps47
    go_wp2_with (at_builtin; refine wpList_append_own _ rfl _ _ 29 rfl w.heap.size 99 i0 _ 4 56 Tryz.underlying29 hi hz0 hz1 hz2 rfl (by decide) _ _ _ rfl (World.ownsRow_made w #[] 0 (Nat.le_refl _) (Nat.zero_le _) rfl) ad n c xs rfl ?qc1 ?qc2 ?qc3 ?qc4 ?qc5 ?qc6 ?_)
    case qc1 => exact HR.out.1.1
    case qc2 =>
      intro j u hj
      refine Lib.cell?_alloc_some _ ?_
      have hjl := (List.getElem?_eq_some_iff.1 hj).1
      have hl := HR.out.1.1
      obtain ⟨ad', e, -, hc⟩ := HR.out.2 (Nat.pos_of_ne_zero fun h0 => by subst h0; omega)
      injection e with e
      subst e
      exact hc j u hj
    case qc3 => exact HO.out
    case qc4 => unfold maxLen; omega
    case qc5 => omega
    case qc6 => simp
    intro v' w1 hown hgrow hnil
    have hb : Below w.heap.size w w1 := ((Below.refl _ w).alloc (Nat.le_refl _) _).grown hgrow (by simp) (by intro k hk; simp [Value.ownBlock] at hk; omega)
    obtain ⟨A', c', hv, -, -⟩ := own_form hown
    subst hv
    have HF := Lib.hid (show ClnP 4 n xs w (.returned (.slice A' n c')) w1 from ⟨A', c', rfl, ReadsS.of_own hown, hb⟩)
    clear hb hown hgrow hnil
    go_wp2_with fail
    go_ret
    exact HF.out

end Go.Proofs.YtfnloonmeilhlaaGreatDoor
namespace Go.Pub
mutual
def sizeI : InT → Nat
  | .mk _ t _ _ a ar c kids => 1 + t.size + a.cl.length + a.pr.length + ar.length + c.length + sizeL kids
def sizeL : List InT → Nat
  | [] => 0
  | x :: l => sizeI x + sizeL l
end
end Go.Pub
namespace Go.Proofs.YtfnloonmeilhlaaGreatDoor
open Go.RowKit Go.Pub
/-- What lies in new memory. -/
def NewG (w w' : World) (g : Nat) : Prop := w.heap.size ≤ g ∧ g < w'.heap.size
theorem row_ret {F : Func} {a T : Nat} {W : World} {g : Nat} {cs : Array Value} {P : Ending → World → Prop} {act : Act} (hF : F.results = #[ResultVar.cell a T]) (hl : (loadVar T ⟨g, 0, none⟩).run Tryz.prog W = .ok (.agg cs) W)
    (h4 : act.tmps.getD a undef = .pointer (some ⟨g, 0, none⟩)) (hdf : act.defers = []) (hP : P (.returned (.agg cs)) W) : bodyPost Tryz.prog F P Exit.ret act W := by
  refine bodyPost_ret (v := .agg cs) ?_ hdf hP
  rw [Array.getD_eq_getD_getElem?] at h4
  simp [results, hF, h4, asAddr, hl]
theorem attr_size : (Tryz.prog.info? 28).map (·.size) = some 3 := by kernel_rfl
def CpyP (id : ByteArray) (cl : List ByteArray) (pr : List (ByteArray × ByteArray)) (w : World) (e : Ending) (w' : World) : Prop :=
  ∃ A1 c1 A2 c2, e = .returned (.agg #[.string id, .slice A1 cl.length c1, .slice A2 pr.length c2]) ∧ ReadsS w' (NewG w w') 1 A1 cl.length (strs cl) ∧ ReadsS w' (NewG w w') 2 A2 pr.length (prs pr) ∧ Below w.heap.size w w'
theorem strs_one (l : List ByteArray) : ∀ u ∈ strs l, u.oneCell' = true := by
  intro u hu
  unfold strs at hu
  obtain ⟨x, _, rfl⟩ := List.mem_map.1 hu
  rfl
theorem prs_one (l : List (ByteArray × ByteArray)) : ∀ u ∈ prs l, u.oneCell' = true := by
  intro u hu
  unfold prs at hu
  obtain ⟨x, _, hx⟩ := List.mem_flatMap.1 hu
  simp only [List.mem_cons, List.not_mem_nil, or_false] at hx
  rcases hx with rfl | rfl <;> rfl
theorem citVT_one (l : List CitL) : ∀ u ∈ citVT l, u.oneCell' = true := by
  intro u hu
  unfold citVT at hu
  obtain ⟨x, _, hx⟩ := List.mem_flatMap.1 hu
  simp only [List.mem_cons, List.not_mem_nil, or_false] at hx
  rcases hx with rfl | rfl | rfl | rfl <;> rfl
set_option maxHeartbeats 4000000 in
set_option maxRecDepth 100000 in
theorem t_copyAttr {S : Nat → Prop} {A1 A2 : Option Addr} {c1 c2 : Nat} {id : ByteArray} {cl : List ByteArray} {pr : List (ByteArray × ByteArray)} (w : World) (h1 : ReadsS w S 1 A1 cl.length (strs cl)) (h2 : ReadsS w S 2 A2 pr.length (prs pr)) (hS : ∀ g, S g → g < w.heap.size) (n1 : cl.length ≤ 1000000) (n2 : pr.length ≤ 1000000) :
    Calls Tryz.prog 45 #[.agg #[.string id, .slice A1 cl.length c1, .slice A2 pr.length c2]] w (CpyP id cl pr w) := by
  have H1 := Lib.hid h1
  have H2 := Lib.hid h2
  have HS := Lib.hid hS
  clear h1 h2 hS
  go_enter Tryz.func45, Tryz.ntmps45
  go_wp2_with fail
  have b1 : Blk ((w.alloc (.cells #[.string id, .slice A1 cl.length c1, .slice A2 pr.length c2] 28)).alloc (.cells #[.string ⟨#[]⟩, .slice none 0 0, .slice none 0 0] 28)) w.heap.size 28 #[.string id, .slice A1 cl.length c1, .slice A2 pr.length c2] := (Blk.new _ _ _).alloc _
  have b2 : Blk ((w.alloc (.cells #[.string id, .slice A1 cl.length c1, .slice A2 pr.length c2] 28)).alloc (.cells #[.string ⟨#[]⟩, .slice none 0 0, .slice none 0 0] 28)) (w.heap.size + 1) 28 #[.string ⟨#[]⟩, .slice none 0 0, .slice none 0 0] := by
    have := Blk.new (w.alloc (.cells #[.string id, .slice A1 cl.length c1, .slice A2 pr.length c2] 28)) 28 #[.string ⟨#[]⟩, .slice none 0 0, .slice none 0 0]
    rw [World.size_alloc] at this
    exact this
  have hb : Below w.heap.size w ((w.alloc (.cells #[.string id, .slice A1 cl.length c1, .slice A2 pr.length c2] 28)).alloc (.cells #[.string ⟨#[]⟩, .slice none 0 0, .slice none 0 0] 28)) := ((Below.refl _ w).alloc (Nat.le_refl _) _).alloc (by simp) _
  generalize (w.alloc (.cells #[.string id, .slice A1 cl.length c1, .slice A2 pr.length c2] 28)).alloc (.cells #[.string ⟨#[]⟩, .slice none 0 0, .slice none 0 0] 28) = W1 at *
  ((with_reducible refine (clone_str W1 (H1.out.keep (fun g hg => hb.block g (HS.out g hg)) fun _ h => h) (strs_one cl) n1).mono ?_))
  rintro e W2 ⟨A3, c3, rfl, r1, p1⟩
  have l1 := b1.lt
  have l2 := b2.lt
  have q1 := b1.below p1 l1
  have q2 := b2.below p1 l2
  have x1 := q1.cell 1
  have x2 := q1.frozen 1
  have x3 : W2.cell? ⟨w.heap.size, 2, none⟩ = some (.slice A2 pr.length c2) := q1.cell 2
  have hz2 := p1.size
  have HQ1 := Lib.hid (q1.set_ 1 (.slice A3 cl.length c3))
  have HQ2 := Lib.hid (q2.far (p := ⟨w.heap.size, 1, none⟩) (by show w.heap.size + 1 ≠ w.heap.size; omega) (.slice A3 cl.length c3))
  have HB2 : Hid (Below w.heap.size w (W2.setCell ⟨w.heap.size, 1, none⟩ (.slice A3 cl.length c3))) := Lib.hid ((hb.trans (p1.mono hb.size)).setCell (p := ⟨w.heap.size, 1, none⟩) (Nat.le_refl _) _)
  have HR1 : Hid (ReadsS (W2.setCell ⟨w.heap.size, 1, none⟩ (.slice A3 cl.length c3)) (fun g => W1.heap.size ≤ g ∧ g < W2.heap.size) 1 A3 cl.length (strs cl)) := Lib.hid (r1.keep (fun g hg => Below.heap_setCell W2 ⟨w.heap.size, 1, none⟩ _ g (by show g ≠ w.heap.size; omega)) fun _ h => h)
  have HZ : Hid (W1.heap.size ≤ W2.heap.size ∧ w.heap.size ≤ W1.heap.size) := Lib.hid ⟨p1.size, hb.size⟩
  clear b1 b2 hb q1 q2 r1 p1
  go_wp2_with fail
  generalize hW3 : W2.setCell ⟨w.heap.size, 1, none⟩ (.slice A3 cl.length c3) = W3 at *
  have hz3 : W2.heap.size = W3.heap.size := by rw [← hW3]; simp [World.setCell]
  have HZ3 := Lib.hid hz3
  clear hW3 hz3 x1 x2 x3
  ((with_reducible refine (clone_pair W3 (H2.out.keep (fun g hg => HB2.out.block g (HS.out g hg)) fun _ h => h) (prs_one pr) n2).mono ?_))
  rintro e W4 ⟨A5, c5, rfl, r2, p2⟩
  have q1 := HQ1.out.below p2 HQ1.out.lt
  have q2 := HQ2.out.below p2 HQ2.out.lt
  have l3 := HQ2.out.lt
  have hz4 := p2.size
  have x2 : W4.cell? ⟨w.heap.size, 2, none⟩ = some (.slice A2 pr.length c2) := q1.cell 2
  have x3 := q1.frozen 2
  have x4 : W4.cell? ⟨w.heap.size, 0, none⟩ = some (.string id) := q1.cell 0
  have x5 : W4.cell? ⟨w.heap.size, 1, none⟩ = some (.slice A3 cl.length c3) := q1.cell 1
  have HQ3 := Lib.hid (q1.set_ 2 (.slice A5 pr.length c5))
  have HQ4 := Lib.hid (q2.far (p := ⟨w.heap.size, 2, none⟩) (by show w.heap.size + 1 ≠ w.heap.size; omega) (.slice A5 pr.length c5))
  have HB4 : Hid (Below w.heap.size w (W4.setCell ⟨w.heap.size, 2, none⟩ (.slice A5 pr.length c5))) := Lib.hid ((HB2.out.trans (p2.mono (by have := HZ.out; have := HZ3.out; omega))).setCell (p := ⟨w.heap.size, 2, none⟩) (Nat.le_refl _) _)
  have HR3 : Hid (ReadsS (W4.setCell ⟨w.heap.size, 2, none⟩ (.slice A5 pr.length c5)) (fun g => W3.heap.size ≤ g ∧ g < W4.heap.size) 2 A5 pr.length (prs pr)) := Lib.hid (r2.keep (fun g hg => Below.heap_setCell W4 ⟨w.heap.size, 2, none⟩ _ g (by show g ≠ w.heap.size; have := HZ.out; have := HZ3.out; omega)) fun _ h => h)
  have HR4 : Hid (ReadsS (W4.setCell ⟨w.heap.size, 2, none⟩ (.slice A5 pr.length c5)) (fun g => W1.heap.size ≤ g ∧ g < W2.heap.size) 1 A3 cl.length (strs cl)) := Lib.hid (HR1.out.keep (fun g hg => (Below.heap_setCell W4 ⟨w.heap.size, 2, none⟩ _ g (by show g ≠ w.heap.size; omega)).trans (p2.block g (by have := HZ3.out; omega))) fun _ h => h)
  have HZ4 : Hid ((W4.setCell ⟨w.heap.size, 2, none⟩ (.slice A5 pr.length c5)).heap.size = W4.heap.size) := Lib.hid (by simp [World.setCell])
  have HZ5 := Lib.hid hz4
  clear q1 q2 r2 p2
  go_wp2_with (refine wpList_store_row rfl 28 (.tmp 2) (.tmp 11) rfl (w.heap.size + 1) #[.string id, .slice A3 cl.length c3, .slice A5 pr.length c5] rfl rfl 28 _ HQ4.out attr_size (by rfl) (by simp [Value.oneCell']) ?_)
  have HL := Lib.hid (run_loadVar_row (P := Tryz.prog) _ (w.heap.size + 1) 28 28 #[.string id, .slice A3 cl.length c3, .slice A5 pr.length c5] (0, 0) _ (setRow_heap _ _ _ _ _ _ HQ4.out) Tryz.underlying28 rfl attr_size)
  have HF : Hid (CpyP id cl pr w (.returned (.agg #[.string id, .slice A3 cl.length c3, .slice A5 pr.length c5])) ((W4.setCell ⟨w.heap.size, 2, none⟩ (.slice A5 pr.length c5)).setRow (w.heap.size + 1) #[.string id, .slice A3 cl.length c3, .slice A5 pr.length c5])) := Lib.hid ⟨A3, c3, A5, c5, rfl, HR4.out.keep (fun g hg => setRow_other _ _ _ _ (by have := HZ.out; have := HZ3.out; show g ≠ w.heap.size + 1; omega)) (fun g hg => ⟨by have := HZ.out; omega, by rw [setRow_size, HZ4.out]; have := HZ3.out; have := HZ5.out; omega⟩), HR3.out.keep (fun g hg => setRow_other _ _ _ _ (by have := HZ.out; have := HZ3.out; show g ≠ w.heap.size + 1; omega)) (fun g hg => ⟨by have := HZ.out; have := HZ3.out; omega, by rw [setRow_size, HZ4.out]; exact hg.2⟩), below_setRow HB4.out (by omega) _⟩
  refine row_ret Tryz.results45 HL.out ?_ ?_ HF.out
  · rfl
  · rfl

end Go.Proofs.YtfnloonmeilhlaaGreatDoor
