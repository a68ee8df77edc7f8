/-
  Texts of the proof, put together (what this law reaches): ScY, ScI.
-/
import Derived.Test.YtcjkgmfidkgamaaGreatDoorD09
import Derived.RangeFuncOwn
import Derived.RangeFuncWrites
import Derived.Test.YtcjkgmfidkgamaaGreatDoorD06
import Derived.Test.YtcjkgmfidkgamaaGreatDoorD05
set_option linter.unusedVariables false
set_option linter.unusedSimpArgs false
namespace Go.Pub
open Go.RowKit
variable {F : Fence} {n : Nat} {P : Program}
/-- An iterator's word, where the iterator may step by St: J stands over its steps. -/
def SeqSteps {α : Type} (F : Fence) (n : Nat) (P : Program) (g : Nat) (lb : Array Value) (encs : α → Array Value) (Kp St : World → World → Prop) (S Sp : List α → Prop) (N : Nat) (w : World) : Prop :=
  ∀ (l : Nat) (J Jx : List α → World → Prop) (W : World), Below w.heap.size w W → AbidesFrom W.heap.size J → (∀ pre A B, J pre A → St A B → J pre B) →
    (∀ pre x W1, J pre W1 → pre.length < N → YieldAt F (n - 1) P l (encs x) W1 fun e W' =>
      (e = .returned (.bool true) ∧ J (pre ++ [x]) W' ∧ Kp W1 W') ∨ (e = .returned (.bool false) ∧ Jx (pre ++ [x]) W')) →
    J [] W →
    CallsIn F n P g (#[.func (.yield l) #[] #[]] ++ lb) W fun e W' => (∃ v, e = .returned v) ∧ ((∃ xs, S xs ∧ J xs W') ∨ (∃ pre, Sp pre ∧ Jx pre W'))
theorem range_steps {α : Type} {g : Operand} {ps : Array Tmp} {assign body : Code} {Q : Exit → Act → World → Prop} {a : Act} {w : World}
    (hro : F.round = none) (h1 : 1 ≤ n) {gf : Nat} {lb : Array Value} (hg : a.eval g = .func (.func gf) #[] lb) (hFg : F.fn gf) (eg : ∀ args w, (callFunc gf args).run P w = .ok (.enter gf args) w)
    {encs : α → Array Value} {Kp St : World → World → Prop} {S Sp : List α → Prop} {N : Nat} (hseq : SeqSteps F (n - 1) P gf lb encs Kp St S Sp N w)
    (hKt : ∀ {A B C : World}, Kp A B → Kp B C → Kp A C) (hKb : ∀ (W : World) (l : Nat) (o o' : Obj), w.heap.size ≤ l → W.heap[l]? = some o → o.isCells = false → o.isWalk = false → Kp W (W.putObj l o')) (hps : ∀ x, (encs x).size = ps.size)
    (I : List α → World → Prop) (Ix : Code → List α → World → Prop) (hI : OwnFrom w.heap.size I) (hIx : ∀ c, OwnFrom w.heap.size (Ix c)) (hIs : ∀ pre A B, I pre A → St A B → I pre B) (hSb : ∀ A B, St A B → ∀ k, w.heap.size ≤ k → B.heap[k]? = A.heap[k]?) (h0 : I [] w) (a₁ : α → Act)
    (hassign : ∀ (l : Nat) (x : α) (W : World) (K : Act → World → Prop), K (a₁ x) W →
      assign.wpIn (F.inRound l) (n - 1 - 1) P (Exit.then K (fun _ _ _ => False)) { tmps := (ps.zip (encs x)).foldl (fun t (p, v) => t.setIfInBounds p v) a.tmps, defers := [] } W)
    (hbody : ∀ (l : Nat) (pre : List α) (x : α) (W : World), I pre W → pre.length < N → body.wpIn (F.inRound l) (n - 1 - 1) P (ownPostG w.heap.size Kp I Ix (pre ++ [x]) W) (a₁ x) W)
    (hdone : ∀ (D : Nat) (xs : List α) (W : World), w.heap.size ≤ D → S xs → I xs W → W.heap[D]? = some (.deferred (some [])) → Q .normal { a with defers := { target := .collected D, args := #[] } :: a.defers } W)
    (hstop : ∀ (D : Nat) (c : Code) (pre : List α) (W : World), w.heap.size ≤ D → Sp pre → Ix c pre W → W.heap[D]? = some (.deferred (some [])) → c.wpIn F n P Q { a with defers := { target := .collected D, args := #[] } :: a.defers } W) :
    (Code.rangeFunc g ps assign body).wpIn F n P Q a w := by
  refine wpIn_rangeFunc ?_
  intro fn hfn
  rw [hro]
  obtain ⟨rec, hrec⟩ : ∃ rec : LoopState → Option Code → Loop, rec = fun st pe => { state := st, pending := pe, fn, tmps := a.tmps, params := ps, assign, body, defers := w.heap.size } := ⟨_, rfl⟩
  obtain ⟨W1, hW1⟩ : ∃ W1, (w.alloc (.deferred (some []))).alloc (.loop (rec .ready none)) = W1 := ⟨_, rfl⟩
  have z1 : W1.heap.size = w.heap.size + 2 := by rw [← hW1]; simp
  have hL1 : W1.heap[w.heap.size + 1]? = some (.loop (rec .ready none)) := by
    have := World.alloc_heap_new (w.alloc (.deferred (some []))) (.loop (rec .ready none))
    rw [World.size_alloc, hW1] at this; exact this
  have hK1 : W1.heap[w.heap.size]? = some (.deferred (some [])) := by
    rw [← hW1]; exact (Below.heap_alloc _ _ _ (by simp)).trans (World.alloc_heap_new w _)
  have hI1 : I [] W1 := by rw [← hW1]; exact hI.alloc _ (hI.alloc _ h0)
  have hb1 : Below w.heap.size w W1 := by rw [← hW1]; exact ((Below.refl _ w).alloc (Nat.le_refl _) _).alloc (by simp) _
  refine ⟨w.heap.size + 1, [{ target := .collected w.heap.size, args := #[] }], W1, { target := .fn (.func gf) lb, args := #[.func (.yield (w.heap.size + 1)) #[] #[]] }, W1, gf,
    #[.func (.yield (w.heap.size + 1)) #[] #[]] ++ lb, W1, ?_, ?_, ?_, ?_, fun _ => h1, ?_⟩
  · rw [← hW1, hrec]; exact run_enterLoop_outer _ _ _ _ _
  · simp only [resolve, hg]
    simp [go_sem]
  · intro f' hf'; simp [Target.leads] at hf'; subst hf'; exact hFg
  · simp [invoke, go_sem, eg]
  refine (hseq (w.heap.size + 1)
    (fun pre W => I pre W ∧ W.heap[w.heap.size + 1]? = some (.loop (rec .ready none)) ∧ W.heap[w.heap.size]? = some (.deferred (some [])))
    (fun pre W => ∃ c, Ix c pre W ∧ W.heap[w.heap.size + 1]? = some (.loop (rec .done (some c))) ∧ W.heap[w.heap.size]? = some (.deferred (some [])))
    W1 hb1 ?_ ?_ ?_ ⟨hI1, hL1, hK1⟩).mono ?_
  · intro s A B row hs hgr hr
    refine ⟨hI s A B row hs.1 hgr (fun r e => ?_), (grownBy_keeps hgr (fun r e => (hr r e).2) hs.2.1 rfl).trans hs.2.1, (grownBy_keeps hgr (fun r e => (hr r e).2) hs.2.2 rfl).trans hs.2.2⟩
    obtain ⟨hB, o, ho, hw⟩ := hr r e
    exact ⟨by omega, o, ho, Obj.not_cells_of_walk hw⟩
  · intro pre A B hs hst
    exact ⟨hIs pre A B hs.1 hst, (hSb A B hst _ (by omega)).trans hs.2.1, (hSb A B hst _ (Nat.le_refl _)).trans hs.2.2⟩
  · rintro pre x W ⟨hi, hl, hk⟩ hlen
    have hlt : w.heap.size + 1 < W.heap.size := (Array.getElem?_eq_some_iff.1 hl).1
    have hy := run_yield (P := P) (args := encs x) hl (by rw [hrec]; exact hps x)
    rw [hrec] at hy
    refine ⟨fn, _, assign, body, hy, roundIn_of_wpIn hfn (hassign _ x W _ ⟨_, run_beginRound hl (by rw [hrec]), ?_⟩)⟩
    obtain ⟨W2, hW2⟩ : ∃ W2, W2 = W.putObj (w.heap.size + 1) (.loop { rec .ready none with state := .busy }) := ⟨_, rfl⟩
    have hl2 : W2.heap[w.heap.size + 1]? = some (.loop { rec .ready none with state := .busy }) := by rw [hW2]; exact World.putObj_heap_same hlt
    have hk2 : W2.heap[w.heap.size]? = some (.deferred (some [])) := by rw [hW2]; exact (World.putObj_heap_other (by omega)).trans hk
    have hw2 : Kp W W2 := by rw [hW2]; exact hKb _ _ _ _ (by omega) hl rfl rfl
    have hi2 : I pre W2 := by rw [hW2]; exact hI.putObj _ hi (by omega) hl rfl
    refine wpIn_mono (hW2 ▸ hbody _ pre x _ hi2 hlen) ?_
    have fin : ∀ (jump : Option Code) (W3 : World), KeepsFrom w.heap.size W2 W3 →
        (Instr.endRound (w.heap.size + 1) jump).run P W3 = .ok (.bool jump.isNone) (W3.putObj (w.heap.size + 1) (.loop (rec (if jump.isNone then .ready else .done) jump))) ∧
        W3.heap[w.heap.size + 1]? = some (.loop { rec .ready none with state := .busy }) ∧
        (W3.putObj (w.heap.size + 1) (.loop (rec (if jump.isNone then .ready else .done) jump))).heap[w.heap.size + 1]? = some (.loop (rec (if jump.isNone then .ready else .done) jump)) ∧
        (W3.putObj (w.heap.size + 1) (.loop (rec (if jump.isNone then .ready else .done) jump))).heap[w.heap.size]? = some (.deferred (some [])) := fun jump W3 hk3 => by
      have hl3 := hk3.same _ _ (by omega) hl2 rfl
      have := run_endRound (P := P) jump hl3
      rw [hrec] at this ⊢
      exact ⟨this, by rw [hrec] at hl3; exact hl3, World.putObj_heap_same (Array.getElem?_eq_some_iff.1 hl3).1, (World.putObj_heap_other (by omega)).trans (hk3.same _ _ (Nat.le_refl _) hk2 rfl)⟩
    have out : ∀ (c : Code) (W3 : World), KeepsFrom w.heap.size W2 W3 → Ix c (pre ++ [x]) W3 → ∃ v W4, (Instr.endRound (w.heap.size + 1) (some c)).run P W3 = .ok v W4 ∧ v = .bool false ∧ ∃ c', Ix c' (pre ++ [x]) W4 ∧ W4.heap[w.heap.size + 1]? = some (.loop (rec .done (some c'))) ∧ W4.heap[w.heap.size]? = some (.deferred (some [])) := fun c W3 hk3 hi3 => by
      obtain ⟨hr, hl3, hl4, hk4⟩ := fin (some c) W3 hk3
      exact ⟨_, _, hr, rfl, c, (hIx _).putObj _ hi3 (by omega) hl3 rfl, hl4, hk4⟩
    rintro e a3 W3 hp0
    have hp : ownPostG w.heap.size Kp I Ix (pre ++ [x]) W2 e a3 W3 := by rw [hW2]; exact hp0
    clear hp0
    cases e with
    | normal =>
      obtain ⟨hk3, hkp3, hi3⟩ := hp
      obtain ⟨hr, hl3, hl4, hk4⟩ := fin none W3 hk3
      exact ⟨_, _, hr, .inl ⟨rfl, ⟨hI.putObj _ hi3 (by omega) hl3 rfl, hl4, hk4⟩, hKt (hKt hw2 hkp3) (hKb _ _ _ _ (by omega) hl3 rfl rfl)⟩⟩
    | ret =>
      obtain ⟨v, W4, q1, rfl, q2⟩ := out .ret W3 hp.1 hp.2
      exact ⟨_, _, q1, .inr ⟨rfl, q2⟩⟩
    | exit id =>
      obtain ⟨v, W4, q1, rfl, q2⟩ := out (.exit id) W3 hp.1 hp.2
      exact ⟨_, _, q1, .inr ⟨rfl, q2⟩⟩
    | goto t =>
      obtain ⟨v, W4, q1, rfl, q2⟩ := out (.goto t) W3 hp.1 hp.2
      exact ⟨_, _, q1, .inr ⟨rfl, q2⟩⟩
    | panic ch => exact hp.elim
    | outgrown => exact hp.elim
  · rintro e W2 ⟨⟨v, rfl⟩, (⟨xs, hS, hi, hl, hk⟩ | ⟨pre, hSp, c, hi, hl, hk⟩)⟩
    · exact ⟨none, _, by have := run_endLoop (P := P) hl (by rw [hrec]; simp); rw [hrec] at this; exact this, hdone _ xs _ (Nat.le_refl _) hS (hI.putObj _ hi (by omega) hl rfl) ((World.putObj_heap_other (by omega)).trans hk)⟩
    · exact ⟨some c, _, by have := run_endLoop (P := P) hl (by rw [hrec]; simp); rw [hrec] at this; exact this, hstop _ c pre _ (Nat.le_refl _) hSp ((hIx c).putObj _ hi (by omega) hl rfl) ((World.putObj_heap_other (by omega)).trans hk)⟩
end Go.Pub
namespace Go.Proofs.YtcjkgmfidkgamaaGreatDoor
open Go.RowKit Go.Pub
set_option maxRecDepth 100000 in
set_option maxHeartbeats 1000000 in
theorem split_seq (s : ByteArray) (w : World) : Calls Tryz.prog 34 #[.string s, .string ⟨#[59]⟩] w fun e w' =>
    e = .returned (.func (.func 105) #[] #[.pointer (some ⟨w.heap.size + 1, 0, none⟩), .pointer (some ⟨w.heap.size, 0, none⟩), .pointer (some ⟨w.heap.size + 2, 0, none⟩)]) ∧
    w' = ((w.alloc (.cells #[.string s] 9)).alloc (.cells #[.string ⟨#[59]⟩] 9)).alloc (.cells #[.int .i64 0] 3) := by
  have H : Hid (∀ W, Calls Tryz.prog 62 #[.string s, .string ⟨#[59]⟩, .int .i64 0] W fun e w' =>
    e = .returned (.func (.func 105) #[] #[.pointer (some ⟨W.heap.size + 1, 0, none⟩), .pointer (some ⟨W.heap.size, 0, none⟩), .pointer (some ⟨W.heap.size + 2, 0, none⟩)]) ∧
    w' = ((W.alloc (.cells #[.string s] 9)).alloc (.cells #[.string ⟨#[59]⟩] 9)).alloc (.cells #[.int .i64 0] 3)) := Lib.hid fun W => by
    go_enter Tryz.func62, Tryz.ntmps62
    go_wp2_with fail
    go_ret
    exact ⟨rfl, rfl⟩
  go_enter Tryz.func34, Tryz.ntmps34
  go_wp2_with fail
  ((with_reducible refine (H.out _).mono ?_))
  rintro e w1 ⟨rfl, rfl⟩
  go_wp2_with fail
  go_ret
  exact ⟨rfl, rfl⟩

end Go.Proofs.YtcjkgmfidkgamaaGreatDoor
namespace Go.Pub
theorem semi_idx : ∀ l : List UInt8, (Lib.indexByte l 59 = -1 ∧ semiL l = [l]) ∨ ∃ k : Nat, Lib.indexByte l 59 = k ∧ k < l.length ∧ semiL l = l.take k :: semiL (l.drop (k + 1))
  | [] => .inl ⟨rfl, rfl⟩
  | b :: l => by
    by_cases hb : b = 59
    · subst hb
      exact .inr ⟨0, rfl, by simp, by conv => lhs; unfold semiL
                                      rw [if_pos rfl]; rfl⟩
    · have hq : (b == 59) = false := beq_eq_false_iff_ne.2 hb
      rcases semi_idx l with ⟨h1, h2⟩ | ⟨k, h1, h2, h3⟩
      · refine .inl ⟨?_, ?_⟩
        · unfold Lib.indexByte; rw [hq, h1]; rfl
        · unfold semiL; rw [if_neg hb, h2]
      · refine .inr ⟨k + 1, ?_, by simp; omega, ?_⟩
        · unfold Lib.indexByte; rw [hq, h1, if_neg (by simp), if_neg (by simp)]; omega
        · conv => lhs; unfold semiL
          rw [if_neg hb, h3]; rfl
end Go.Pub
namespace Go.Proofs.YtcjkgmfidkgamaaGreatDoor
open Go.RowKit Go.Pub
/-- What the iterator's three boxes hold: the separator, what is left, nought. -/
structure SqB (b0 b1 b2 : Nat) (rest : ByteArray) (W : World) : Prop where
  s : W.heap[b0]? = some (.cells #[.string rest] 9 (0, 0))
  sep : W.heap[b1]? = some (.cells #[.string ⟨#[59]⟩] 9 (0, 0))
  sav : W.heap[b2]? = some (.cells #[.int .i64 0] 3 (0, 0))
/-- A step of the iterator. -/
def StB (b0 : Nat) (A B : World) : Prop := ∃ v, B = A.setCell ⟨b0, 0, none⟩ (.string v)
/-- A round keeps the boxes. -/
def KpS (b0 b1 b2 : Nat) (W W' : World) : Prop := W'.heap[b0]? = W.heap[b0]? ∧ W'.heap[b1]? = W.heap[b1]? ∧ W'.heap[b2]? = W.heap[b2]?
def boxLen (b : Nat) (W : World) : Nat := match W.heap[b]? with
  | some (.cells cs _ _) => match (cs : Array Value)[0]? with
    | some (Value.string t) => t.size
    | _ => 0
  | _ => 0
abbrev StrP := { s : ByteArray // s.size ≤ 1000000 }
def toStr (l : List UInt8) : StrP := if h : l.length ≤ 1000000 then ⟨mk l, by rw [mk_size]; exact h⟩ else ⟨⟨#[]⟩, by decide⟩
theorem toStr_val (l : List UInt8) (h : l.length ≤ 1000000) : (toStr l).1 = mk l := by unfold toStr; rw [dif_pos h]
set_option maxRecDepth 100000 in
set_option maxHeartbeats 2000000 in
theorem split_stops (n : Nat) (hn : 1 ≤ n) (b0 b1 b2 : Nat) (h01 : b0 ≠ b1) (h02 : b0 ≠ b2) (s : ByteArray) (hs : s.size ≤ 1000000) (w : World) (hB : SqB b0 b1 b2 s w) :
    SeqSteps Fence.wide n Tryz.prog 105 #[.pointer (some ⟨b1, 0, none⟩), .pointer (some ⟨b0, 0, none⟩), .pointer (some ⟨b2, 0, none⟩)] (fun x : StrP => #[Value.string x.1]) (KpS b0 b1 b2) (StB b0) (fun ys => ys = (semiL (bytesL s)).map toStr) (fun pre => pre <+: (semiL (bytesL s)).map toStr) (semiL (bytesL s)).length w := fun l J Jx W hW _ hSt hY h0 => by
  have lt : ∀ {b : Nat} {o : Obj}, w.heap[b]? = some o → b < w.heap.size := fun {b o} h => by
    rcases Nat.lt_or_ge b w.heap.size with h1 | h1
    · exact h1
    · rw [Array.getElem?_eq_none h1] at h; cases h
  have hBW : SqB b0 b1 b2 s W := ⟨(hW.block b0 (lt hB.s)).trans hB.s, (hW.block b1 (lt hB.sep)).trans hB.sep, (hW.block b2 (lt hB.sav)).trans hB.sav⟩
  generalize hall : semiL (bytesL s) = all at *
  have HALL := Lib.hid hall
  clear hall
  have k1 : W.cell? ⟨b1, 0, none⟩ = some (.string ⟨#[59]⟩) := cell_of_row W b1 0 _ _ _ hBW.sep
  refine callsIn_of_wp Tryz.func105 rfl trivial ?_ rfl
  simp only [Tryz.ntmps105, List.size_toArray, List.length_cons, List.length_nil, Nat.reduceAdd, Nat.reduceSub, Array.replicate_succ, Array.replicate_zero, List.push_toArray, List.append_toArray, List.nil_append, List.cons_append]
  gi_wp2_with fail
  gi_loopw [7, 8] (fun _ _ wr => ∃ (rest : ByteArray) (done : List (List UInt8)), rest.size ≤ 1000000 ∧ SqB b0 b1 b2 rest wr ∧ Hid (done ++ semiL (bytesL rest) = all) ∧ J (done.map toStr) wr)
    (fun _ _ wr => boxLen b0 wr)
  case atStart => exact ⟨s, [], hs, hBW, HALL, h0⟩
  case round =>
    obtain ⟨rest, done, hz, hb, Hall, hJ⟩ := hrel
    have c0 : wr.cell? ⟨b0, 0, none⟩ = some (.string rest) := cell_of_row wr b0 0 _ _ _ hb.s
    have c1 : wr.cell? ⟨b1, 0, none⟩ = some (.string ⟨#[59]⟩) := cell_of_row wr b1 0 _ _ _ hb.sep
    have c2 : wr.cell? ⟨b2, 0, none⟩ = some (.int .i64 0) := cell_of_row wr b2 0 _ _ _ hb.sav
    have HS : Hid (∀ W : World, CallsIn Fence.wide (n - 1) Tryz.prog 107 #[.string rest, .string ⟨#[59]⟩] W fun e w' => e = .returned (.int .i64 (Lib.indexByte (bytesL rest) 59)) ∧ W = w') := Lib.hid fun W => callsIn_wide (n := n - 1).2 ((Tryz.strings_Index_one rest 59 W).mono (by rintro e w' ⟨rfl, rfl⟩; exact ⟨rfl, rfl⟩))
    have hlen : (bytesL rest).length = rest.size := bytesL_length rest
    rcases semi_idx (bytesL rest) with ⟨h1, h2⟩ | ⟨k, h1, h2, h3⟩
    · rw [h1] at HS
      have HN : Hid (done ++ [bytesL rest] = all) := Lib.hid (by rw [← Hall.out, h2])
      have ex : (toStr (bytesL rest)).1 = rest := by rw [toStr_val _ (by omega)]; exact mk_bytesL rest
      obtain ⟨fn, tmps, assign, body, hy, hR⟩ := hY (done.map toStr) (toStr (bytesL rest)) wr hJ (by rw [← HN.out]; simp)
      rw [ex] at hy
      gi_wp2_with fail
      refine ⟨trivial, ?_⟩
      ((with_reducible refine (HS.out _).mono ?_))
      rintro e w0 ⟨rfl, rfl⟩
      gi_wp2_with fail
      refine hR.mono ?_
      rintro e W3 (⟨rfl, hJ3, hk3⟩ | ⟨rfl, hJx3⟩)
      · gi_wp2_with fail
        go_end0
        exact ⟨⟨_, rfl⟩, .inl ⟨_, by rw [← HN.out]; simp, hJ3⟩⟩
      · gi_wp2_with fail
        go_end0
        exact ⟨⟨_, rfl⟩, .inr ⟨_, ⟨[], by rw [← HN.out]; simp⟩, hJx3⟩⟩
    · rw [h1] at HS
      have hkz : k < rest.size := by omega
      have e0 : (bytesL rest).take k = bytesL (rest.extract 0 k) := by rw [bytesL_sub]; unfold sub; rw [List.drop_zero, Nat.sub_zero]
      have e1 : (bytesL rest).drop (k + 1) = bytesL (rest.extract (k + 1) rest.size) := by rw [suffix_bytes]; rfl
      rw [e0, e1] at h3
      have HN : Hid (done ++ [bytesL (rest.extract 0 k)] ++ semiL (bytesL (rest.extract (k + 1) rest.size)) = all) := Lib.hid (by rw [← Hall.out, h3]; simp)
      have ez : (rest.extract 0 k).size = k := by rw [ByteArray.size_extract]; omega
      have ez2 : (rest.extract (k + 1) rest.size).size = rest.size - (k + 1) := by rw [ByteArray.size_extract]; omega
      have ex : (toStr (bytesL (rest.extract 0 k))).1 = rest.extract 0 k := by rw [toStr_val _ (by rw [bytesL_length]; omega)]; exact mk_bytesL _
      obtain ⟨fn, tmps, assign, body, hy, hR⟩ := hY (done.map toStr) (toStr (bytesL (rest.extract 0 k))) wr hJ (by rw [← HN.out]; simp)
      rw [ex] at hy
      clear e0 e1 h1 h2 h3
      gi_wp2_with fail
      refine ⟨trivial, ?_⟩
      ((with_reducible refine (HS.out _).mono ?_))
      rintro e w0 ⟨rfl, rfl⟩
      gi_wp2_with fail
      refine hR.mono ?_
      rintro e W3 (⟨rfl, hJ3, hk3⟩ | ⟨rfl, hJx3⟩)
      · have hb3 : SqB b0 b1 b2 rest W3 := ⟨hk3.1.trans hb.s, hk3.2.1.trans hb.sep, hk3.2.2.trans hb.sav⟩
        have d0 : W3.cell? ⟨b0, 0, none⟩ = some (.string rest) := cell_of_row W3 b0 0 _ _ _ hb3.s
        have d1 : W3.cell? ⟨b1, 0, none⟩ = some (.string ⟨#[59]⟩) := cell_of_row W3 b1 0 _ _ _ hb3.sep
        have g0 : W3.frozen? ⟨b0, 0, none⟩ = false := Blk.frozen (t := 9) (cs := #[.string rest]) hb3.s 0
        have hJ4 := hSt _ _ _ hJ3 ⟨rest.extract (k + 1) rest.size, rfl⟩
        have hb4 : SqB b0 b1 b2 (rest.extract (k + 1) rest.size) (W3.setCell ⟨b0, 0, none⟩ (.string (rest.extract (k + 1) rest.size))) :=
          ⟨Blk.set_ (t := 9) (cs := #[.string rest]) hb3.s 0 _, Blk.far (t := 9) (cs := #[.string ⟨#[59]⟩]) hb3.sep (fun e => h01 e.symm) _, Blk.far (t := 3) (cs := #[.int .i64 0]) hb3.sav (fun e => h02 e.symm) _⟩
        have hm4 : boxLen b0 (W3.setCell ⟨b0, 0, none⟩ (.string (rest.extract (k + 1) rest.size))) < boxLen b0 wr := by
          unfold boxLen
          rw [hb4.s, hb.s]
          show (rest.extract (k + 1) rest.size).size < rest.size
          omega
        have HB4 := Lib.hid hb4
        have HM4 := Lib.hid hm4
        clear hb4 hm4
        gi_wp2_with fail
        go_roundw
        case rel => exact ⟨rest.extract (k + 1) rest.size, done ++ [bytesL (rest.extract 0 k)], by omega, HB4.out, HN, by rw [List.map_append]; exact hJ4⟩
        case measure => exact HM4.out
      · gi_wp2_with fail
        refine bodyPost_ret (results_none rfl _ _ _) rfl ?_
        exact ⟨⟨_, rfl⟩, .inr ⟨_, ⟨(semiL (bytesL (rest.extract (k + 1) rest.size))).map toStr, by rw [← HN.out]; simp⟩, hJx3⟩⟩

end Go.Proofs.YtcjkgmfidkgamaaGreatDoor
namespace Go.Pub
theorem any_enc (p : UInt8 → Bool) (hp : ∀ b, 128 ≤ b.toNat → p b = false) (c : Nat) (h : Scalar c) : (encL (c : Int)).any p = (decide (c < 128) && p (UInt8.ofNat c)) := by
  rw [encL_scalar c h]
  unfold Scalar at h
  by_cases h1 : c < 128
  · rw [encN_one c h1, decide_eq_true h1, Bool.true_and]
    show ([UInt8.ofNat c].any p) = _
    simp
  · rw [decide_eq_false h1, Bool.false_and]
    by_cases h2 : c < 2048
    · rw [encN_two c h1 h2]
      show ([UInt8.ofNat (192 + c / 64), UInt8.ofNat (128 + c % 64)].any p) = _
      simp only [List.any_cons, List.any_nil, Bool.or_false]
      rw [hp _ (by rw [ofNat_toNat _ (by omega)]; omega), hp _ (by rw [ofNat_toNat _ (by omega)]; omega)]; rfl
    · by_cases h3 : c < 65536
      · rw [encN_three c h1 h2 h3]
        show ([UInt8.ofNat (224 + c / 4096), UInt8.ofNat (128 + c / 64 % 64), UInt8.ofNat (128 + c % 64)].any p) = _
        simp only [List.any_cons, List.any_nil, Bool.or_false]
        rw [hp _ (by rw [ofNat_toNat _ (by omega)]; omega), hp _ (by rw [ofNat_toNat _ (by omega)]; omega), hp _ (by rw [ofNat_toNat _ (by omega)]; omega)]; rfl
      · rw [encN_four c h1 h2 h3]
        show ([UInt8.ofNat (240 + c / 262144), UInt8.ofNat (128 + c / 4096 % 64), UInt8.ofNat (128 + c / 64 % 64), UInt8.ofNat (128 + c % 64)].any p) = _
        simp only [List.any_cons, List.any_nil, Bool.or_false]
        rw [hp _ (by rw [ofNat_toNat _ (by omega)]; omega), hp _ (by rw [ofNat_toNat _ (by omega)]; omega), hp _ (by rw [ofNat_toNat _ (by omega)]; omega), hp _ (by rw [ofNat_toNat _ (by omega)]; omega)]; rfl
theorem any_dec (p : UInt8 → Bool) (hp : ∀ b, 128 ≤ b.toNat → p b = false) (l : List UInt8) (h : l ≠ []) : (l.take (decL l).2).any p = (decide ((decL l).1 < 128) && p (UInt8.ofNat (decL l).1)) := by
  by_cases hg : decL l = (65533, 1)
  · rw [hg]
    cases l with
    | nil => exact absurd rfl h
    | cons x l =>
      by_cases hx : x.toNat < 128
      · rw [dec_ascii_head x l hx] at hg
        injection hg with h1 _
        omega
      · show ([x].any p) = _
        simp only [List.any_cons, List.any_nil, Bool.or_false]
        rw [hp _ (by omega)]; rfl
  · rw [← enc_decL l h hg]
    exact any_enc p hp _ (decL_scalar l h)
theorem dec_high (s : ByteArray) (i : Nat) (h : 128 ≤ bt s i) : 128 ≤ (Utf8.decode s i).1 := by
  rw [decode_decL]
  have h0 : 128 ≤ atL ((bytesL s).drop i) 0 := by rw [← bt_atL]; exact h
  unfold decL
  rcases decodeN_cases ((bytesL s).drop i).length (atL ((bytesL s).drop i) 0) (atL ((bytesL s).drop i) 1) (atL ((bytesL s).drop i) 2) (atL ((bytesL s).drop i) 3) with e | ⟨c, e⟩ | ⟨c, e⟩ | ⟨c, e⟩ | ⟨c, e⟩ <;> rw [e]
  all_goals (simp only [] at *; omega)
/-- The first byte of a set, by counting. -/
theorem index_cnt (cs : List UInt8) : ∀ l : List UInt8, Lib.indexAny l cs = if cntW (fun b => !cs.contains (UInt8.ofNat b)) l < l.length then (cntW (fun b => !cs.contains (UInt8.ofNat b)) l : Int) else -1
  | [] => rfl
  | b :: l => by
    have hb : UInt8.ofNat b.toNat = b := by simp
    have hl := cntW_le (fun b => !cs.contains (UInt8.ofNat b)) l
    unfold Lib.indexAny cntW
    rw [index_cnt cs l, hb]
    cases hc : cs.contains b
    · simp only [Bool.not_false, if_true, Bool.false_eq_true, if_false, List.length_cons]
      by_cases h : cntW (fun b => !cs.contains (UInt8.ofNat b)) l < l.length
      · rw [if_pos h, if_neg (by simp), if_pos (by omega)]; omega
      · rw [if_neg h, if_neg (show ¬ (cntW (fun b => !cs.contains (UInt8.ofNat b)) l + 1 < l.length + 1) by omega)]; rfl
    · simp
theorem index_hit (cs : List UInt8) : ∀ (l : List UInt8) (k : Nat) (x : UInt8), (l.take k).any (cs.contains ·) = false → l[k]? = some x → cs.contains x = true → Lib.indexAny l cs = k
  | [], k, x, _, h, _ => by simp at h
  | b :: l, 0, x, _, h, hc => by simp at h; subst h; unfold Lib.indexAny; rw [if_pos hc]; rfl
  | b :: l, k + 1, x, h1, h, hc => by
    rw [List.take_succ_cons, List.any_cons, Bool.or_eq_false_iff] at h1
    unfold Lib.indexAny
    rw [h1.1, index_hit cs l k x h1.2 (by simpa using h) hc]
    simp only [Bool.false_eq_true, if_false]
    rw [if_neg (by simp)]; omega
theorem index_no (cs : List UInt8) : ∀ l : List UInt8, l.any (cs.contains ·) = false → Lib.indexAny l cs = -1
  | [], _ => rfl
  | b :: l, h => by
    rw [List.any_cons, Bool.or_eq_false_iff] at h
    unfold Lib.indexAny
    rw [h.1, index_no cs l h.2]; rfl
theorem index_any (cs : List UInt8) (l : List UInt8) : decide (0 ≤ Lib.indexAny l cs) = l.any (cs.contains ·) := by
  induction l with
  | nil => rfl
  | cons b l ih =>
    have hg := Lib.indexAny_ge cs l
    unfold Lib.indexAny
    rw [List.any_cons, ← ih]
    cases hc : cs.contains b
    · simp only [Bool.false_eq_true, if_false, Bool.false_or]
      by_cases h : Lib.indexAny l cs = -1
      · rw [h]; rfl
      · rw [if_neg (by simpa using h)]
        congr 1; apply propext; omega
    · simp
theorem byte_no (c : UInt8) : ∀ l : List UInt8, (∀ b ∈ l, b ≠ c) → Lib.indexByte l c = -1
  | [], _ => rfl
  | b :: l, h => by
    unfold Lib.indexByte
    rw [if_neg (by simpa using h b List.mem_cons_self), byte_no c l fun x hx => h x (List.mem_cons_of_mem _ hx)]; rfl
theorem byte_has (c : UInt8) : ∀ l : List UInt8, (0 ≤ Lib.indexByte l c ↔ l.contains c = true)
  | [] => by simp [Lib.indexByte]
  | b :: l => by
    have ih := byte_has c l
    have hg := Lib.indexByte_ge l c
    unfold Lib.indexByte
    by_cases h : b = c
    · subst h; simp
    · rw [if_neg (by simpa using h), List.contains_cons, show (c == b) = false by simpa using Ne.symm h, Bool.false_or, ← ih]
      by_cases h2 : Lib.indexByte l c = -1
      · rw [h2]; simp
      · rw [if_neg (by simpa using h2)]; omega
end Go.Pub
namespace Go.Proofs.YtcjkgmfidkgamaaGreatDoor
open Go.RowKit Go.Pub
/-- A set of ASCII bytes. -/
def Asc (cs : ByteArray) : Prop := ∀ b ∈ bytesL cs, b.toNat < 128
theorem Asc.bt {cs : ByteArray} (h : Asc cs) {k : Nat} (hk : k < cs.size) : bt cs k < 128 := by
  have := h (cs.get! k) (by
    unfold bytesL
    rw [show cs.get! k = cs.data[k]'hk from getElem!_pos cs.data k hk]
    exact Array.mem_toList_iff.2 (Array.getElem_mem _))
  exact this
set_option maxRecDepth 1000000 in
set_option maxHeartbeats 4000000 in
theorem runeX_err (cs : ByteArray) (hcs : Asc cs) (w : World) : Calls Tryz.prog 101 #[.string cs, .int .i32 65533] w fun e w' => e = .returned (.int .i64 (-1)) ∧ Below w.heap.size w w' := by
  have HA := Lib.hid hcs
  clear hcs
  go_enter Tryz.func101, Tryz.ntmps101
  go_wp2_with fail
  go_loopw [] (fun wr => ∃ pos, wr.heap[w.heap.size]? = some (.stringIter cs pos) ∧ Below w.heap.size w wr ∧ pos ≤ cs.size) (fun wr => cs.size - wr.iterPos w.heap.size)
  case atStart => exact ⟨0, World.iter_heap w cs 0, (Below.refl _ w).alloc (Nat.le_refl _) _, Nat.zero_le _⟩
  case round =>
    obtain ⟨pos, hit, hbw, hps⟩ := hrel
    by_cases hp : pos < cs.size
    · have hd := dec_one cs pos (HA.out.bt hp)
      have hnx : ∀ ty, (Instr.next (.pointer (some ⟨w.heap.size, 0, none⟩)) true ty).run Tryz.prog wr = _ := fun ty => Lib.run_next_any_at wr w.heap.size cs pos ty hit hp
      simp only [hd] at hnx
      have hne : ((bt cs pos : Int) == 65533) = false := beq_eq_false_iff_ne.2 (by have := HA.out.bt hp; omega)
      have hit2 := Lib.hid (Lib.iterAt_heap wr w.heap.size cs pos (pos + 1) hit)
      have hbw2 := Lib.hid (Lib.below_iterAt hbw (k := w.heap.size) (Nat.le_refl _) cs (pos + 1))
      have hitk := Lib.hid hit
      clear hit hd
      go_wp2_with fail
      go_roundw
      case rel => exact ⟨pos + 1, hit2.out, hbw2.out, hp⟩
      case measure =>
        simp only [World.iterPos, hit2.out, hitk.out]
        omega
    · have hnx : ∀ ty, (Instr.next (.pointer (some ⟨w.heap.size, 0, none⟩)) true ty).run Tryz.prog wr = _ := fun ty => Lib.run_next_end_at wr w.heap.size cs pos ty hit hp
      go_wp2_with fail
      go_ret
      exact ⟨rfl, hbw⟩

set_option maxRecDepth 1000000 in
set_option maxHeartbeats 4000000 in
theorem runeX_more (cs : ByteArray) (hcs : Asc cs) (hN : cs.size ≤ 1000) (r : Nat) (w : World) (h1 : 128 ≤ r) (h2 : r ≠ 65533) (h3 : r < 55296 ∨ (57343 < r ∧ r ≤ 1114111)) :
    Calls Tryz.prog 101 #[.string cs, .int .i32 r] w fun e w' => e = .returned (.int .i64 (-1)) ∧ Below w.heap.size w w' := by
  have h0 : (0 : Int) ≤ r := by omega
  have z1 : ((r : Int) == 65533) = false := by rw [beq_eq_false_iff_ne]; omega
  have z2 : 128 ≤ (r : Int) := by omega
  have HV : Hid (∀ W, Calls Tryz.prog 137 #[.int .i32 r] W fun e w' => e = .returned (.bool true) ∧ W = w') := Lib.hid fun W => by
    refine (Tryz.utf8_ValidRune r W).mono ?_
    rintro e w' ⟨rfl, rfl⟩
    exact ⟨ret_bool (by unfold Lib.validRune; simp; omega), rfl⟩
  have HA := Lib.hid hcs
  have HI : Hid (∀ (k : Nat) (c : UInt8) (W : World), 128 ≤ c.toNat → Calls Tryz.prog 63 #[.string (cs.extract k cs.size), .int .u8 c.toNat] W fun e w' => e = .returned (.int .i64 (-1)) ∧ W = w') := Lib.hid fun k c W h => by
    refine (Tryz.strings_IndexByte (cs.extract k cs.size) c.toNat W).mono ?_
    rintro e w' ⟨rfl, rfl⟩
    refine ⟨ret_int ?_, rfl⟩
    have e1 : ((c.toNat : Int).toNat.toUInt8) = c := by simp
    rw [e1]
    refine byte_no c _ fun b hb e => ?_
    subst e
    have hb' : b ∈ bytesL cs := by
      have h2 : b ∈ sub cs k cs.size := by rw [← bytesL_sub]; exact hb
      exact List.mem_of_mem_drop (List.mem_of_mem_take h2)
    have := hcs b hb'
    omega
  have hE : (∃ a b : UInt8, Utf8.encode (r : Int) = ⟨#[a, b]⟩ ∧ 128 ≤ b.toNat) ∨ (∃ a b c : UInt8, Utf8.encode (r : Int) = ⟨#[a, b, c]⟩ ∧ 128 ≤ c.toNat) ∨ (∃ a b c d : UInt8, Utf8.encode (r : Int) = ⟨#[a, b, c, d]⟩ ∧ 128 ≤ d.toNat) := by
    rw [enc_nat r (valid_of r (by omega))]
    by_cases h : r < 2048
    · left; rw [encN_two r (by omega) h]; exact ⟨_, _, rfl, by rw [ofNat_toNat _ (by omega)]; omega⟩
    · right
      by_cases h : r < 65536
      · left; rw [encN_three r (by omega) (by omega) h]; exact ⟨_, _, _, rfl, by rw [ofNat_toNat _ (by omega)]; omega⟩
      · right; rw [encN_four r (by omega) (by omega) h]; exact ⟨_, _, _, _, rfl, by rw [ofNat_toNat _ (by omega)]; omega⟩
  clear h1 h2 h3 hcs
  have go : ∀ (R : ByteArray) (L : Nat), Utf8.encode (r : Int) = R → R.size = L + 1 → L ≤ 3 → 128 ≤ bt R L → Calls Tryz.prog 101 #[.string cs, .int .i32 r] w fun e w' => e = .returned (.int .i64 (-1)) ∧ Below w.heap.size w w' := by
    intro R L hR hl hL hb
    have HI2 : Hid (∀ W, Calls Tryz.prog 63 #[.string (cs.extract (L + 1) cs.size), .int .u8 (bt R L)] W fun e w' => e = .returned (.int .i64 (-1)) ∧ W = w') := Lib.hid fun W => HI.out (L + 1) (R.get! L) W hb
    clear HI
    have hLz : ((R.size : Int) - 1) = (L : Int) := by omega
    have hbi : ∀ h : L < R.size, ((R[L]'h).toNat : Int) = (bt R L : Int) := fun h => by rw [get_bt R L h]
    by_cases hc : L < cs.size
    · have hci : ((cs[L]'hc).toNat : Int) = (bt cs L : Int) := by rw [get_bt cs L hc]
      have hne : ((bt cs L : Int) != (bt R L : Int)) = true := by have := HA.out.bt hc; simp; omega
      go_enter Tryz.func101, Tryz.ntmps101
      go_wp2_with fail
      ((with_reducible refine (HV.out _).mono ?_))
      rintro e w1 ⟨rfl, rfl⟩
      go_wp2_with fail
      go_step3
      go_wp2_with fail
      refine wp_loop_rounds 1 ?_
      rw [rounds_succ]
      go_wp2_with fail
      go_step3
      go_wp2_with fail
      go_quiet (fail)
      have hb1 := Lib.hid (below_drewN (Below.refl w.heap.size w) nq)
      generalize w.drewN nq = W1 at *
      go_wp2_with fail
      go_quiet ((go_at_call 63; exact quietLeft (HI2.out _)))
      have hb2 := Lib.hid (below_drewN hb1.out nq)
      generalize W1.drewN nq = W2 at *
      go_wp2_with fail
      rw [Exit.noGoto_ret]
      go_wp2_with fail
      rw [Exit.noGoto_ret]
      go_wp2_with fail
      go_ret
      exact ⟨rfl, hb2.out⟩
    · go_enter Tryz.func101, Tryz.ntmps101
      go_wp2_with fail
      ((with_reducible refine (HV.out _).mono ?_))
      rintro e w1 ⟨rfl, rfl⟩
      go_wp2_with fail
      go_step3
      go_wp2_with fail
      refine wp_loop_rounds 1 ?_
      rw [rounds_succ]
      go_wp2_with fail
      rw [Exit.noGoto_ret]
      go_wp2_with fail
      go_ret
      exact ⟨rfl, Below.refl _ _⟩
  rcases hE with ⟨a, b, hE, hb⟩ | ⟨a, b, c, hE, hb⟩ | ⟨a, b, c, d, hE, hb⟩
  · exact go _ 1 hE rfl (by omega) hb
  · exact go _ 2 hE rfl (by omega) hb
  · exact go _ 3 hE rfl (by omega) hb

def setB (cs : ByteArray) (r : Nat) : Bool := decide (r < 128) && (bytesL cs).contains (UInt8.ofNat r)
theorem runeX_any (cs : ByteArray) (hcs : Asc cs) (hN : cs.size ≤ 1000) (r : Nat) (w : World) (hr : r < 55296 ∨ (57343 < r ∧ r ≤ 1114111)) :
    Calls Tryz.prog 101 #[.string cs, .int .i32 r] w (IdxPost (setB cs r) w) := by
  unfold setB
  by_cases h1 : r < 128
  · refine (Tryz.strings_IndexRune_ascii cs r w (by omega) (by omega)).mono ?_
    rintro e w' ⟨rfl, rfl⟩
    refine ⟨_, rfl, ?_, Below.refl _ _⟩
    have e1 : ((r : Int).toNat.toUInt8) = UInt8.ofNat r := rfl
    rw [e1, decide_eq_true h1, Bool.true_and]
    exact byte_has _ _
  · rw [decide_eq_false h1, Bool.false_and]
    have key : Calls Tryz.prog 101 #[.string cs, .int .i32 r] w fun e w' => e = .returned (.int .i64 (-1)) ∧ Below w.heap.size w w' := by
      by_cases h3 : r = 65533
      · subst h3; exact runeX_err cs hcs w
      · exact runeX_more cs hcs hN r w (by omega) h3 hr
    refine key.mono ?_
    rintro e w' ⟨rfl, hb⟩
    exact ⟨-1, rfl, by simp, hb⟩
def IaX (s cs : ByteArray) (w : World) (wr : World) : Prop :=
  ∃ pos : Nat, wr.heap[w.heap.size]? = some (.stringIter s pos) ∧ Below w.heap.size w wr ∧ Hid (((bytesL s).take pos).any ((bytesL cs).contains ·) = false) ∧ pos ≤ s.size
set_option maxRecDepth 1000000 in
set_option maxHeartbeats 4000000 in
theorem anyX_short (s cs : ByteArray) (hcs : Asc cs) (hN : cs.size ≤ 1000) (h2 : 2 ≤ cs.size) (w : World) (hs : s.size ≤ 8) :
    Calls Tryz.prog 61 #[.string s, .string cs] w fun e w' => e = .returned (.int .i64 (Lib.indexAny (bytesL s) (bytesL cs))) ∧ Below w.heap.size w w' := by
  have HSh : Hid (∀ W, Calls Tryz.prog 102 #[.int .i64 s.size] W fun e w' => e = .returned (.bool false) ∧ W = w') := Lib.hid fun W => by
    refine (Tryz.strings_shouldUseASCIISet s.size W).mono ?_
    rintro e w' ⟨rfl, rfl⟩
    exact ⟨ret_bool (by simp; omega), rfl⟩
  have HR : Hid (∀ (r : Nat) W, Scalar r → Calls Tryz.prog 101 #[.string cs, .int .i32 r] W (IdxPost (setB cs r) W)) := Lib.hid fun r W h => runeX_any cs hcs hN r W h
  have HH := Lib.hid (index_hit (bytesL cs) (bytesL s))
  have HNo := Lib.hid (index_no (bytesL cs) (bytesL s))
  have HP : Hid (∀ b : UInt8, 128 ≤ b.toNat → (bytesL cs).contains b = false) := Lib.hid fun b hb => by
    cases hc : (bytesL cs).contains b
    · rfl
    · have := hcs b (by simpa using hc); omega
  have hem : cs.toList.isEmpty = false := by
    rw [Lib.toList_data]
    cases h : cs.data.toList with
    | nil => have := Lib.size_eq cs; rw [h, List.length_nil] at this; omega
    | cons _ _ => rfl
  have hn1 : ((cs.size : Int) == 1) = false := beq_eq_false_iff_ne.2 (by omega)
  clear hcs
  generalize Lib.indexAny (bytesL s) (bytesL cs) = G at *
  go_enter Tryz.func61, Tryz.ntmps61
  go_wp2_with fail
  ((with_reducible refine (HSh.out _).mono ?_))
  rintro e w1 ⟨rfl, rfl⟩
  go_wp2_with fail
  go_loopw [] (fun wr => IaX s cs w wr) (fun wr => s.size - wr.iterPos w.heap.size)
  case atStart =>
    exact ⟨0, World.iter_heap w s 0, (Below.refl _ w).alloc (Nat.le_refl _) _, Lib.hid rfl, by omega⟩
  case round =>
    obtain ⟨pos, hit, hbw, Hok, hps⟩ := hrel
    have hz := hbw.size
    by_cases hp : pos < s.size
    · have hd := dec_bd s pos hp
      have hne : (bytesL s).drop pos ≠ [] := by intro e; have := congrArg List.length e; rw [List.length_drop, bytesL_length] at this; simp at this; omega
      have hS : Scalar (Utf8.decode s pos).1 := by rw [decode_decL]; exact decL_scalar _ hne
      have hAny : Hid (((bytesL s).take (pos + (Utf8.decode s pos).2)).any ((bytesL cs).contains ·) = setB cs (Utf8.decode s pos).1) := Lib.hid (by
        have := any_dec ((bytesL cs).contains ·) HP.out _ hne
        rw [decode_decL, List.take_add, List.any_append, Hok.out, Bool.false_or]
        exact this)
      have hX : Hid (setB cs (Utf8.decode s pos).1 = true → (bytesL s)[pos]? = some (s.get! pos) ∧ (bytesL cs).contains (s.get! pos) = true) := Lib.hid fun h => by
        unfold setB at h
        rw [Bool.and_eq_true, decide_eq_true_eq] at h
        have hb : bt s pos < 128 := by
          rcases Nat.lt_or_ge (bt s pos) 128 with h1 | h1
          · exact h1
          · exfalso
            have h3 := dec_high s pos h1
            omega
        rw [dec_one s pos hb] at h
        refine ⟨?_, ?_⟩
        · unfold bytesL
          rw [show s.get! pos = s.data[pos]'hp from getElem!_pos s.data pos hp, Array.getElem?_toList]
          exact Array.getElem?_eq_getElem hp
        · have : UInt8.ofNat (bt s pos) = s.get! pos := by unfold bt; simp
          rw [← this]; exact h.2
      have hnx : ∀ ty, (Instr.next (.pointer (some ⟨w.heap.size, 0, none⟩)) true ty).run Tryz.prog wr = _ := fun ty => Lib.run_next_any_at wr w.heap.size s pos ty hit hp
      have hit2 := Lib.hid (Lib.iterAt_heap wr w.heap.size s pos (pos + (Utf8.decode s pos).2) hit)
      have hbw2 := Lib.hid (Lib.below_iterAt hbw (k := w.heap.size) (Nat.le_refl _) s (pos + (Utf8.decode s pos).2))
      have hsz2 : w.heap.size < (wr.iterAt w.heap.size s (pos + (Utf8.decode s pos).2)).heap.size := by rw [Lib.iterAt_size]; exact (Array.getElem?_eq_some_iff.1 hit).1
      have hitk := Lib.hid hit
      clear hit hne
      generalize Utf8.decode s pos = D at *
      have HC := Lib.hid fun W => HR.out D.1 W hS
      clear hS
      cases hsp : setB cs D.1
      · have dn : Hid (∀ W', Below (wr.iterAt w.heap.size s (pos + D.2)).heap.size (wr.iterAt w.heap.size s (pos + D.2)) W' → W'.heap[w.heap.size]? = some (.stringIter s (pos + D.2)) ∧ IaX s cs w W') := Lib.hid fun W' hW => by
          have e1 : W'.heap[w.heap.size]? = some (.stringIter s (pos + D.2)) := (hW.block _ hsz2).trans hit2.out
          exact ⟨e1, pos + D.2, e1, hbw2.out.trans (hW.mono (by omega)), Lib.hid (by rw [hAny.out, hsp]), by omega⟩
        rw [hsp] at HC
        clear hsp
        go_wp2_with fail
        ((with_reducible refine (HC.out _).mono ?_))
        rintro e w1 ⟨n, rfl, hn, b1⟩
        have hn1 : n < 0 := by
          rcases Int.lt_or_le n 0 with h | h
          · exact h
          · have := hn.1 h; simp at this
        clear hn
        go_wp2_with fail
        go_roundw
        case rel => exact (dn.out _ b1).2
        case measure =>
          simp only [World.iterPos, (dn.out _ b1).1, hitk.out]
          omega
      · have HT : Hid (G = (pos : Int)) := Lib.hid (HH.out pos _ Hok.out (hX.out hsp).1 (hX.out hsp).2)
        rw [hsp] at HC
        clear hsp
        go_wp2_with fail
        ((with_reducible refine (HC.out _).mono ?_))
        rintro e w1 ⟨n, rfl, hn, b1⟩
        have hn1 : 0 ≤ n := hn.2 rfl
        clear hn
        go_wp2_with fail
        go_ret
        exact ⟨ret_int (by rw [HT.out]), hbw2.out.trans (b1.mono (by omega))⟩
    · have hnx : ∀ ty, (Instr.next (.pointer (some ⟨w.heap.size, 0, none⟩)) true ty).run Tryz.prog wr = _ := fun ty => Lib.run_next_end_at wr w.heap.size s pos ty hit hp
      have HF : Hid (G = -1) := Lib.hid (HNo.out (by have := Hok.out; rwa [List.take_of_length_le (by rw [bytesL_length]; omega)] at this))
      go_wp2_with fail
      go_ret
      exact ⟨ret_int (by rw [HF.out]), hbw⟩

theorem anyX (s cs : ByteArray) (w : World) (hcs : Asc cs) (hN : cs.size ≤ 1000) (h2 : 2 ≤ cs.size) (hs : s.size ≤ 1000000) :
    Calls Tryz.prog 61 #[.string s, .string cs] w fun e w' => e = .returned (.int .i64 (Lib.indexAny (bytesL s) (bytesL cs))) ∧ Below w.heap.size w w' := by
  by_cases h : s.size ≤ 8
  · exact anyX_short s cs hcs hN h2 w h
  · refine (Tryz.strings_IndexAny_long (fun w => by kernel_rfl) s cs w h2 (by omega) (by omega) (by omega) ?_).mono ?_
    · intro j b hj
      exact hcs b (List.mem_of_getElem? hj)
    · rintro e w' ⟨rfl, rfl⟩
      exact ⟨rfl, ((Below.refl _ _).alloc (Nat.le_refl _) _).alloc (by simp) _⟩
set_option maxRecDepth 1000000 in
set_option maxHeartbeats 4000000 in
theorem containsX (s cs : ByteArray) (w : World) (hcs : Asc cs) (hN : cs.size ≤ 1000) (h2 : 2 ≤ cs.size) (hs : s.size ≤ 1000000) :
    Calls Tryz.prog 33 #[.string s, .string cs] w fun e w' => e = .returned (.bool ((bytesL s).any ((bytesL cs).contains ·))) ∧ Below w.heap.size w w' := by
  have HC := Lib.hid fun W => anyX s cs W hcs hN h2 hs
  have HX := Lib.hid (index_any (bytesL cs) (bytesL s))
  generalize Lib.indexAny (bytesL s) (bytesL cs) = n at *
  go_enter Tryz.func33, Tryz.ntmps33
  go_wp2_with fail
  ((with_reducible refine (HC.out _).mono ?_))
  rintro e w1 ⟨rfl, b1⟩
  go_wp2_with fail
  go_ret
  exact ⟨ret_bool HX.out, b1⟩

end Go.Proofs.YtcjkgmfidkgamaaGreatDoor
