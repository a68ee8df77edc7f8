/-
  Texts of the proof, put together (what this law reaches): NsVC, NfS.
-/
import Derived.Test.YtpoafhgbhnblmaaGreatDoorX40
import Derived.Test.YtpoafhgbhnblmaaGreatDoorX15
import Derived.Test.YtpoafhgbhnblmaaGreatDoorX39
import Derived.Test.YtpoafhgbhnblmaaGreatDoorX36
import Derived.Test.YtpoafhgbhnblmaaGreatDoorX30
import Derived.Test.YtpoafhgbhnblmaaGreatDoorX12
import Derived.Test.YtpoafhgbhnblmaaGreatDoorX09
import Derived.RangeFuncOwn
import Derived.RangeFuncWrites
set_option linter.unusedVariables false
set_option linter.unusedSimpArgs false
namespace Go.Proofs.YtpoafhgbhnblmaaGreatDoor
open Go.RowKit Go.Pub
set_option maxRecDepth 100000 in
set_option maxHeartbeats 2000000 in
theorem n_at8 (d : Nat) (hd : d ≤ 15) (zs : List ByteArray) (A : Option Addr) (c i B : Nat) (MM : Int) (m : MkL) (A9 : Option Addr) (c9 : Nat) (A10 : Option Addr) (c10 : Nat) (w : World) (hL : LinesAt w A zs MM) (hi : i < zs.length) (hc : zs.length ≤ c) (hcm : c ≤ maxLen) (hB : B ≤ w.heap.size) (ha : AttR w (Rg B w) m.att A9 A10) (hk : m.kind = 8) :
    Calls Tryz.prog 39 #[.slice A zs.length c, .int .i64 i, .agg (m.cells (.slice A9 m.att.cl.length c9) (.slice A10 m.att.pr.length c10)), .int .i64 d] w (BkPost B (some (BkT.mk 4 0 ⟨#[]⟩ (mk (joinN (cutL zs (i + 1) (closeI zs m (i + 1))))) ⟨#[]⟩ ⟨#[]⟩ (closeA zs m (i + 1)) ⟨#[]⟩ [], min (closeI zs m (i + 1) + 1) zs.length)) w) := by
  have hlen := hL.len
  have HLi := Lib.hid hL
  have HA := Lib.hid ha
  have HS := Lib.hid (dw_start w (m.cells (.slice A9 m.att.cl.length c9) (.slice A10 m.att.pr.length c10)))
  obtain ⟨PR, hPR⟩ : ∃ PR, PR = some (BkT.mk 4 0 ⟨#[]⟩ (mk (joinN (cutL zs (i + 1) (closeI zs m (i + 1))))) ⟨#[]⟩ ⟨#[]⟩ (closeA zs m (i + 1)) ⟨#[]⟩ [], min (closeI zs m (i + 1) + 1) zs.length) := ⟨_, rfl⟩
  rw [← hPR]
  have hbd := closeI_bd zs m i hi
  have HC := Lib.hid fun W (h : LinesAt W A zs MM) => n_closing zs A c i MM m A9 m.att.cl.length c9 A10 m.att.pr.length c10 W h hi
  have HBet := Lib.hid fun W (h : LinesAt W A zs MM) => n_between zs A c i (closeI zs m (i + 1)) MM W h hbd.1 hbd.2 hc hcm
  generalize closeA zs m (i + 1) = a at *
  generalize closeI zs m (i + 1) = t at *
  generalize mk (joinN (cutL zs (i + 1) t)) = J at *
  unfold ClsPost MkL.cells at HC
  have HMn : ∀ w : World, (Builtin.min_ #[3, 3] 3 #[.int .i64 ((t : Int) + 1), .int .i64 zs.length]).run Tryz.prog w = .ok (.int .i64 ((min (t + 1) zs.length : Nat) : Int)) w := fun w => by
    rw [run_min_int2]
    congr 2
    split <;> omega
  have HPR := Lib.hid hPR
  have z2 : (((m.kind : Nat) : Int) == 2) = false := kF (by omega)
  have z3 : (((m.kind : Nat) : Int) == 3) = false := kF (by omega)
  have z11 : (((m.kind : Nat) : Int) == 11) = false := kF (by omega)
  have z4 : (((m.kind : Nat) : Int) == 4) = false := kF (by omega)
  have z7 : (((m.kind : Nat) : Int) == 7) = false := kF (by omega)
  have z8 : (((m.kind : Nat) : Int) == 8) = true := kT (by omega)
  have HK := Lib.hid hk
  clear hL hk ha hPR
  unfold MkL.cells zbC at HS
  go_enter Tryz.func39, Tryz.ntmps39
  unfold MkL.cells
  go_upto_region 1 with fail
  generalize hW : (w.alloc _).alloc _ = W0
  have HD : Hid (DW w #[.int .i64 m.kind, .int .i64 m.n, .string m.ch, .int .i64 m.off, .string m.info, .string m.rest, .string m.dest, .string m.title, .string m.att.id, .slice A9 m.att.cl.length c9, .slice A10 m.att.pr.length c10] W0) := Lib.hid (by rw [← hW]; exact HS.out)
  clear hW HS
  have HL0 := Lib.hid (HLi.out.below HD.out.bel)
  have hw0 := HD.out.bel.size
  have hw1 := HD.out.res.lt
  obtain ⟨p0, p1, p2, p3, p4, p5, p6, p7, p8, p9, p10, x0, x1, x2, x3, x4, x5, x6, x7, x8, x9, x10⟩ := mk_facts HD.out.mrk
  clear x0 x1 x2 x3 x4 x5 x6 x7 x8 x9 x10
  go_wp2_with fail
  ((with_reducible refine (HC.out _ HL0.out).mono ?_))
  rintro e w1 ⟨⟨vC, vP, rfl, ho⟩, b1⟩
  obtain ⟨A1, c1, rfl⟩ := own_slice ho.cls
  obtain ⟨A2, c2, rfl⟩ := own_slice ho.prs
  have HD1 := Lib.hid (HD.out.next b1)
  have hz1 := b1.size
  obtain ⟨_, _, _, _, e1, e2, hat⟩ := AttR.of_own ho
  injection e1 with e1a _ e1b
  injection e2 with e2a _ e2b
  subst e1a e1b e2a e2b
  have HAT := Lib.hid hat
  clear ho b1 HC hat p0 p1 p2 p3 p4 p5 p6 p7 p8 p9 p10
  go_upto_region 14 with fail
  generalize hW2 : w1.alloc _ = W2
  obtain ⟨g12, hg12⟩ : ∃ g, g = w1.heap.size := ⟨_, rfl⟩
  have HBk : Hid (Blk W2 g12 43 #[.string a.id, .slice A1 a.cl.length c1, .slice A2 a.pr.length c2]) := Lib.hid (by rw [← hW2, hg12]; exact Blk.new w1 _ _)
  have HD2 : Hid (DW w #[.int .i64 m.kind, .int .i64 m.n, .string m.ch, .int .i64 m.off, .string m.info, .string m.rest, .string m.dest, .string m.title, .string m.att.id, .slice A9 m.att.cl.length c9, .slice A10 m.att.pr.length c10] W2) := Lib.hid (by rw [← hW2]; exact HD1.out.next ((Below.refl _ _).alloc (Nat.le_refl _) _))
  have HAT2 : Hid (AttR W2 (Rg W0.heap.size W2) a A1 A2) := Lib.hid (by rw [← hW2]; exact HAT.out.below ((Below.refl _ _).alloc (Nat.le_refl _) _))
  have hgw : w.heap.size + 1 < g12 := by omega
  have hz2 : W0.heap.size ≤ W2.heap.size := by rw [← hW2]; simp; omega
  rw [← hg12]
  clear hW2 hg12 HAT HD1 hz1
  have hgl := HBk.out.lt
  have HBr : Hid (Below W2.heap.size W2 W2) := Lib.hid (Below.refl _ _)
  have HS9 : Hid (∀ W, Below W2.heap.size W2 W → (W.cell? ⟨g12, 0, none⟩ = some (.string a.id) ∧ W.cell? ⟨g12, 1, none⟩ = some (.slice A1 a.cl.length c1) ∧ W.cell? ⟨g12, 2, none⟩ = some (.slice A2 a.pr.length c2) ∧ w.heap.size + 1 < W.heap.size)) := Lib.hid fun W h => by
    obtain ⟨q0, q1, q2, _⟩ := at_facts (HBk.out.below h hgl)
    exact ⟨q0, q1, q2, by have := h.size; omega⟩
  have HT11 : Hid (∀ W z0 z1 z2 z3 z4 z5 z6 z7 z8 z9 z10, Below W2.heap.size W2 W → ((((((((((((W.setCell ⟨w.heap.size + 1, 0, none⟩ z0).setCell ⟨w.heap.size + 1, 1, none⟩ z1).setCell ⟨w.heap.size + 1, 2, none⟩ z2).setCell ⟨w.heap.size + 1, 3, none⟩ z3).setCell ⟨w.heap.size + 1, 4, none⟩ z4).setCell ⟨w.heap.size + 1, 5, none⟩ z5).setCell ⟨w.heap.size + 1, 6, none⟩ z6).setCell ⟨w.heap.size + 1, 7, none⟩ z7).setCell ⟨w.heap.size + 1, 8, none⟩ z8).setCell ⟨w.heap.size + 1, 9, none⟩ z9).setCell ⟨w.heap.size + 1, 10, none⟩ z10).cell? ⟨g12, 0, none⟩ = some (.string a.id) ∧ (((((((((((W.setCell ⟨w.heap.size + 1, 0, none⟩ z0).setCell ⟨w.heap.size + 1, 1, none⟩ z1).setCell ⟨w.heap.size + 1, 2, none⟩ z2).setCell ⟨w.heap.size + 1, 3, none⟩ z3).setCell ⟨w.heap.size + 1, 4, none⟩ z4).setCell ⟨w.heap.size + 1, 5, none⟩ z5).setCell ⟨w.heap.size + 1, 6, none⟩ z6).setCell ⟨w.heap.size + 1, 7, none⟩ z7).setCell ⟨w.heap.size + 1, 8, none⟩ z8).setCell ⟨w.heap.size + 1, 9, none⟩ z9).setCell ⟨w.heap.size + 1, 10, none⟩ z10).cell? ⟨g12, 1, none⟩ = some (.slice A1 a.cl.length c1) ∧ (((((((((((W.setCell ⟨w.heap.size + 1, 0, none⟩ z0).setCell ⟨w.heap.size + 1, 1, none⟩ z1).setCell ⟨w.heap.size + 1, 2, none⟩ z2).setCell ⟨w.heap.size + 1, 3, none⟩ z3).setCell ⟨w.heap.size + 1, 4, none⟩ z4).setCell ⟨w.heap.size + 1, 5, none⟩ z5).setCell ⟨w.heap.size + 1, 6, none⟩ z6).setCell ⟨w.heap.size + 1, 7, none⟩ z7).setCell ⟨w.heap.size + 1, 8, none⟩ z8).setCell ⟨w.heap.size + 1, 9, none⟩ z9).setCell ⟨w.heap.size + 1, 10, none⟩ z10).cell? ⟨g12, 2, none⟩ = some (.slice A2 a.pr.length c2) ∧ w.heap.size + 1 < (((((((((((W.setCell ⟨w.heap.size + 1, 0, none⟩ z0).setCell ⟨w.heap.size + 1, 1, none⟩ z1).setCell ⟨w.heap.size + 1, 2, none⟩ z2).setCell ⟨w.heap.size + 1, 3, none⟩ z3).setCell ⟨w.heap.size + 1, 4, none⟩ z4).setCell ⟨w.heap.size + 1, 5, none⟩ z5).setCell ⟨w.heap.size + 1, 6, none⟩ z6).setCell ⟨w.heap.size + 1, 7, none⟩ z7).setCell ⟨w.heap.size + 1, 8, none⟩ z8).setCell ⟨w.heap.size + 1, 9, none⟩ z9).setCell ⟨w.heap.size + 1, 10, none⟩ z10).heap.size)) := Lib.hid fun W z0 z1 z2 z3 z4 z5 z6 z7 z8 z9 z10 h => by
    obtain ⟨q0, q1, q2, _⟩ := at_facts (Blk.grown (HBk.out.below h hgl) (grown11 W (w.heap.size + 1) z0 z1 z2 z3 z4 z5 z6 z7 z8 z9 z10) (by simp; omega))
    exact ⟨q0, q1, q2, Nat.lt_of_lt_of_le (by have := h.size; omega) (grown11 W (w.heap.size + 1) z0 z1 z2 z3 z4 z5 z6 z7 z8 z9 z10).size⟩
  have hw2 : IntKind.i64.wrap ((t : Int) + 1) = (t : Int) + 1 := IntWalk.i64_in _ (by omega)
  have HBt := Lib.hid (HBet.out W2 (HLi.out.below HD2.out.bel))
  have HBt2 : Hid (∀ W, Below W2.heap.size W2 W → Calls Tryz.prog 73 #[.slice A zs.length c, .int .i64 i, .int .i64 t] W fun e w' => e = .returned (.string J) ∧ Below W.heap.size W w') := Lib.hid fun W h => HBet.out W (HLi.out.below (HD2.out.bel.trans (h.mono HD2.out.bel.size)))
  obtain ⟨s0, s1, s2, _⟩ := HS9.out _ HBr.out
  go_wp2_with fail
  refine wp_region_held_drew (S := fun W' => W'.cell? ⟨g12, 0, none⟩ = some (.string a.id) ∧ W'.cell? ⟨g12, 1, none⟩ = some (.slice A1 a.cl.length c1) ∧ W'.cell? ⟨g12, 2, none⟩ = some (.slice A2 a.pr.length c2) ∧ w.heap.size + 1 < W'.heap.size) (by kernel_rfl) (HS9.out _ HBr.out.drew) (fun hHeld => ?_)
  refine tk 0 (.slice A zs.length c) rfl hHeld (fun W' hSw => ?_) ?_
  · obtain ⟨h0, h1, h2, h3⟩ := hSw
    go_simp
  refine tk 1 (.int .i64 i) rfl hHeld (fun W' hSw => ?_) ?_
  · obtain ⟨h0, h1, h2, h3⟩ := hSw
    go_simp
  refine tk 2 (.int .i64 t) rfl hHeld (fun W' hSw => ?_) ?_
  · obtain ⟨h0, h1, h2, h3⟩ := hSw
    go_simp
  refine tk 4 (.agg #[.string a.id, .slice A1 a.cl.length c1, .slice A2 a.pr.length c2]) rfl hHeld (fun W' hSw => ?_) ?_
  · obtain ⟨h0, h1, h2, h3⟩ := hSw
    go_simp
  refine tk 6 (.int .i64 t) rfl hHeld (fun W' hSw => ?_) ?_
  · obtain ⟨h0, h1, h2, h3⟩ := hSw
    go_simp
  refine tk 7 (.int .i64 ((t : Int) + 1)) rfl hHeld (fun W' hSw => ?_) ?_
  · obtain ⟨h0, h1, h2, h3⟩ := hSw
    go_simp
  refine tk 8 (.slice A zs.length c) rfl hHeld (fun W' hSw => ?_) ?_
  · obtain ⟨h0, h1, h2, h3⟩ := hSw
    go_simp
  refine tk 9 (.int .i64 zs.length) rfl hHeld (fun W' hSw => ?_) ?_
  · obtain ⟨h0, h1, h2, h3⟩ := hSw
    go_simp
  refine tk 10 (.int .i64 ((min (t + 1) zs.length : Nat) : Int)) rfl hHeld (fun W' hSw => ?_) ?_
  · obtain ⟨h0, h1, h2, h3⟩ := hSw
    go_simp
  refine rd1 3 rfl (fun K hK => ?_)
  go_simp
  ((with_reducible refine (HBt2.out _ HBr.out.drew).mono ?_))
  rintro e w9 ⟨rfl, b8⟩
  have b9 : Below W2.heap.size W2 w9 := HBr.out.drew.trans b8
  have HD9 := Lib.hid (HD2.out.next b9)
  have hz9 : w.heap.size + 1 < w9.heap.size := HD9.out.res.lt
  obtain ⟨q0, q1, q2, q3, q4, q5, q6, q7, q8, q9, q10, r0, r1, r2, r3, r4, r5, r6, r7, r8, r9, r10⟩ := ZB.facts HD9.out.res
  go_simp
  refine hK.out _ _ (HS9.out _ b9) (fun hHeld => ?_)
  clear hK K
  refine rd1 5 rfl (fun K hK => ?_)
  go_simp
  refine hK.out _ _ (hHeld) (fun hHeld => ?_)
  clear hK K
  refine rd1 11 rfl (fun K hK => ?_)
  go_simp
  refine hK.out _ _ (HT11.out _ _ _ _ _ _ _ _ _ _ _ _ b9) (fun hHeld => ?_)
  clear hK K
  refine rd1 12 rfl (fun K hK => ?_)
  go_simp
  refine hK.out _ _ (hHeld) (fun hHeld => ?_)
  clear hK K
  refine rd1 13 rfl (fun K hK => ?_)
  go_simp
  refine hK.out _ _ (hHeld) (fun hHeld => ?_)
  clear hK K
  refine wpAnyH_done (by kernel_rfl) ?_ _
  go_wp2_with fail
  rw [HPR.out]
  exact blockAt_ret (blk11 HD9.out.res _ _ _ _ _ _ _ _ _ _ _) rfl rfl rfl rfl (bk_some rfl (repB_mk (att := a) ((HAT2.out.below b9).keep (fun x hx => (grown11 _ (w.heap.size + 1) _ _ _ _ _ _ _ _ _ _ _).block x hx.2 (fun e => by injection e with e; have := hx.1; omega)) (fun x hx => ⟨by have := hx.1; omega, Nat.lt_of_lt_of_le hx.2 (grown11 _ (w.heap.size + 1) _ _ _ _ _ _ _ _ _ _ _).size⟩)) (srcV_none _ _) (KidsV.none_ _ _)) (below11 HD9.out.bel (Nat.le_succ _) _ _ _ _ _ _ _ _ _ _ _))

end Go.Proofs.YtpoafhgbhnblmaaGreatDoor
namespace Go.Pub
open Go.RowKit
variable {F : Fence} {n : Nat} {P : Program}
/-- An iterator's word, where the iterator may step by St: J stands over its steps. -/
def SeqStepsL {α : Type} (F : Fence) (n : Nat) (P : Program) (g : Nat) (lb : Array Value) (encs : α → Array Value) (Kp St : World → World → Prop) (S Sp : List α → Prop) (N : Nat) (w : World) : Prop :=
  ∀ (l : Nat) (J Jx : List α → World → Prop) (W : World), Below w.heap.size w W → AbidesFrom W.heap.size J → (∀ pre A B, J pre A → St A B → J pre B) →
    (∀ pre x W1, J pre W1 → pre.length < N → YieldAt F (n - 1) P l (encs x) W1 fun e W' =>
      (e = .returned (.bool true) ∧ J (pre ++ [x]) W' ∧ Kp W1 W') ∨ (e = .returned (.bool false) ∧ Jx (pre ++ [x]) W')) →
    J [] W →
    CallsIn F n P g (#[.func (.yield l) #[] #[]] ++ lb) W fun e W' => (∃ v, e = .returned v) ∧ ((∃ xs, S xs ∧ J xs W') ∨ (∃ pre, Sp pre ∧ Jx pre W'))
theorem range_stepsL {α : Type} {g : Operand} {ps : Array Tmp} {assign body : Code} {Q : Exit → Act → World → Prop} {a : Act} {w : World}
    (hro : F.round = none) (h1 : 1 ≤ n) {gf : Nat} {lb : Array Value} (hg : a.eval g = .func (.func gf) #[] lb) (hFg : F.fn gf) (eg : ∀ args w, (callFunc gf args).run P w = .ok (.enter gf args) w)
    {encs : α → Array Value} {Kp St : World → World → Prop} {S Sp : List α → Prop} {N : Nat} (hseq : SeqStepsL F (n - 1) P gf lb encs Kp St S Sp N w)
    (hKt : ∀ {A B C : World}, Kp A B → Kp B C → Kp A C) (hKb : ∀ (W : World) (l : Nat) (o o' : Obj), w.heap.size ≤ l → W.heap[l]? = some o → o.isCells = false → o.isWalk = false → Kp W (W.putObj l o')) (hps : ∀ x, (encs x).size = ps.size)
    (I : List α → World → Prop) (Ix : Code → List α → World → Prop) (hI : OwnFrom w.heap.size I) (hIx : ∀ c, OwnFrom w.heap.size (Ix c)) (hIs : ∀ pre A B, I pre A → St A B → I pre B) (hSb : ∀ A B, St A B → ∀ k, w.heap.size ≤ k → B.heap[k]? = A.heap[k]?) (h0 : I [] w) (a₁ : α → Act)
    (hassign : ∀ (l : Nat) (x : α) (W : World) (K : Act → World → Prop), K (a₁ x) W →
      assign.wpIn (F.inRound l) (n - 1 - 1) P (Exit.then K (fun _ _ _ => False)) { tmps := (ps.zip (encs x)).foldl (fun t (p, v) => t.setIfInBounds p v) a.tmps, defers := [] } W)
    (hbody : ∀ (l : Nat) (pre : List α) (x : α) (W : World), I pre W → pre.length < N → body.wpIn (F.inRound l) (n - 1 - 1) P (ownPostG w.heap.size Kp I Ix (pre ++ [x]) W) (a₁ x) W)
    (hdone : ∀ (D : Nat) (xs : List α) (W : World), w.heap.size ≤ D → S xs → I xs W → W.heap[D]? = some (.deferred (some [])) → Q .normal { a with defers := { target := .collected D, args := #[] } :: a.defers } W)
    (hstop : ∀ (D : Nat) (c : Code) (pre : List α) (W : World), w.heap.size ≤ D → Sp pre → Ix c pre W → W.heap[D]? = some (.deferred (some [])) → c.wpIn F n P Q { a with defers := { target := .collected D, args := #[] } :: a.defers } W) :
    (Code.rangeFunc g ps assign body).wpIn F n P Q a w := by
  refine wpIn_rangeFunc ?_
  intro fn hfn
  rw [hro]
  obtain ⟨rec, hrec⟩ : ∃ rec : LoopState → Option Code → Loop, rec = fun st pe => { state := st, pending := pe, fn, tmps := a.tmps, params := ps, assign, body, defers := w.heap.size } := ⟨_, rfl⟩
  obtain ⟨W1, hW1⟩ : ∃ W1, (w.alloc (.deferred (some []))).alloc (.loop (rec .ready none)) = W1 := ⟨_, rfl⟩
  have z1 : W1.heap.size = w.heap.size + 2 := by rw [← hW1]; simp
  have hL1 : W1.heap[w.heap.size + 1]? = some (.loop (rec .ready none)) := by
    have := World.alloc_heap_new (w.alloc (.deferred (some []))) (.loop (rec .ready none))
    rw [World.size_alloc, hW1] at this; exact this
  have hK1 : W1.heap[w.heap.size]? = some (.deferred (some [])) := by
    rw [← hW1]; exact (Below.heap_alloc _ _ _ (by simp)).trans (World.alloc_heap_new w _)
  have hI1 : I [] W1 := by rw [← hW1]; exact hI.alloc _ (hI.alloc _ h0)
  have hb1 : Below w.heap.size w W1 := by rw [← hW1]; exact ((Below.refl _ w).alloc (Nat.le_refl _) _).alloc (by simp) _
  refine ⟨w.heap.size + 1, [{ target := .collected w.heap.size, args := #[] }], W1, { target := .fn (.func gf) lb, args := #[.func (.yield (w.heap.size + 1)) #[] #[]] }, W1, gf,
    #[.func (.yield (w.heap.size + 1)) #[] #[]] ++ lb, W1, ?_, ?_, ?_, ?_, fun _ => h1, ?_⟩
  · rw [← hW1, hrec]; exact run_enterLoop_outer _ _ _ _ _
  · simp only [resolve, hg]
    simp [go_sem]
  · intro f' hf'; simp [Target.leads] at hf'; subst hf'; exact hFg
  · simp [invoke, go_sem, eg]
  refine (hseq (w.heap.size + 1)
    (fun pre W => I pre W ∧ W.heap[w.heap.size + 1]? = some (.loop (rec .ready none)) ∧ W.heap[w.heap.size]? = some (.deferred (some [])))
    (fun pre W => ∃ c, Ix c pre W ∧ W.heap[w.heap.size + 1]? = some (.loop (rec .done (some c))) ∧ W.heap[w.heap.size]? = some (.deferred (some [])))
    W1 hb1 ?_ ?_ ?_ ⟨hI1, hL1, hK1⟩).mono ?_
  · intro s A B row hs hgr hr
    refine ⟨hI s A B row hs.1 hgr (fun r e => ?_), (grownBy_keeps hgr (fun r e => (hr r e).2) hs.2.1 rfl).trans hs.2.1, (grownBy_keeps hgr (fun r e => (hr r e).2) hs.2.2 rfl).trans hs.2.2⟩
    obtain ⟨hB, o, ho, hw⟩ := hr r e
    exact ⟨by omega, o, ho, Obj.not_cells_of_walk hw⟩
  · intro pre A B hs hst
    exact ⟨hIs pre A B hs.1 hst, (hSb A B hst _ (by omega)).trans hs.2.1, (hSb A B hst _ (Nat.le_refl _)).trans hs.2.2⟩
  · rintro pre x W ⟨hi, hl, hk⟩ hlen
    have hlt : w.heap.size + 1 < W.heap.size := (Array.getElem?_eq_some_iff.1 hl).1
    have hy := run_yield (P := P) (args := encs x) hl (by rw [hrec]; exact hps x)
    rw [hrec] at hy
    refine ⟨fn, _, assign, body, hy, roundIn_of_wpIn hfn (hassign _ x W _ ⟨_, run_beginRound hl (by rw [hrec]), ?_⟩)⟩
    obtain ⟨W2, hW2⟩ : ∃ W2, W2 = W.putObj (w.heap.size + 1) (.loop { rec .ready none with state := .busy }) := ⟨_, rfl⟩
    have hl2 : W2.heap[w.heap.size + 1]? = some (.loop { rec .ready none with state := .busy }) := by rw [hW2]; exact World.putObj_heap_same hlt
    have hk2 : W2.heap[w.heap.size]? = some (.deferred (some [])) := by rw [hW2]; exact (World.putObj_heap_other (by omega)).trans hk
    have hw2 : Kp W W2 := by rw [hW2]; exact hKb _ _ _ _ (by omega) hl rfl rfl
    have hi2 : I pre W2 := by rw [hW2]; exact hI.putObj _ hi (by omega) hl rfl
    refine wpIn_mono (hW2 ▸ hbody _ pre x _ hi2 hlen) ?_
    have fin : ∀ (jump : Option Code) (W3 : World), KeepsFrom w.heap.size W2 W3 →
        (Instr.endRound (w.heap.size + 1) jump).run P W3 = .ok (.bool jump.isNone) (W3.putObj (w.heap.size + 1) (.loop (rec (if jump.isNone then .ready else .done) jump))) ∧
        W3.heap[w.heap.size + 1]? = some (.loop { rec .ready none with state := .busy }) ∧
        (W3.putObj (w.heap.size + 1) (.loop (rec (if jump.isNone then .ready else .done) jump))).heap[w.heap.size + 1]? = some (.loop (rec (if jump.isNone then .ready else .done) jump)) ∧
        (W3.putObj (w.heap.size + 1) (.loop (rec (if jump.isNone then .ready else .done) jump))).heap[w.heap.size]? = some (.deferred (some [])) := fun jump W3 hk3 => by
      have hl3 := hk3.same _ _ (by omega) hl2 rfl
      have := run_endRound (P := P) jump hl3
      rw [hrec] at this ⊢
      exact ⟨this, by rw [hrec] at hl3; exact hl3, World.putObj_heap_same (Array.getElem?_eq_some_iff.1 hl3).1, (World.putObj_heap_other (by omega)).trans (hk3.same _ _ (Nat.le_refl _) hk2 rfl)⟩
    have out : ∀ (c : Code) (W3 : World), KeepsFrom w.heap.size W2 W3 → Ix c (pre ++ [x]) W3 → ∃ v W4, (Instr.endRound (w.heap.size + 1) (some c)).run P W3 = .ok v W4 ∧ v = .bool false ∧ ∃ c', Ix c' (pre ++ [x]) W4 ∧ W4.heap[w.heap.size + 1]? = some (.loop (rec .done (some c'))) ∧ W4.heap[w.heap.size]? = some (.deferred (some [])) := fun c W3 hk3 hi3 => by
      obtain ⟨hr, hl3, hl4, hk4⟩ := fin (some c) W3 hk3
      exact ⟨_, _, hr, rfl, c, (hIx _).putObj _ hi3 (by omega) hl3 rfl, hl4, hk4⟩
    rintro e a3 W3 hp0
    have hp : ownPostG w.heap.size Kp I Ix (pre ++ [x]) W2 e a3 W3 := by rw [hW2]; exact hp0
    clear hp0
    cases e with
    | normal =>
      obtain ⟨hk3, hkp3, hi3⟩ := hp
      obtain ⟨hr, hl3, hl4, hk4⟩ := fin none W3 hk3
      exact ⟨_, _, hr, .inl ⟨rfl, ⟨hI.putObj _ hi3 (by omega) hl3 rfl, hl4, hk4⟩, hKt (hKt hw2 hkp3) (hKb _ _ _ _ (by omega) hl3 rfl rfl)⟩⟩
    | ret =>
      obtain ⟨v, W4, q1, rfl, q2⟩ := out .ret W3 hp.1 hp.2
      exact ⟨_, _, q1, .inr ⟨rfl, q2⟩⟩
    | exit id =>
      obtain ⟨v, W4, q1, rfl, q2⟩ := out (.exit id) W3 hp.1 hp.2
      exact ⟨_, _, q1, .inr ⟨rfl, q2⟩⟩
    | goto t =>
      obtain ⟨v, W4, q1, rfl, q2⟩ := out (.goto t) W3 hp.1 hp.2
      exact ⟨_, _, q1, .inr ⟨rfl, q2⟩⟩
    | panic ch => exact hp.elim
    | outgrown => exact hp.elim
  · rintro e W2 ⟨⟨v, rfl⟩, (⟨xs, hS, hi, hl, hk⟩ | ⟨pre, hSp, c, hi, hl, hk⟩)⟩
    · exact ⟨none, _, by have := run_endLoop (P := P) hl (by rw [hrec]; simp); rw [hrec] at this; exact this, hdone _ xs _ (Nat.le_refl _) hS (hI.putObj _ hi (by omega) hl rfl) ((World.putObj_heap_other (by omega)).trans hk)⟩
    · exact ⟨some c, _, by have := run_endLoop (P := P) hl (by rw [hrec]; simp); rw [hrec] at this; exact this, hstop _ c pre _ (Nat.le_refl _) hSp ((hIx c).putObj _ hi (by omega) hl rfl) ((World.putObj_heap_other (by omega)).trans hk)⟩
end Go.Pub
namespace Go.Proofs.YtpoafhgbhnblmaaGreatDoor
open Go.RowKit Go.Pub
set_option maxRecDepth 100000 in
set_option maxHeartbeats 1000000 in
theorem split_lf (s : ByteArray) (w : World) : Calls Tryz.prog 92 #[.string s, .string ⟨#[10]⟩] w fun e w' =>
    e = .returned (.func (.func 199) #[] #[.pointer (some ⟨w.heap.size + 1, 0, none⟩), .pointer (some ⟨w.heap.size, 0, none⟩), .pointer (some ⟨w.heap.size + 2, 0, none⟩)]) ∧
    w' = ((w.alloc (.cells #[.string s] 9)).alloc (.cells #[.string ⟨#[10]⟩] 9)).alloc (.cells #[.int .i64 0] 3) := by
  have H : Hid (∀ W, Calls Tryz.prog 147 #[.string s, .string ⟨#[10]⟩, .int .i64 0] W fun e w' =>
    e = .returned (.func (.func 199) #[] #[.pointer (some ⟨W.heap.size + 1, 0, none⟩), .pointer (some ⟨W.heap.size, 0, none⟩), .pointer (some ⟨W.heap.size + 2, 0, none⟩)]) ∧
    w' = ((W.alloc (.cells #[.string s] 9)).alloc (.cells #[.string ⟨#[10]⟩] 9)).alloc (.cells #[.int .i64 0] 3)) := Lib.hid fun W => by
    go_enter Tryz.func147, Tryz.ntmps147
    go_wp2_with fail
    go_ret
    exact ⟨rfl, rfl⟩
  go_enter Tryz.func92, Tryz.ntmps92
  go_wp2_with fail
  ((with_reducible refine (H.out _).mono ?_))
  rintro e w1 ⟨rfl, rfl⟩
  go_wp2_with fail
  go_ret
  exact ⟨rfl, rfl⟩

end Go.Proofs.YtpoafhgbhnblmaaGreatDoor
namespace Go.Pub
/-- The parts between line feeds. -/
def lfL : List UInt8 → List (List UInt8)
  | [] => [[]]
  | c :: l => if c = 10 then [] :: lfL l else match lfL l with
    | [] => [[c]]
    | p :: ps => (c :: p) :: ps
theorem lf_line (r : List UInt8) : ∀ l : List UInt8, (∀ b ∈ l, b ≠ 10) → lfL (l ++ 10 :: r) = l :: lfL r
  | [], _ => by show lfL (10 :: r) = _; conv => lhs; unfold lfL
                rw [if_pos rfl]
  | c :: l, h => by
    show lfL (c :: (l ++ 10 :: r)) = _
    conv => lhs; unfold lfL
    rw [if_neg (h c List.mem_cons_self), lf_line r l fun b hb => h b (List.mem_cons_of_mem _ hb)]
theorem lf_join : ∀ ls : List ByteArray, (∀ z ∈ ls, ∀ b ∈ bytesL z, b ≠ 10) → lfL (ls.flatMap fun z => bytesL z ++ [10]) = ls.map bytesL ++ [[]]
  | [], _ => rfl
  | z :: ls, h => by
    rw [List.flatMap_cons, List.append_assoc, List.singleton_append, lf_line _ _ (h z List.mem_cons_self), lf_join ls fun y hy => h y (List.mem_cons_of_mem _ hy)]; rfl
theorem lf_idx : ∀ l : List UInt8, (Lib.indexByte l 10 = -1 ∧ lfL l = [l]) ∨ ∃ k : Nat, Lib.indexByte l 10 = k ∧ k < l.length ∧ lfL l = l.take k :: lfL (l.drop (k + 1))
  | [] => .inl ⟨rfl, rfl⟩
  | b :: l => by
    by_cases hb : b = 10
    · subst hb
      exact .inr ⟨0, rfl, by simp, by conv => lhs; unfold lfL
                                      rw [if_pos rfl]; rfl⟩
    · have hq : (b == 10) = false := beq_eq_false_iff_ne.2 hb
      rcases lf_idx l with ⟨h1, h2⟩ | ⟨k, h1, h2, h3⟩
      · refine .inl ⟨?_, ?_⟩
        · unfold Lib.indexByte; rw [hq, h1]; rfl
        · unfold lfL; rw [if_neg hb, h2]
      · refine .inr ⟨k + 1, ?_, by simp; omega, ?_⟩
        · unfold Lib.indexByte; rw [hq, h1, if_neg (by simp), if_neg (by simp)]; omega
        · conv => lhs; unfold lfL
          rw [if_neg hb, h3]; rfl
end Go.Pub
namespace Go.Proofs.YtpoafhgbhnblmaaGreatDoor
open Go.RowKit Go.Pub
/-- What the iterator's three boxes hold: the separator, what is left, nought. -/
structure SqL (b0 b1 b2 : Nat) (rest : ByteArray) (W : World) : Prop where
  s : W.heap[b0]? = some (.cells #[.string rest] 9 (0, 0))
  sep : W.heap[b1]? = some (.cells #[.string ⟨#[10]⟩] 9 (0, 0))
  sav : W.heap[b2]? = some (.cells #[.int .i64 0] 3 (0, 0))
/-- A step of the iterator. -/
def StL (b0 : Nat) (A B : World) : Prop := ∃ v, B = A.setCell ⟨b0, 0, none⟩ (.string v)
/-- A round keeps the boxes. -/
def KpL (b0 b1 b2 : Nat) (W W' : World) : Prop := W'.heap[b0]? = W.heap[b0]? ∧ W'.heap[b1]? = W.heap[b1]? ∧ W'.heap[b2]? = W.heap[b2]?
def boxLenL (b : Nat) (W : World) : Nat := match W.heap[b]? with
  | some (.cells cs _ _) => match (cs : Array Value)[0]? with
    | some (Value.string t) => t.size
    | _ => 0
  | _ => 0
abbrev StrQ := { s : ByteArray // s.size ≤ 1000000 }
def toStrQ (l : List UInt8) : StrQ := if h : l.length ≤ 1000000 then ⟨mk l, by rw [mk_size]; exact h⟩ else ⟨⟨#[]⟩, by decide⟩
theorem toStrQ_val (l : List UInt8) (h : l.length ≤ 1000000) : (toStrQ l).1 = mk l := by unfold toStrQ; rw [dif_pos h]
set_option maxRecDepth 100000 in
set_option maxHeartbeats 2000000 in
theorem lf_stops (n : Nat) (hn : 1 ≤ n) (b0 b1 b2 : Nat) (h01 : b0 ≠ b1) (h02 : b0 ≠ b2) (s : ByteArray) (hs : s.size ≤ 1000000) (w : World) (hB : SqL b0 b1 b2 s w) :
    SeqStepsL Fence.wide n Tryz.prog 199 #[.pointer (some ⟨b1, 0, none⟩), .pointer (some ⟨b0, 0, none⟩), .pointer (some ⟨b2, 0, none⟩)] (fun x : StrQ => #[Value.string x.1]) (KpL b0 b1 b2) (StL b0) (fun ys => ys = (lfL (bytesL s)).map toStrQ) (fun pre => pre <+: (lfL (bytesL s)).map toStrQ) (lfL (bytesL s)).length w := fun l J Jx W hW _ hSt hY h0 => by
  have lt : ∀ {b : Nat} {o : Obj}, w.heap[b]? = some o → b < w.heap.size := fun {b o} h => by
    rcases Nat.lt_or_ge b w.heap.size with h1 | h1
    · exact h1
    · rw [Array.getElem?_eq_none h1] at h; cases h
  have hBW : SqL b0 b1 b2 s W := ⟨(hW.block b0 (lt hB.s)).trans hB.s, (hW.block b1 (lt hB.sep)).trans hB.sep, (hW.block b2 (lt hB.sav)).trans hB.sav⟩
  generalize hall : lfL (bytesL s) = all at *
  have HALL := Lib.hid hall
  clear hall
  have k1 : W.cell? ⟨b1, 0, none⟩ = some (.string ⟨#[10]⟩) := cell_of_row W b1 0 _ _ _ hBW.sep
  refine callsIn_of_wp Tryz.func199 rfl trivial ?_ rfl
  simp only [Tryz.ntmps199, List.size_toArray, List.length_cons, List.length_nil, Nat.reduceAdd, Nat.reduceSub, Array.replicate_succ, Array.replicate_zero, List.push_toArray, List.append_toArray, List.nil_append, List.cons_append]
  gi_wp2_with fail
  gi_loopw [7, 8] (fun _ _ wr => ∃ (rest : ByteArray) (done : List (List UInt8)), rest.size ≤ 1000000 ∧ SqL b0 b1 b2 rest wr ∧ Hid (done ++ lfL (bytesL rest) = all) ∧ J (done.map toStrQ) wr)
    (fun _ _ wr => boxLenL b0 wr)
  case atStart => exact ⟨s, [], hs, hBW, HALL, h0⟩
  case round =>
    obtain ⟨rest, done, hz, hb, Hall, hJ⟩ := hrel
    have c0 : wr.cell? ⟨b0, 0, none⟩ = some (.string rest) := cell_of_row wr b0 0 _ _ _ hb.s
    have c1 : wr.cell? ⟨b1, 0, none⟩ = some (.string ⟨#[10]⟩) := cell_of_row wr b1 0 _ _ _ hb.sep
    have c2 : wr.cell? ⟨b2, 0, none⟩ = some (.int .i64 0) := cell_of_row wr b2 0 _ _ _ hb.sav
    have HS : Hid (∀ W : World, CallsIn Fence.wide (n - 1) Tryz.prog 201 #[.string rest, .string ⟨#[10]⟩] W fun e w' => e = .returned (.int .i64 (Lib.indexByte (bytesL rest) 10)) ∧ W = w') := Lib.hid fun W => callsIn_wide (n := n - 1).2 ((Tryz.strings_Index_one rest 10 W).mono (by rintro e w' ⟨rfl, rfl⟩; exact ⟨rfl, rfl⟩))
    have hlen : (bytesL rest).length = rest.size := bytesL_length rest
    rcases lf_idx (bytesL rest) with ⟨h1, h2⟩ | ⟨k, h1, h2, h3⟩
    · rw [h1] at HS
      have HN : Hid (done ++ [bytesL rest] = all) := Lib.hid (by rw [← Hall.out, h2])
      have ex : (toStrQ (bytesL rest)).1 = rest := by rw [toStrQ_val _ (by omega)]; exact mk_bytesL rest
      obtain ⟨fn, tmps, assign, body, hy, hR⟩ := hY (done.map toStrQ) (toStrQ (bytesL rest)) wr hJ (by rw [← HN.out]; simp)
      rw [ex] at hy
      gi_wp2_with fail
      refine ⟨trivial, ?_⟩
      ((with_reducible refine (HS.out _).mono ?_))
      rintro e w0 ⟨rfl, rfl⟩
      gi_wp2_with fail
      refine hR.mono ?_
      rintro e W3 (⟨rfl, hJ3, hk3⟩ | ⟨rfl, hJx3⟩)
      · gi_wp2_with fail
        go_end0
        exact ⟨⟨_, rfl⟩, .inl ⟨_, by rw [← HN.out]; simp, hJ3⟩⟩
      · gi_wp2_with fail
        go_end0
        exact ⟨⟨_, rfl⟩, .inr ⟨_, ⟨[], by rw [← HN.out]; simp⟩, hJx3⟩⟩
    · rw [h1] at HS
      have hkz : k < rest.size := by omega
      have e0 : (bytesL rest).take k = bytesL (rest.extract 0 k) := by rw [bytesL_sub]; unfold sub; rw [List.drop_zero, Nat.sub_zero]
      have e1 : (bytesL rest).drop (k + 1) = bytesL (rest.extract (k + 1) rest.size) := by rw [extract_drop, bytesL_mk']; rfl
      rw [e0, e1] at h3
      have HN : Hid (done ++ [bytesL (rest.extract 0 k)] ++ lfL (bytesL (rest.extract (k + 1) rest.size)) = all) := Lib.hid (by rw [← Hall.out, h3]; simp)
      have ez : (rest.extract 0 k).size = k := by rw [ByteArray.size_extract]; omega
      have ez2 : (rest.extract (k + 1) rest.size).size = rest.size - (k + 1) := by rw [ByteArray.size_extract]; omega
      have ex : (toStrQ (bytesL (rest.extract 0 k))).1 = rest.extract 0 k := by rw [toStrQ_val _ (by rw [bytesL_length]; omega)]; exact mk_bytesL _
      obtain ⟨fn, tmps, assign, body, hy, hR⟩ := hY (done.map toStrQ) (toStrQ (bytesL (rest.extract 0 k))) wr hJ (by rw [← HN.out]; simp)
      rw [ex] at hy
      clear e0 e1 h1 h2 h3
      gi_wp2_with fail
      refine ⟨trivial, ?_⟩
      ((with_reducible refine (HS.out _).mono ?_))
      rintro e w0 ⟨rfl, rfl⟩
      gi_wp2_with fail
      refine hR.mono ?_
      rintro e W3 (⟨rfl, hJ3, hk3⟩ | ⟨rfl, hJx3⟩)
      · have hb3 : SqL b0 b1 b2 rest W3 := ⟨hk3.1.trans hb.s, hk3.2.1.trans hb.sep, hk3.2.2.trans hb.sav⟩
        have d0 : W3.cell? ⟨b0, 0, none⟩ = some (.string rest) := cell_of_row W3 b0 0 _ _ _ hb3.s
        have d1 : W3.cell? ⟨b1, 0, none⟩ = some (.string ⟨#[10]⟩) := cell_of_row W3 b1 0 _ _ _ hb3.sep
        have g0 : W3.frozen? ⟨b0, 0, none⟩ = false := Blk.frozen (t := 9) (cs := #[.string rest]) hb3.s 0
        have hJ4 := hSt _ _ _ hJ3 ⟨rest.extract (k + 1) rest.size, rfl⟩
        have hb4 : SqL b0 b1 b2 (rest.extract (k + 1) rest.size) (W3.setCell ⟨b0, 0, none⟩ (.string (rest.extract (k + 1) rest.size))) :=
          ⟨Blk.set_ (t := 9) (cs := #[.string rest]) hb3.s 0 _, Blk.far (t := 9) (cs := #[.string ⟨#[10]⟩]) hb3.sep (fun e => h01 e.symm) _, Blk.far (t := 3) (cs := #[.int .i64 0]) hb3.sav (fun e => h02 e.symm) _⟩
        have hm4 : boxLenL b0 (W3.setCell ⟨b0, 0, none⟩ (.string (rest.extract (k + 1) rest.size))) < boxLenL b0 wr := by
          unfold boxLenL
          rw [hb4.s, hb.s]
          show (rest.extract (k + 1) rest.size).size < rest.size
          omega
        have HB4 := Lib.hid hb4
        have HM4 := Lib.hid hm4
        clear hb4 hm4
        gi_wp2_with fail
        go_roundw
        case rel => exact ⟨rest.extract (k + 1) rest.size, done ++ [bytesL (rest.extract 0 k)], by omega, HB4.out, HN, by rw [List.map_append]; exact hJ4⟩
        case measure => exact HM4.out
      · gi_wp2_with fail
        refine bodyPost_ret (results_none rfl _ _ _) rfl ?_
        exact ⟨⟨_, rfl⟩, .inr ⟨_, ⟨(lfL (bytesL (rest.extract (k + 1) rest.size))).map toStrQ, by rw [← HN.out]; simp⟩, hJx3⟩⟩

end Go.Proofs.YtpoafhgbhnblmaaGreatDoor
