/-
  Texts of the proof, put together (what this law reaches): ScTJ, ScTI, ScTK.
-/
import Derived.Test.YtcjkgmfidkgamaaGreatDoorD17
import Derived.Test.YtcjkgmfidkgamaaGreatDoorD34
import Derived.Deep.MidRow
import Derived.Great.BuildSlice
import Derived.Test.YtcjkgmfidkgamaaGreatDoorD18
import Derived.Test.YtcjkgmfidkgamaaGreatDoorD22
import Derived.Test.YtcjkgmfidkgamaaGreatDoorD24
import Derived.Test.YtcjkgmfidkgamaaGreatDoorD25
set_option linter.unusedVariables false
set_option linter.unusedSimpArgs false
namespace Go.Pub
/-- A list with others set from o on. -/
def setL : List Value → Nat → List Value → List Value
  | xs, _, [] => xs
  | xs, o, v :: r => setL (xs.set o v) (o + 1) r
theorem setL_app : ∀ (vs a b : List Value), b.length = vs.length → setL (a ++ b) a.length vs = a ++ vs
  | [], a, b, h => by
    have : b = [] := List.length_eq_zero_iff.1 h
    subst this; rfl
  | v :: r, a, b, h => by
    cases b with
    | nil => cases h
    | cons x b =>
      unfold setL
      rw [List.set_append_right _ _ (Nat.le_refl _), Nat.sub_self, List.set_cons_zero]
      have e : a ++ v :: b = (a ++ [v]) ++ b := by simp
      rw [e, show a.length + 1 = (a ++ [v]).length by simp, setL_app r (a ++ [v]) b (by simpa using h)]
      simp
end Go.Pub
namespace Go.Proofs.YtcjkgmfidkgamaaGreatDoor
open Go.RowKit Go.Pub
theorem heap_setCells (g k : Nat) (h : k ≠ g) : ∀ (vs : List Value) (o : Nat) (W : World), (W.setCells g o vs).heap[k]? = W.heap[k]?
  | [], _, _ => rfl
  | v :: r, o, W => by
    rw [World.setCells, heap_setCells g k h r (o + 1) _]
    exact Below.heap_setCell W ⟨g, o, none⟩ v k h
theorem size_setCells (g : Nat) : ∀ (vs : List Value) (o : Nat) (W : World), (W.setCells g o vs).heap.size = W.heap.size
  | [], _, _ => rfl
  | v :: r, o, W => by
    rw [World.setCells, size_setCells g r (o + 1) _]
    simp [World.setCell]
theorem below_setCells {B : Nat} {w : World} (g : Nat) (hg : B ≤ g) : ∀ (vs : List Value) (o : Nat) (W : World), Below B w W → Below B w (W.setCells g o vs)
  | [], _, _, h => h
  | v :: r, o, W, h => by
    rw [World.setCells]
    exact below_setCells g hg r (o + 1) _ (h.setCell (p := ⟨g, o, none⟩) hg v)
theorem own_setCells {base : Nat} {e : TypeId} {size g cap n : Nat} : ∀ (vs : List Value) (o : Nat) (xs : List Value) (W : World), W.ownsRow base e size (.slice (some ⟨g, 0, none⟩) n cap) n xs → (W.setCells g o vs).ownsRow base e size (.slice (some ⟨g, 0, none⟩) n cap) n (setL xs o vs)
  | [], _, _, _, h => h
  | v :: r, o, xs, W, h => by
    rw [World.setCells]
    unfold setL
    exact own_setCells r (o + 1) _ _ (h.stored o v).1
section
variable {w : World} {base : Nat} {ps : List PcL}
/-- The cells of the last piece are there. -/
theorem PcOwn.there {q : PcL} {g cap : Nat} (h : PcOwn w base (.slice (some ⟨g, 0, none⟩) (ps.length + 1) cap) (ps ++ [q])) : w.there g (ps.length * 18) 18 := by
  obtain ⟨S, vs, hS, hk, ho⟩ := h
  have hf := hk.flat
  rw [List.length_append, List.length_singleton] at ho hf
  intro j hj
  refine ⟨?_, ho.frozenAt _⟩
  rw [ho.cellAt _ (by omega), List.getElem?_eq_getElem (by omega)]
  rfl
set_option maxHeartbeats 1000000 in
/-- The last piece is stored anew. -/
theorem PcOwn.swap {q p : PcL} {g cap : Nat} (h : PcOwn w base (.slice (some ⟨g, 0, none⟩) (ps.length + 1) cap) (ps ++ [q])) (h1 : p.inl.args = []) (h2 : p.inl.cites = []) :
    PcOwn (w.setCells g (ps.length * 18) (pcC p none 0 none 0).toList) base (.slice (some ⟨g, 0, none⟩) (ps.length + 1) cap) (ps ++ [p]) := by
  obtain ⟨S, vs, hS, hk, ho⟩ := h
  obtain ⟨vk, vq, rfl, hr, hq⟩ := hk.split
  rw [List.length_append, List.length_singleton] at ho
  have hf := hr.flat
  have hne : ∀ k, S k → k ≠ g := fun k hk e => (hS k hk).2.2 (by rw [e]; rfl)
  have hv : PcV (w.setCells g (ps.length * 18) (pcC p none 0 none 0).toList) S (pcC p none 0 none 0) p := ⟨none, 0, none, 0, rfl, InR.plain _ _ _ _ _ h1 h2⟩
  have h18 : (pcC p none 0 none 0).toList.length = 18 := rfl
  generalize pcC p none 0 none 0 = C at *
  have hq18 := hq.size
  have o1 := own_setCells C.toList (ps.length * 18) _ _ ho
  have e1 : (vk ++ [vq]).flatMap Array.toList = vk.flatMap Array.toList ++ vq.toList := by rw [List.flatMap_append, List.flatMap_singleton]
  have e2 : (vk ++ [C]).flatMap Array.toList = vk.flatMap Array.toList ++ C.toList := by rw [List.flatMap_append, List.flatMap_singleton]
  rw [e1, ← hf, setL_app _ _ _ (by omega), ← e2, hf] at o1
  refine ⟨S, vk ++ [C], fun k hk => ⟨(hS k hk).1, by rw [size_setCells]; exact (hS k hk).2.1, (hS k hk).2.2⟩, RepP.snoc hv (hr.keep (fun k hk => heap_setCells g k (hne k hk) _ _ _) fun _ h => h), ?_⟩
  rw [List.length_append, List.length_singleton]
  exact o1

end
/-- The last of pieces that may get longer is a literal. -/
def LastL (s : ByteArray) (j : Bool) (acc : List PcL) : Prop := j = true → ∀ k q, acc = k ++ [q] → q = litP s q.bg q.nd
theorem ScW.below {s : ByteArray} {W1 W W' : World} {i : Nat} {j : Bool} {acc : List PcL} {v : Value} (h : ScW s W1 i j acc v W) (hb : Below W.heap.size W W') : ScW s W1 i j acc v W' :=
  ⟨h.rest, h.ne, h.len, h.cov, h.own.below hb, h.bel.trans (hb.mono h.bel.size)⟩
theorem lit_join {s : ByteArray} {q : PcL} {e : Nat} (h : q = litP s q.bg q.nd) : { q with nd := e, inl := { q.inl with text := s.extract q.bg e } } = litP s q.bg e := by
  rw [h]; rfl
/-- A literal gets longer. -/
theorem ScW.longer {s : ByteArray} {W1 W : World} {i e g cap : Nat} {k : List PcL} {q : PcL} (h : ScW s W1 i true (k ++ [q]) (.slice (some ⟨g, 0, none⟩) (k.length + 1) cap) W) (hi : i < s.size) (hp : pieceA s i = (litP s i e, true)) (he : i < e) (hq : q = litP s q.bg q.nd) (hg : W1.heap.size ≤ g) :
    ScW s W1 e true (k ++ [litP s q.bg e]) (.slice (some ⟨g, 0, none⟩) (k.length + 1) cap) (W.setCells g (k.length * 18) (pcC (litP s q.bg e) none 0 none 0).toList) := by
  obtain ⟨⟨f, h1, h2⟩, h3, h4, h5, h6, h7⟩ := h
  refine ⟨?_, fun _ => by simp, by simp at h4 ⊢; omega, ?_, h6.swap rfl rfl, below_setCells g hg _ _ _ h7⟩
  · have := scanF_step h1 h2 hi hp he _ (by rw [show (true && true) = true from rfl, if_pos rfl, joinP_snoc])
    rwa [lit_join hq] at this
  · have := covP_last s q e k 0 i h5 (by omega)
    rwa [lit_join hq] at this
/-- A whole piece is loaded. -/
theorem wpList_load_row {ops : Array Oper} {rest : List Oper} {op : Oper} {a : Act} {w : World} {Q : Exit → Act → World → Prop} (hgd : op.guard = none) (x : Operand) (ho : op.op = .load 36 x)
    (g : Nat) (hx : a.eval x = .pointer (some ⟨g, 0, none⟩)) (cs : Array Value) (t : TypeId) (hg : w.heap[g]? = some (.cells cs t (0, 0))) (hi : (Tryz.prog.info? 36).map (·.size) = some cs.size)
    (h : wpList Tryz.prog ops Q rest (a.put op.dst (.agg cs)) w) : wpList Tryz.prog ops Q (op :: rest) a w :=
  wpList_plain hgd fun _ hK => by
    unfold Oper.wp execOp
    simp only [ho, hx, Instr.loadAt, Instr.sureAddr, Sem.run_bind, Sem.run_pure, Result.andThen_ok, run_loadVar_row (P := Tryz.prog) w g t 36 cs (0, 0) _ hg Tryz.underlying36 rfl hi]
    exact hK _ _ h
set_option maxRecDepth 100000 in
theorem pc_fill (p : PcL) (A1 : Option Addr) (c1 : Nat) (A2 : Option Addr) (c2 : Nat) : Instr.fill (fun i => some (i * 18, 18)) ((Array.range (1 * 18)).map ((Value.agg zPc).cells[· % (Value.agg zPc).cells.size]!)) [(0, .agg (pcC p A1 c1 A2 c2))] = some (pcC p A1 c1 A2 c2) := by kernel_rfl

/-- A slice of one piece is laid. -/
theorem wpList_pcSlice {ops : Array Oper} {rest : List Oper} {o : Oper} {a : Act} {w : World} {Q : Exit → Act → World → Prop} (hg : o.guard = none) (x : Operand) (ho : o.op = .buildSlice 25 1 #[(0, x)])
    (p : PcL) (A1 : Option Addr) (c1 : Nat) (A2 : Option Addr) (c2 : Nat) (hx : a.eval x = .agg (pcC p A1 c1 A2 c2))
    (h : wpList Tryz.prog ops Q rest (a.put o.dst (.slice (some ⟨w.heap.size, 0, none⟩) 1 1)) (w.alloc (.cells (pcC p A1 c1 A2 c2) 36))) : wpList Tryz.prog ops Q (o :: rest) a w := by
  obtain ⟨i0, hi0, hz0, hz1, hz2⟩ := info_parts piece_info
  refine wpList_buildSlice hg 25 36 1 _ ho _ i0 (.agg zPc) Tryz.underlying25 hi0 hz0 (by rw [hz1]; decide) (by rw [hz1]; decide) ?_ h
  rw [hz1]
  have e : (#[((0 : Nat), x)].map fun (q : Nat × Operand) => (q.1, a.eval q.2)).toList = [(0, a.eval x)] := by simp
  rw [hx] at e
  show Instr.fill _ _ (#[((0 : Nat), x)].map fun (q : Nat × Operand) => (q.1, a.eval q.2)).toList = _
  rw [e]
  exact pc_fill p A1 c1 A2 c2
end Go.Proofs.YtcjkgmfidkgamaaGreatDoor
namespace Go.Pub
theorem sp_code (s : ByteArray) (i : Nat) (h : bt s i = 96) : spec s i = (laterA s (runE s i) (runE s i - i) false).map fun k => { inl := spn 4 (mk (codeT (sub s (runE s i) k))), bg := i, nd := k + (runE s i - i) } := by
  have e := runE_tick h
  unfold spec codeI
  simp only [h]
  rw [show runF s i tick = runE s i - i by omega, show i + (runE s i - i) = runE s i by omega]
  cases laterA s (runE s i) (runE s i - i) false <;> rfl
theorem sp_white (s : ByteArray) (i : Nat) (h : bt s i = 32 ∨ bt s i = 10) : spec s i = if spAt s i < s.size ∧ bt s (spAt s i) = 10 then some { inl := spn 2 ⟨#[]⟩, bg := i, nd := spAt s (spAt s i + 1) } else none := by
  unfold spec
  rcases h with h | h <;> simp only [h] <;> rfl
theorem sp_brack (s : ByteArray) (i : Nat) (h : bt s i = 91) : spec s i = some (match (namI s i).or (citI s i) with | some r => pcI r i | none => { kind := 2, bg := i, nd := i + 1 }) := by
  unfold spec
  simp only [h]
  rfl
theorem sp_else (s : ByteArray) (i : Nat) (h1 : bt s i ≠ 92) (h2 : bt s i ≠ 32) (h3 : bt s i ≠ 10) (h4 : bt s i ≠ 38) (h5 : bt s i ≠ 36) (h6 : bt s i ≠ 96) (h7 : bt s i ≠ 60) (h8 : bt s i ≠ 123) (h9 : bt s i ≠ 91) : spec s i = marksI s i := by
  unfold spec marksI
  rw [if_neg h1, if_neg (by omega), if_neg h4, if_neg h5, if_neg h6, if_neg h7, if_neg h8, if_neg h9, if_neg h9]
end Go.Pub
namespace Go.Proofs.YtcjkgmfidkgamaaGreatDoor
open Go.RowKit Go.Pub
theorem inr_up {w W W' : World} {x : InL} {A1 A2 : Option Addr} (h : Kp w W) (hir : InR W' (Rg W.heap.size W') x A1 A2) : InR W' (Rg (w.heap.size + 1) W') x A1 A2 :=
  InR.keep hir (fun _ _ => rfl) fun g hg => ⟨by have := hg.1; have := h.1.lt; omega, hg.2⟩
set_option maxRecDepth 100000 in
set_option maxHeartbeats 8000000 in
theorem r9_special (s : ByteArray) (i : Nat) (w : World) (hs : s.size ≤ 1000000) (hi : i < s.size) : Calls Tryz.prog 26 #[.string s, .int .i64 i] w (RfPost (spec s i) w) := by
  obtain ⟨R, hR⟩ : ∃ R, R = spec s i := ⟨_, rfl⟩
  rw [← hR]
  have hg := get_bt s i hi
  have K0 : Hid (Kp w (w.alloc (.cells zPc 36))) := Lib.hid (Kp.init w)
  by_cases h92 : bt s i = 92
  · have HC := Lib.hid fun W => r9_escape s i W hs hi
    have HF : Hid (R = (escI s i).map (pcI · i)) := Lib.hid (by rw [hR]; unfold spec; simp only [h92]; rfl)
    rw [h92] at hg
    rw [HF.out]
    clear hR h92 HF 
    generalize (escI s i).map (pcI · i) = O at *
    go_enter Tryz.func26, Tryz.ntmps26
    go_wp2_with fail
    ((with_reducible refine (HC.out _).mono ?_))
    rintro e W1 ⟨b1, A1, c1, A2, c2, rfl, hir⟩
    have K1 := Lib.hid (K0.out.next b1)
    have HI := Lib.hid (inr_up K0.out hir)
    clear b1 hir HC
    go_wp2_with (refine wpList_store_row rfl 36 (.tmp 4) _ rfl _ _ rfl rfl _ _ K1.out.1 pc_size (by rfl) (by simp [pcC, Value.oneCell']) ?_)
    exact rf_ret Tryz.results26 (p := O.getD {}) K1.out rfl HI.out rfl rfl rfl rfl rfl
  by_cases h38 : bt s i = 38
  · have HC := Lib.hid fun W => r9_entity s i W hs hi
    have HF : Hid (R = (entI s i).map (pcI · i)) := Lib.hid (by rw [hR]; unfold spec; simp only [h38]; rfl)
    rw [h38] at hg
    rw [HF.out]
    clear hR h38 HF h92
    generalize (entI s i).map (pcI · i) = O at *
    go_enter Tryz.func26, Tryz.ntmps26
    go_wp2_with fail
    ((with_reducible refine (HC.out _).mono ?_))
    rintro e W1 ⟨b1, A1, c1, A2, c2, rfl, hir⟩
    have K1 := Lib.hid (K0.out.next b1)
    have HI := Lib.hid (inr_up K0.out hir)
    clear b1 hir HC
    go_wp2_with (refine wpList_store_row rfl 36 (.tmp 4) _ rfl _ _ rfl rfl _ _ K1.out.1 pc_size (by rfl) (by simp [pcC, Value.oneCell']) ?_)
    exact rf_ret Tryz.results26 (p := O.getD {}) K1.out rfl HI.out rfl rfl rfl rfl rfl
  by_cases h36 : bt s i = 36
  · have HC := Lib.hid fun W => r9_formula s i W hs hi
    have HF : Hid (R = ((mathI s i).or (dolI s i)).map (pcI · i)) := Lib.hid (by rw [hR]; unfold spec; simp only [h36]; rfl)
    rw [h36] at hg
    rw [HF.out]
    clear hR h36 HF h92 h38
    generalize ((mathI s i).or (dolI s i)).map (pcI · i) = O at *
    go_enter Tryz.func26, Tryz.ntmps26
    go_wp2_with fail
    ((with_reducible refine (HC.out _).mono ?_))
    rintro e W1 ⟨b1, A1, c1, A2, c2, rfl, hir⟩
    have K1 := Lib.hid (K0.out.next b1)
    have HI := Lib.hid (inr_up K0.out hir)
    clear b1 hir HC
    go_wp2_with (refine wpList_store_row rfl 36 (.tmp 4) _ rfl _ _ rfl rfl _ _ K1.out.1 pc_size (by rfl) (by simp [pcC, Value.oneCell']) ?_)
    exact rf_ret Tryz.results26 (p := O.getD {}) K1.out rfl HI.out rfl rfl rfl rfl rfl
  by_cases h60 : bt s i = 60
  · have HC := Lib.hid fun W => r9_auto s i W hs hi
    have HF : Hid (R = (autI s i).map (pcI · i)) := Lib.hid (by rw [hR]; unfold spec; simp only [h60]; rfl)
    rw [h60] at hg
    rw [HF.out]
    clear hR h60 HF h92 h38 h36
    generalize (autI s i).map (pcI · i) = O at *
    go_enter Tryz.func26, Tryz.ntmps26
    go_wp2_with fail
    ((with_reducible refine (HC.out _).mono ?_))
    rintro e W1 ⟨b1, A1, c1, A2, c2, rfl, hir⟩
    have K1 := Lib.hid (K0.out.next b1)
    have HI := Lib.hid (inr_up K0.out hir)
    clear b1 hir HC
    go_wp2_with (refine wpList_store_row rfl 36 (.tmp 4) _ rfl _ _ rfl rfl _ _ K1.out.1 pc_size (by rfl) (by simp [pcC, Value.oneCell']) ?_)
    exact rf_ret Tryz.results26 (p := O.getD {}) K1.out rfl HI.out rfl rfl rfl rfl rfl
  by_cases h123 : bt s i = 123
  · have HC := Lib.hid fun W => r9_use s i W hs hi
    have HF : Hid (R = (useI s i).map (pcI · i)) := Lib.hid (by rw [hR]; unfold spec; simp only [h123]; rfl)
    rw [h123] at hg
    rw [HF.out]
    clear hR h123 HF h92 h38 h36 h60
    generalize (useI s i).map (pcI · i) = O at *
    go_enter Tryz.func26, Tryz.ntmps26
    go_wp2_with fail
    ((with_reducible refine (HC.out _).mono ?_))
    rintro e W1 ⟨b1, A1, c1, A2, c2, rfl, hir⟩
    have K1 := Lib.hid (K0.out.next b1)
    have HI := Lib.hid (inr_up K0.out hir)
    clear b1 hir HC
    go_wp2_with (refine wpList_store_row rfl 36 (.tmp 4) _ rfl _ _ rfl rfl _ _ K1.out.1 pc_size (by rfl) (by simp [pcC, Value.oneCell']) ?_)
    exact rf_ret Tryz.results26 (p := O.getD {}) K1.out rfl HI.out rfl rfl rfl rfl rfl
  by_cases hw : bt s i = 32 ∨ bt s i = 10
  · have hsp := sp_white s i hw
    rw [← hR] at hsp
    have HSp := Lib.hid fun W => r9_sps s i W hs
    obtain ⟨hb1, hb2⟩ := spAt_bd' s i
    have hb2 := hb2 (by omega)
    obtain ⟨n, hn⟩ : ∃ n, n = spAt s i - i := ⟨_, rfl⟩
    have hE : spAt s i = i + n := by omega
    rw [← hn] at HSp
    rw [hE] at hsp
    have hni : i + n ≤ s.size := by omega
    clear hR h92 h38 h36 h60 h123 hn hE hb1 hb2
    by_cases hc : i + n < s.size ∧ bt s (i + n) = 10
    · obtain ⟨hl, h10⟩ := hc
      obtain ⟨hd1, hd2⟩ := spAt_bd' s (i + n + 1)
      have hd2 := hd2 (by omega)
      have hgk := get_bt s (i + n) hl
      rw [h10] at hgk
      have HF : Hid (R = some { inl := spn 2 ⟨#[]⟩, bg := i, nd := spAt s (i + n + 1) }) := Lib.hid (by rw [hsp, if_pos ⟨hl, h10⟩])
      have HSq : Hid (∀ W, Calls Tryz.prog 47 #[.string s, .int .i64 ((i : Int) + (n : Int) + 1)] W fun e w' => e = .returned (.int .i64 (spAt s (i + n + 1) - (i + n + 1) : Nat)) ∧ Below W.heap.size W w') := Lib.hid fun W => by
        have h := r9_sps s (i + n + 1) W hs
        rwa [show (Value.int .i64 ((i + n + 1 : Nat) : Int)) = .int .i64 ((i : Int) + (n : Int) + 1) by congr 1] at h
      obtain ⟨m, hm⟩ : ∃ m, m = spAt s (i + n + 1) - (i + n + 1) := ⟨_, rfl⟩
      rw [← hm] at HSq
      have HSn := Lib.hid fun W => r9_span 2 ⟨#[]⟩ i (spAt s (i + n + 1)) 2 i ((i : Int) + (n : Int) + 1 + (m : Int)) rfl rfl (by omega) W
      have hml : i + n + 1 + m ≤ 1000000 := by omega
      clear hsp h10 hm hd1 hd2
      generalize spAt s (i + n + 1) = e9 at *
      rcases hw with h | h
      all_goals
        rw [h] at hg
        clear h
        go_enter Tryz.func26, Tryz.ntmps26
        go_wp2_with fail
        ((with_reducible refine (HSp.out _).mono ?_))
        rintro e W1 ⟨rfl, b1⟩
        have K1 := Lib.hid (K0.out.next b1)
        clear b1
        go_wp2_with fail
        ((with_reducible refine (HSq.out _).mono ?_))
        rintro e W2 ⟨rfl, b2⟩
        have K2 := Lib.hid (K1.out.next b2)
        clear b2
        go_wp2_with fail
        ((with_reducible refine (HSn.out _).mono ?_))
        rintro e W3 ⟨rfl, b3⟩
        have K3 := Lib.hid (K2.out.next b3)
        clear b3
        go_wp2_with (refine wpList_store_row rfl 36 (.tmp 4) _ rfl _ _ rfl rfl _ _ K3.out.1 pc_size (by rfl) (by simp [pcC, Value.oneCell']) ?_)
        exact rf_yes Tryz.results26 K3.out HF.out rfl rfl rfl rfl rfl rfl
    · have HF : Hid (R = none) := Lib.hid (by rw [hsp, if_neg hc])
      have hcc : ¬ i + n < s.size ∨ (i + n < s.size ∧ bt s (i + n) ≠ 10) := by
        by_cases h : i + n < s.size
        · exact .inr ⟨h, fun e => hc ⟨h, e⟩⟩
        · exact .inl h
      clear hsp hc
      rcases hcc with hl | ⟨hl, h10⟩
      · rcases hw with h | h
        all_goals
          rw [h] at hg
          clear h
          go_enter Tryz.func26, Tryz.ntmps26
          go_wp2_with fail
          ((with_reducible refine (HSp.out _).mono ?_))
          rintro e W1 ⟨rfl, b1⟩
          have K1 := Lib.hid (K0.out.next b1)
          clear b1
          go_wp2_with (refine wpList_store_row rfl 36 (.tmp 4) _ rfl _ _ rfl rfl _ _ K1.out.1 pc_size (by rfl) (by simp [pcC, Value.oneCell']) ?_)
          exact rf_no Tryz.results26 K1.out HF.out rfl rfl rfl rfl
      · have hgk := get_bt s (i + n) hl
        have n10 : ((bt s (i + n) : Int) == 10) = false := beq_eq_false_iff_ne.2 (by omega)
        clear h10
        rcases hw with h | h
        all_goals
          rw [h] at hg
          clear h
          generalize bt s (i + n) = b at *
          go_enter Tryz.func26, Tryz.ntmps26
          go_wp2_with fail
          ((with_reducible refine (HSp.out _).mono ?_))
          rintro e W1 ⟨rfl, b1⟩
          have K1 := Lib.hid (K0.out.next b1)
          clear b1
          go_wp2_with (refine wpList_store_row rfl 36 (.tmp 4) _ rfl _ _ rfl rfl _ _ K1.out.1 pc_size (by rfl) (by simp [pcC, Value.oneCell']) ?_)
          exact rf_no Tryz.results26 K1.out HF.out rfl rfl rfl rfl
  by_cases h96 : bt s i = 96
  · have hcd := sp_code s i h96
    rw [← hR] at hcd
    have HRn := Lib.hid fun W => r9_run s i W hs hi
    obtain ⟨hE1, hE2⟩ := runE_bd s i hi
    obtain ⟨n, hn⟩ : ∃ n, n = runE s i - i := ⟨_, rfl⟩
    have hE : runE s i = i + n := by omega
    rw [← hn] at HRn hcd
    rw [hE] at hcd
    have hni : i + n ≤ s.size := by omega
    have HLt : Hid (∀ W, Calls Tryz.prog 51 #[.string s, .int .i64 ((i : Int) + (n : Int)), .int .i64 n, .bool false] W fun e w' => e = .returned (.int .i64 (endV (laterA s (i + n) n false))) ∧ Below W.heap.size W w') := Lib.hid fun W => by
      have h := r9_later s (i + n) n false W hs hni (by omega)
      rwa [show ((i + n : Nat) : Int) = (i : Int) + (n : Int) by omega] at h
    rw [h96] at hg
    clear hR h92 h38 h36 h60 h123 hw hn hE hE1 hE2 h96
    cases hla : laterA s (i + n) n false with
    | none =>
      have HF : Hid (R = none) := Lib.hid (by rw [hcd, hla]; rfl)
      rw [hla, show endV none = -1 from rfl] at HLt
      clear hcd hla
      go_enter Tryz.func26, Tryz.ntmps26
      go_wp2_with fail
      ((with_reducible refine (HRn.out _).mono ?_))
      rintro e W1 ⟨rfl, b1⟩
      have K1 := Lib.hid (K0.out.next b1)
      clear b1
      go_wp2_with fail
      ((with_reducible refine (HLt.out _).mono ?_))
      rintro e W2 ⟨rfl, b2⟩
      have K2 := Lib.hid (K1.out.next b2)
      clear b2
      go_wp2_with (refine wpList_store_row rfl 36 (.tmp 4) _ rfl _ _ rfl rfl _ _ K2.out.1 pc_size (by rfl) (by simp [pcC, Value.oneCell']) ?_)
      exact rf_no Tryz.results26 K2.out HF.out rfl rfl rfl rfl
    | some k =>
      obtain ⟨hk1, hk2, -⟩ := laterA_spec hla
      have HF : Hid (R = some { inl := spn 4 (mk (codeT (sub s (i + n) k))), bg := i, nd := k + n }) := Lib.hid (by rw [hcd, hla]; rfl)
      have HCT : Hid (∀ W, Calls Tryz.prog 52 #[.string (s.extract (i + n) k)] W fun e w' => e = .returned (.string (mk (codeT (sub s (i + n) k)))) ∧ W = w') := Lib.hid fun W => by
        have h := r9_codeT (s.extract (i + n) k) W (by rw [ByteArray.size_extract]; omega)
        rwa [bytesL_sub] at h
      have HSn := Lib.hid fun W => r9_span 4 (mk (codeT (sub s (i + n) k))) i (k + n) 4 i ((k : Int) + (n : Int)) rfl rfl (by omega) W
      rw [hla, show endV (some k) = (k : Int) from rfl] at HLt
      clear hcd hla
      generalize mk (codeT (sub s (i + n) k)) = T at *
      go_enter Tryz.func26, Tryz.ntmps26
      go_wp2_with fail
      ((with_reducible refine (HRn.out _).mono ?_))
      rintro e W1 ⟨rfl, b1⟩
      have K1 := Lib.hid (K0.out.next b1)
      clear b1
      go_wp2_with fail
      ((with_reducible refine (HLt.out _).mono ?_))
      rintro e W2 ⟨rfl, b2⟩
      have K2 := Lib.hid (K1.out.next b2)
      clear b2
      go_wp2_with fail
      ((with_reducible refine (HCT.out _).mono ?_))
      rintro e w1 ⟨rfl, rfl⟩
      go_wp2_with fail
      ((with_reducible refine (HSn.out _).mono ?_))
      rintro e W3 ⟨rfl, b3⟩
      have K3 := Lib.hid (K2.out.next b3)
      clear b3
      go_wp2_with (refine wpList_store_row rfl 36 (.tmp 4) _ rfl _ _ rfl rfl _ _ K3.out.1 pc_size (by rfl) (by simp [pcC, Value.oneCell']) ?_)
      exact rf_yes Tryz.results26 K3.out HF.out rfl rfl rfl rfl rfl rfl
  have HM := Lib.hid fun W => r9_marks s i W hs hi
  by_cases h91 : bt s i = 91
  · have hbk := sp_brack s i h91
    have hmk : marksI s i = some { kind := 2, bg := i, nd := i + 1 } := by unfold marksI; rw [if_pos h91]
    have HB := Lib.hid fun W => r9_bracket s i W hs hi h91
    rw [← hR] at hbk
    rw [hmk] at HM
    rw [h91] at hg
    clear hR h92 h38 h36 h60 h123 hw h96 hmk h91
    generalize (namI s i).or (citI s i) = O at *
    have HBK := Lib.hid hbk
    clear hbk
    go_enter Tryz.func26, Tryz.ntmps26
    go_wp2_with fail
    ((with_reducible refine (HB.out _).mono ?_))
    rintro e W1 ⟨b1, A1, c1, A2, c2, rfl, hir⟩
    have K1 := Lib.hid (K0.out.next b1)
    have HI := Lib.hid (inr_up K0.out hir)
    clear b1 hir HB
    go_upto_region 26 with (refine wpList_store_row rfl 36 (.tmp 9) _ rfl _ _ rfl rfl _ _ (Blk.new W1 36 _) pc_size (by rfl) (by simp [pcC, Value.oneCell']) ?_)
    generalize hX : World.setRow _ _ _ = X
    have KB : Hid (Blk X W1.heap.size 36 (pcC ((O.map (pcI · i)).getD {}) A1 c1 A2 c2)) := Lib.hid (by rw [← hX]; exact row_blk (Blk.new W1 36 _) _)
    have B1 : Hid (Below W1.heap.size W1 X) := Lib.hid (by rw [← hX]; exact row_below ((Below.refl _ W1).alloc (Nat.le_refl _) _) (Nat.le_refl _) _)
    have K2 := Lib.hid (K1.out.next B1.out)
    have HI2 : Hid (InR X (Rg (w.heap.size + 1) X) ((O.map (pcI · i)).getD {}).inl A1 A2) := Lib.hid (InR.keep HI.out (fun g hg => B1.out.block g hg.2) fun g hg => ⟨hg.1, Nat.lt_of_lt_of_le hg.2 B1.out.size⟩)
    clear hX K1 HI B1
    generalize W1.heap.size = gP at *
    cases O with
    | none =>
      have HF : Hid (R = some { kind := 2, bg := i, nd := i + 1 }) := Lib.hid HBK.out
      clear HBK KB HI2
      rw [show (none : Option (InL × Nat)).isSome = false from rfl]
      go_wp2_with fail
      ((with_reducible refine (HM.out _).mono ?_))
      rintro e W3 ⟨b3, A3, c3, A4, c4, rfl, hir⟩
      have K3 := Lib.hid (K2.out.next b3)
      have HI3 := Lib.hid (inr_up K2.out hir)
      clear b3 hir HM
      go_wp2_with (refine wpList_store_row rfl 36 (.tmp 4) _ rfl _ _ rfl rfl _ _ K3.out.1 pc_size (by rfl) (by simp [pcC, Value.oneCell']) ?_)
      exact rf_ret Tryz.results26 (p := (some { kind := 2, bg := i, nd := i + 1 } : Option PcL).getD {}) K3.out rfl HI3.out (by rw [HF.out]) (by rw [HF.out]; rfl) rfl rfl rfl
    | some r =>
      have HF : Hid (R = some (pcI r i)) := Lib.hid HBK.out
      rw [show (some r).isSome = true from rfl]
      clear HBK HM
      go_wp2_with (first | (refine wpList_load_row rfl (.tmp 9) rfl gP rfl _ _ KB.out pc_size ?_) | (refine wpList_store_row rfl 36 (.tmp 4) _ rfl _ _ rfl rfl _ _ K2.out.1 pc_size (by rfl) (by simp [pcC, Value.oneCell']) ?_))
      exact rf_ret Tryz.results26 (p := pcI r i) K2.out rfl HI2.out (by rw [HF.out]; rfl) (by rw [HF.out]; rfl) rfl rfl rfl
  · have HF : Hid (R = marksI s i) := Lib.hid (by rw [hR]; exact sp_else s i h92 (fun h => hw (.inl h)) (fun h => hw (.inr h)) h38 h36 h96 h60 h123 h91)
    rw [HF.out]
    have n1 : ((bt s i : Int) == 92) = false := beq_eq_false_iff_ne.2 (by omega)
    have n2 : ((bt s i : Int) == 32) = false := beq_eq_false_iff_ne.2 (by omega)
    have n3 : ((bt s i : Int) == 10) = false := beq_eq_false_iff_ne.2 (by omega)
    have n4 : ((bt s i : Int) == 38) = false := beq_eq_false_iff_ne.2 (by omega)
    have n5 : ((bt s i : Int) == 36) = false := beq_eq_false_iff_ne.2 (by omega)
    have n6 : ((bt s i : Int) == 96) = false := beq_eq_false_iff_ne.2 (by omega)
    have n7 : ((bt s i : Int) == 60) = false := beq_eq_false_iff_ne.2 (by omega)
    have n8 : ((bt s i : Int) == 123) = false := beq_eq_false_iff_ne.2 (by omega)
    have n9 : ((bt s i : Int) == 91) = false := beq_eq_false_iff_ne.2 (by omega)
    clear hR h92 h38 h36 h60 h123 hw h96 h91 HF
    generalize marksI s i = O at *
    generalize bt s i = b at *
    go_enter Tryz.func26, Tryz.ntmps26
    go_wp2_with fail
    ((with_reducible refine (HM.out _).mono ?_))
    rintro e W1 ⟨b1, A1, c1, A2, c2, rfl, hir⟩
    have K1 := Lib.hid (K0.out.next b1)
    have HI := Lib.hid (inr_up K0.out hir)
    clear b1 hir HM
    go_wp2_with (refine wpList_store_row rfl 36 (.tmp 4) _ rfl _ _ rfl rfl _ _ K1.out.1 pc_size (by rfl) (by simp [pcC, Value.oneCell']) ?_)
    exact rf_ret Tryz.results26 (p := O.getD {}) K1.out rfl HI.out rfl rfl rfl rfl rfl

end Go.Proofs.YtcjkgmfidkgamaaGreatDoor
namespace Go.Pub
theorem litE_run {s : ByteArray} {i : Nat} (h : bt s i = 32 ∨ bt s i = 96 ∨ bt s i = 126) : litE s i = runE s i := by unfold litE; rw [if_pos h]
theorem litE_dec {s : ByteArray} {i : Nat} (h : ¬ (bt s i = 32 ∨ bt s i = 96 ∨ bt s i = 126)) : litE s i = i + (Utf8.decode s i).2 := by unfold litE; rw [if_neg h]
end Go.Pub
namespace Go.Proofs.YtcjkgmfidkgamaaGreatDoor
open Go.RowKit Go.Pub
set_option maxRecDepth 100000 in
set_option maxHeartbeats 8000000 in
theorem r9_Scan (s : ByteArray) (w : World) (hs : s.size ≤ 1000000) : Calls Tryz.prog 12 #[.string s] w (ScanPost s w) := by
  obtain ⟨i0, hi0, hz0, hz1, hz2⟩ := info_parts piece_info
  have HSP := Lib.hid fun i (hi : i < s.size) W => r9_special s i W hs hi
  have HRN := Lib.hid fun i (hi : i < s.size) W => r9_run s i W hs hi
  have HNX : Hid (∀ (i : Nat), i < s.size → ∀ W, Calls Tryz.prog 16 #[.string s, .int .i64 i] W (PairBelow ((Utf8.decode s i).1 : Int) ((Utf8.decode s i).2 : Int) W)) := Lib.hid fun i hi W => by
    have h := rNext_any s i W (by omega)
    rwa [nextAt_in s i hi] at h
  have HLE := Lib.hid fun i (hi : i < s.size) => litE_bd s i hi
  have HBD := Lib.hid fun (i : Nat) (hi : i < s.size) p (h : spec s i = some p) => spec_bd hi h
  have HZ1 := Lib.hid (ScW.start s w)
  have HZ2 : Hid (LastL s false []) := Lib.hid fun h => by cases h
  go_enter Tryz.func12, Tryz.ntmps12
  go_wp2_with fail
  go_loopw [3, 4, 5] (fun v3 v4 v5 wr => ∃ (i : Nat) (j : Bool) (acc : List PcL), v5 = .int .i64 i ∧ v4 = .bool j ∧ i ≤ s.size ∧ Hid (ScW s w i j acc v3 wr) ∧ Hid (LastL s j acc)) (fun _ _ v5 _ => s.size - (intOf v5).toNat)
  case atStart => exact ⟨0, false, [], rfl, rfl, Nat.zero_le _, HZ1, HZ2⟩
  case round =>
    clear HZ1 HZ2
    obtain ⟨i, j, acc, rfl, rfl, hi, HS, HLL⟩ := hrel
    by_cases hl : i < s.size
    · have HSPi := Lib.hid (HSP.out i hl)
      obtain ⟨S, vs, hS, hr, ho⟩ := HS.out.own
      have hlen := HS.out.len
      obtain ⟨A, c, rfl⟩ := own_slice ho
      have HLi := Lib.hid (HLE.out i hl)
      have HRi := Lib.hid (HRN.out i hl)
      have HNi := Lib.hid (HNX.out i hl)
      have HBi := Lib.hid (HBD.out i hl)
      clear HSP HRN HNX HLE HBD
      obtain ⟨o, hO⟩ : ∃ o, o = spec s i := ⟨_, rfl⟩
      rw [← hO] at HSPi HBi
      have HO := Lib.hid hO
      clear hO
      go_wp2_with fail
      ((with_reducible refine (HSPi.out _).mono ?_))
      rintro e W2 ⟨q2, A1, c1, A2, c2, rfl, hir⟩
      have HPV : Hid (PcV W2 (Rg wr.heap.size W2) (pcC (o.getD {}) A1 c1 A2 c2) (o.getD {})) := Lib.hid ⟨A1, c1, A2, c2, rfl, hir⟩
      have hlt := ho.lt
      have HXS : Hid (∃ (S : Nat → Prop) (vs' : List (Array Value)), (∀ g, S g → w.heap.size ≤ g ∧ g < wr.heap.size ∧ (Value.slice A acc.length c).ownBlock ≠ some g) ∧ RepP wr S vs' acc ∧ vs.flatMap Array.toList = vs'.flatMap Array.toList) := Lib.hid ⟨S, vs, hS, hr, rfl⟩
      have HLT := Lib.hid hlt
      have HOW := Lib.hid ho
      have Q0 := Lib.hid q2
      clear hS hr ho hir q2 hlt HSPi
      go_upto_region 6 with (refine wpList_store_row rfl 36 (.tmp 6) _ rfl _ _ rfl rfl _ _ (Blk.new W2 36 _) pc_size (by rfl) (by simp [pcC, Value.oneCell']) ?_)
      generalize hX : World.setRow _ _ _ = X
      have KB : Hid (Blk X W2.heap.size 36 (pcC (o.getD {}) A1 c1 A2 c2)) := Lib.hid (by rw [← hX]; exact row_blk (Blk.new W2 36 _) _)
      have KS : Hid (X.heap.size = W2.heap.size + 1) := Lib.hid (by rw [← hX, row_size, World.size_alloc])
      have K2 : Hid (Below W2.heap.size W2 X) := Lib.hid (by rw [← hX]; exact row_below ((Below.refl _ W2).alloc (Nat.le_refl _) _) (Nat.le_refl _) _)
      have KG : Hid (wr.heap.size ≤ W2.heap.size) := Lib.hid Q0.out.size
      clear hX
      have Q2 : Hid (Below wr.heap.size wr X) := Lib.hid (Q0.out.trans (K2.out.mono KG.out))
      replace HPV : Hid (PcV X (Rg wr.heap.size X) (pcC (o.getD {}) A1 c1 A2 c2) (o.getD {})) := Lib.hid (HPV.out.keep (fun g hg => K2.out.block g hg.2) fun g hg => ⟨hg.1, Nat.lt_of_lt_of_le hg.2 K2.out.size⟩)
      have ho2 := own_below HOW.out Q2.out
      clear K2 Q0 HOW
      generalize W2.heap.size = gP at *
      clear W2
      have hzX : w.heap.size ≤ X.heap.size := Nat.le_trans HS.out.bel.size Q2.out.size
      cases o with
      | some p =>
        obtain ⟨hb1, hb2, hb3⟩ := HBi.out p rfl
        have HPQ : Hid (pieceA s i = (p, false)) := Lib.hid (piece_of HO.out.symm)
        rw [show (some p).isSome = true from rfl]
        have HPV2 : Hid (PcV X (Rg wr.heap.size X) (pcC p A1 c1 A2 c2) p) := Lib.hid HPV.out
        have KB2 : Hid (Blk X gP 36 (pcC p A1 c1 A2 c2)) := Lib.hid KB.out
        clear HLi HRi HNi HBi HO HLL HPV KB hb1
        go_wp2_with (first | (refine wpList_load_row rfl (.tmp 6) rfl gP rfl _ _ KB2.out pc_size ?_) | (refine wpList_pcSlice rfl (.tmp 22) rfl p A1 c1 A2 c2 rfl ?_) | (at_builtin; refine wpList_append_lies _ rfl _ _ 25 rfl w.heap.size 36 i0 _ 18 248 Tryz.underlying25 hi0 hz0 hz1 hz2 rfl (by decide) _ _ _ rfl (ho2.alloc _) ⟨X.heap.size, 0, none⟩ 1 1 (pcC p A1 c1 A2 c2).toList rfl rfl ?c1 ?c2 (by decide) ?c3 ?c4 ?c5 (X.heap.size + 1) ?c6 ?_))
        case c1 => exact World.news_of_block (t := 36) (fr := (0, 0)) (cs := pcC p A1 c1 A2 c2) (heap_alloc_new X (.cells (pcC p A1 c1 A2 c2) 36))
        case c2 => intro u hu; simp [pcC] at hu; rcases hu with rfl | rfl | rfl | rfl | rfl | rfl | rfl | rfl | rfl | rfl | rfl | rfl | rfl | rfl | rfl | rfl | rfl | rfl <;> rfl
        case c3 => unfold maxLen; omega
        case c4 => omega
        case c5 => simp; omega
        case c6 => simp
        intro g7 cap7 w3 hown3 hgrow hlies hlt3
        have xnd : w3.cell? ⟨gP, 17, none⟩ = some (.int .i64 p.nd) := ((KB2.out.alloc (.cells (pcC p A1 c1 A2 c2) 36)).grown hgrow (fun e => by have := HLT.out _ e.symm; have := KG.out; omega)).cell 17
        have HN := Lib.hid (HS.out.more hl HPQ.out rfl Q2.out HPV2.out HXS.out HLT.out rfl hown3 hgrow hlies)
        have HL2 : Hid (LastL s false (acc ++ [p])) := Lib.hid fun h => by cases h
        clear hown3 hgrow hlies ho2 HPV2 HXS HLT Q2 HS HPQ KB2 KG KS
        go_wp2_with fail
        go_roundw
        case rel => exact ⟨p.nd, false, acc ++ [p], rfl, rfl, hb3, HN, HL2⟩
        case measure => simp [intOf]; omega
      | none =>
        have HPQ : Hid (pieceA s i = (litP s i (litE s i), true)) := Lib.hid (piece_lit HO.out.symm)
        rw [show (none : Option PcL).isSome = false from rfl]
        obtain ⟨hE1, hE2⟩ := HLi.out
        obtain ⟨n, hn⟩ : ∃ n, n = litE s i - i := ⟨_, rfl⟩
        have hE : litE s i = i + n := by omega
        have HRun : Hid ((bt s i = 32 ∨ bt s i = 96 ∨ bt s i = 126) → runE s i - i = n) := Lib.hid fun h => by rw [hn, litE_run h]
        have HDec : Hid (¬ (bt s i = 32 ∨ bt s i = 96 ∨ bt s i = 126) → (Utf8.decode s i).2 = n) := Lib.hid fun h => by rw [hn, litE_dec h]; omega
        rw [hE] at HPQ
        have hn1 : 0 < n := by omega
        have hn2 : i + n ≤ s.size := by omega
        clear HLi HBi HO HPV KB hE hE1 hE2 hn KG KS HXS HLT ho2
        have HSX := Lib.hid (HS.out.below Q2.out)
        clear HS Q2
        have hg := get_bt s i hl
        obtain ⟨q, hq⟩ : ∃ q, q = decide (bt s i = 96 ∨ bt s i = 126 ∨ bt s i = 32) := ⟨_, rfl⟩
        have HQ := Lib.hid hq
        clear hq
        go_upto_region 11 with fail
        go_cut [42] (fun s42 wx => s42 = .bool q ∧ X = wx)
        case first =>
          clear HRun HDec HPQ HSX HLL HRi HNi
          by_cases hb : bt s i = 96 ∨ bt s i = 126 ∨ bt s i = 32
          · have HQ2 : Hid (q = true) := Lib.hid (by rw [HQ.out, decide_eq_true hb])
            clear HQ
            rcases hb with h | h | h
            all_goals
              rw [h] at hg
              clear h
              go_wp2_with fail
              go_meet
              case rel => exact ⟨by rw [HQ2.out], rfl⟩
          · have HQ2 : Hid (q = false) := Lib.hid (by rw [HQ.out, decide_eq_false hb])
            have n1 : ((bt s i : Int) == 96) = false := beq_eq_false_iff_ne.2 (by omega)
            have n2 : ((bt s i : Int) == 126) = false := beq_eq_false_iff_ne.2 (by omega)
            have n3 : ((bt s i : Int) == 32) = false := beq_eq_false_iff_ne.2 (by omega)
            clear HQ hb
            generalize bt s i = b at *
            go_wp2_with fail
            go_meet
            case rel => exact ⟨by rw [HQ2.out], rfl⟩
        case rest =>
        obtain ⟨rfl, rfl⟩ := hcut
        clear hg
        go_upto_if 42 with fail
        go_cut [8] (fun s8 wx => s8 = .int .i64 n ∧ Hid (Below X.heap.size X wx))
        case first =>
          clear HPQ HSX HLL
          cases q
          · have HD2 := Lib.hid (HDec.out (by have h := of_decide_eq_false HQ.out.symm; omega))
            clear HQ HRun HDec HRi
            generalize (Utf8.decode s i).1 = cc at *
            generalize (Utf8.decode s i).2 = nn at *
            obtain rfl := HD2.out
            clear HD2
            go_wp2_with fail
            ((with_reducible refine (HNi.out _).mono ?_))
            rintro e W3 ⟨rfl, b3⟩
            have B3 := Lib.hid b3
            clear b3
            go_wp2_with fail
            go_meet
            case rel => exact ⟨rfl, B3⟩
          · have HD2 := Lib.hid (HRun.out (by have h := of_decide_eq_true HQ.out.symm; omega))
            clear HQ HRun HDec HNi
            generalize runE s i - i = nn at *
            obtain rfl := HD2.out
            clear HD2
            go_wp2_with fail
            ((with_reducible refine (HRi.out _).mono ?_))
            rintro e W3 ⟨rfl, b3⟩
            have B3 := Lib.hid b3
            clear b3
            go_wp2_with fail
            go_meet
            case rel => exact ⟨rfl, B3⟩
        case rest =>
        obtain ⟨rfl, B3⟩ := hcut
        rename World => Y
        have HSY := Lib.hid (HSX.out.below B3.out)
        clear HSX B3 HQ HRun HDec HRi HNi hzX
        have hsl : i ≤ i + n := by omega
        cases j
        · have HTx := Lib.hid fun W => r9_text (s.extract i (i + n)) i (i + n) i ((i : Int) + (n : Int)) rfl (by omega) W
          obtain ⟨S, vs, hS, hr, ho⟩ := HSY.out.own
          have hlt := ho.lt
          have HXS : Hid (∃ (S : Nat → Prop) (vs' : List (Array Value)), (∀ g, S g → w.heap.size ≤ g ∧ g < Y.heap.size ∧ (Value.slice A acc.length c).ownBlock ≠ some g) ∧ RepP Y S vs' acc ∧ vs.flatMap Array.toList = vs'.flatMap Array.toList) := Lib.hid ⟨S, vs, hS, hr, rfl⟩
          have HLT := Lib.hid hlt
          have HOW := Lib.hid ho
          clear hS hr ho hlt HLL
          go_wp2_with fail
          ((with_reducible refine (HTx.out _).mono ?_))
          rintro e W4 ⟨rfl, b4⟩
          have ho4 := own_below HOW.out b4
          have Q4 := Lib.hid b4
          have hz4 := b4.size
          have hzY : w.heap.size ≤ Y.heap.size := HSY.out.bel.size
          have HPV : Hid (PcV W4 (Rg Y.heap.size W4) (pcC (litP s i (i + n)) none 0 none 0) (litP s i (i + n))) := Lib.hid ⟨none, 0, none, 0, rfl, InR.plain _ _ _ _ _ rfl rfl⟩
          rw [show ({ inl := spn 1 (s.extract i (i + n)), bg := i, nd := i + n } : PcL) = litP s i (i + n) from rfl]
          have HL2 : Hid (LastL s true (acc ++ [litP s i (i + n)])) := Lib.hid fun _ k q e => by
            obtain ⟨-, e2⟩ := List.append_inj' e rfl
            injection e2 with e2
            rw [← e2]; rfl
          have HND : Hid ((litP s i (i + n)).nd = i + n) := Lib.hid rfl
          clear b4 HOW HTx
          generalize litP s i (i + n) = lp at *
          go_wp2_with (first | (refine wpList_pcSlice rfl (.tmp 87) rfl lp none 0 none 0 rfl ?_) | (at_builtin; refine wpList_append_lies _ rfl _ _ 25 rfl w.heap.size 36 i0 _ 18 248 Tryz.underlying25 hi0 hz0 hz1 hz2 rfl (by decide) _ _ _ rfl (ho4.alloc _) ⟨W4.heap.size, 0, none⟩ 1 1 (pcC (lp) none 0 none 0).toList rfl rfl ?d1 ?d2 (by decide) ?d3 ?d4 ?d5 (W4.heap.size + 1) ?d6 ?_))
          case d1 => exact World.news_of_block (t := 36) (fr := (0, 0)) (cs := pcC (lp) none 0 none 0) (heap_alloc_new W4 (.cells (pcC (lp) none 0 none 0) 36))
          case d2 => intro u hu; simp [pcC] at hu; rcases hu with rfl | rfl | rfl | rfl | rfl | rfl | rfl | rfl | rfl | rfl | rfl | rfl | rfl | rfl | rfl | rfl | rfl | rfl <;> rfl
          case d3 => unfold maxLen; omega
          case d4 => omega
          case d5 => simp; omega
          case d6 => simp
          intro g7 cap7 w3 hown3 hgrow hlies hlt3
          have HN := Lib.hid (HSY.out.more hl HPQ.out rfl Q4.out HPV.out HXS.out HLT.out rfl hown3 hgrow hlies)
          rw [HND.out] at HN
          clear hown3 hgrow hlies ho4 HPV HXS HLT Q4 HSY HPQ
          go_wp2_with fail
          go_roundw
          case rel => exact ⟨i + n, true, acc ++ [lp], by go_num, rfl, hn2, HN, HL2⟩
          case measure => simp [intOf]; omega
        · obtain ⟨k, q, rfl⟩ := snoc_of acc (HSY.out.ne rfl)
          have hq := HLL.out rfl k q rfl
          obtain ⟨hq1, hq2⟩ := covP_bg q k 0 i HSY.out.cov
          have HQL := Lib.hid hq
          obtain ⟨gr, cap, he, hgr1, hgr2⟩ := HSY.out.own.form
          rw [he] at HSY ⊢
          have HTx := Lib.hid fun W => r9_text (s.extract q.bg (i + n)) q.bg (i + n) q.bg ((i : Int) + (n : Int)) rfl (by omega) W
          rw [List.length_append, List.length_singleton] at hlen
          have HGR := Lib.hid hgr1
          clear he HLL hq hgr1
          obtain ⟨x16, -⟩ := HSY.out.own.last
          have hqi : q.bg ≤ i + n := by omega
          have hkA : 0 ≤ k.length ∧ k.length < k.length + 1 := by omega
          go_wp2_with fail
          ((with_reducible refine (HTx.out _).mono ?_))
          rintro e W4 ⟨rfl, b4⟩
          have HS4 := Lib.hid (HSY.out.below b4)
          have HTH := Lib.hid HS4.out.own.there
          have HN := Lib.hid (HS4.out.longer hl HPQ.out (by omega) HQL.out HGR.out)
          have HL2 : Hid (LastL s true (k ++ [litP s q.bg (i + n)])) := Lib.hid fun _ k' q' e => by
            obtain ⟨-, e2⟩ := List.append_inj' e rfl
            injection e2 with e2
            rw [← e2]; rfl
          rw [show ({ inl := spn 1 (s.extract q.bg (i + n)), bg := q.bg, nd := i + n } : PcL) = litP s q.bg (i + n) from rfl]
          clear b4 HTx HSY HS4 x16
          generalize litP s q.bg (i + n) = lp at *
          go_wp2_with (refine wpList_store_mid rfl 36 (.tmp 75) (.tmp 74) rfl gr (k.length * 18) (pcC lp none 0 none 0) ?e1 ?e2 ?e3 ?e4 ?e5 ?_)
          case e1 => rfl
          case e2 => rfl
          case e3 =>
            rw [show (pcC lp none 0 none 0).size = 18 from rfl]
            exact HTH.out
          case e4 => exact pc_size
          case e5 => simp [pcC, Value.oneCell']
          go_roundw
          case rel => exact ⟨i + n, true, k ++ [lp], by go_num, rfl, hn2, HN, HL2⟩
          case measure => simp [intOf]; omega
    · obtain ⟨⟨f, h1, h2⟩, h3, h4, h5, h6, h7⟩ := HS.out
      have HE : Hid (PcOwn wr w.heap.size _ (scanP s)) := Lib.hid (by rw [← h1, scanF_end (by omega)]; exact h6)
      have HB := Lib.hid h7
      clear h1 h2 h3 h4 h5 h6 h7 HS HLL HSP HRN HNX HLE HBD
      go_wp2_with fail
      go_ret
      exact ⟨HB.out, _, rfl, HE.out⟩

end Go.Proofs.YtcjkgmfidkgamaaGreatDoor
