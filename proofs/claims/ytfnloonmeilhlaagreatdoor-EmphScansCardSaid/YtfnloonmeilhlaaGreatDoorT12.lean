/-
  Texts of the proof, put together (what this law reaches): EmK, EmL.
-/
import Derived.Test.YtfnloonmeilhlaaGreatDoorT11
import Derived.Deep.CutRange
import Derived.WalkMore
set_option linter.unusedVariables false
set_option linter.unusedSimpArgs false
namespace Go.Pub
theorem take_rev {l : List Nat} {j : Nat} (h : j < l.length) : (l.take (j + 1)).reverse = l[j] :: (l.take j).reverse := by
  rw [List.take_succ_eq_append_getElem h, List.reverse_append]; rfl
theorem sk_ways (z1 z2 z3 z4 o : Bool) (hs : ¬ ((z1 || o) && !z2 && (z3 && !z4)) = true) : (z1 = true ∧ z2 = true) ∨ (z1 = true ∧ z2 = false ∧ z3 = false) ∨ (z1 = true ∧ z2 = false ∧ z3 = true ∧ (!z4) = false) ∨
    (z1 = false ∧ o = false) ∨ (z1 = false ∧ o = true ∧ z2 = true) ∨ (z1 = false ∧ o = true ∧ z2 = false ∧ z3 = false) ∨ (z1 = false ∧ o = true ∧ z2 = false ∧ z3 = true ∧ (!z4) = false) := by
  cases z1 <;> cases z2 <;> cases z3 <;> cases z4 <;> cases o <;> simp_all
theorem sk_ways2 (z1 z2 z3 z4 o : Bool) (hs : ((z1 || o) && !z2 && (z3 && !z4)) = true) : (z1 = true ∧ z2 = false ∧ z3 = true ∧ (!z4) = true) ∨ (z1 = false ∧ o = true ∧ z2 = false ∧ z3 = true ∧ (!z4) = true) := by
  cases z1 <;> cases z2 <;> cases z3 <;> cases z4 <;> cases o <;> simp_all
theorem openerF_sk {c : PcT} {ops : Nat → List Nat} {pv k : Nat} (hs : skipK c k = true) : openerF c ops pv (k + 1) = openerF c ops pv k := by
  rw [openerF, if_pos hs]
theorem openerF_at {c : PcT} {ops : Nat → List Nat} {pv k R : Nat} (hs : skipK c k = false) (h : nearL pv (openerF c ops pv k) (ops (charNum c.ch * 6 + k)).reverse = R) : openerF c ops pv (k + 1) = R := by
  rw [openerF, if_neg (by rw [hs]; decide)]; exact h
end Go.Pub
namespace Go.Proofs.YtfnloonmeilhlaaGreatDoor
open Go.RowKit Go.Pub
theorem own_form {w : World} {base n s : Nat} {e : TypeId} {v : Value} {xs : List Value} (h : w.ownsRow base e s v n xs) : ∃ A c, v = .slice A n c ∧ n ≤ maxLen ∧ (0 < n → ∃ g, A = some ⟨g, 0, none⟩ ∧ g < w.heap.size ∧ ∀ j u, xs[j]? = some u → w.cell? ⟨g, j, none⟩ = some u) := by
  rcases Nat.eq_zero_or_pos n with h0 | h0
  · subst h0
    rcases h.2 with ⟨e, _⟩ | ⟨g', cap', cur, e, _⟩
    · exact ⟨_, _, e, Nat.zero_le _, fun h => absurd h (by omega)⟩
    · exact ⟨_, _, e, Nat.zero_le _, fun h => absurd h (by omega)⟩
  · obtain ⟨g, cap, e, h1, h2⟩ := h.form h0
    refine ⟨_, _, e, ?_, fun _ => ⟨g, rfl, h2, fun j u hj => ?_⟩⟩
    · rcases h.2 with ⟨_, h0⟩ | ⟨g', cap', cur, _, _, _, h1, h2, _⟩
      · omega
      · exact Nat.le_trans h1 h2
    subst e
    rw [h.cellAt j (by have := (List.getElem?_eq_some_iff.1 hj).1; have := h.1; omega)]
    exact hj
/-- A whole struct is loaded first. -/
theorem tkm {P : Program} {ops : Array Oper} {Q : Exit → Act → World → Prop} {S : World → Prop} {fuel : Nat} {listed : Array Bool} {a : Act} {w : World} (i : Nat) (ty : TypeId) (x : Operand) (b o : Nat) (cs : List Value) (d : TypeDesc) {oi : Oper} (hi : ops[i]? = some oi) (hS : S w)
    (ho : oi.op = .load ty x) (hr : ∀ w, S w → w.rangeAt b o cs) (hu : P.underlying ty = some d) (hd : d.isRow = true) (hz : (P.info? ty).map (·.size) = some cs.length)
    (h : wpAnyH P .any ops Q S fuel (listed.setIfInBounds i true) (a.put oi.dst (.agg cs.toArray)) w)
    (hs : Region.noSelect ops = true := by kernel_rfl) (hf : Region.free .any ops listed i = true := by kernel_rfl) (hrd : (Region.ready .any ops listed).contains i = true := by kernel_rfl)
    (hx : a.eval x = .pointer (some ⟨b, o, none⟩) := by kernel_rfl) (hw : Region.wanted oi (yielded ops a.tmps) = true := by kernel_rfl) (hQ : ∀ c a w, Q (.panic c) (a.put oi.dst (.agg cs.toArray)) w → Q (.panic c) a w := by exact fun _ _ _ h => h) : wpAnyH P .any ops Q S (fuel + 1) listed a w :=
  wpAnyH_take hi hs hf hrd hQ (yieldsIf_load_mid hw ty x ho b o hx cs d hr hu hd hz) hS h
theorem step_store_row' {ops : Array Oper} {o : Oper} {a : Act} {w : World} {K : Act → World → Prop} {Q : Exit → Act → World → Prop} {E : Prop} (hgd : o.guard = none) (ty : TypeId) (x y : Operand) (ho : o.op = .store ty x y)
    (g : Nat) (cells : Array Value) (hx : a.eval x = .pointer (some ⟨g, 0, none⟩)) (hy : a.eval y = .agg cells)
    (t : TypeId) (old : Array Value) (hg : w.heap[g]? = some (.cells old t (0, 0))) (hi : (Tryz.prog.info? ty).map (·.size) = some cells.size)
    (hold : old.size = cells.size) (h1 : cells.all (·.oneCell') = true)
    (h : K (a.put o.dst undef) (w.setRow g cells)) : if Region.wanted o (yielded ops a.tmps) = true then Oper.wp Tryz.prog o a w K Q else E := by
  have hw : Region.wanted o (yielded ops a.tmps) = true := by simp [Region.wanted, hgd]
  rw [if_pos hw]
  exact wp_store_row ty x y ho g cells hx hy t old hg hi hold h1 h
set_option maxRecDepth 100000 in
set_option maxHeartbeats 4000000 in
theorem e_opener {base p g n cap : Nat} {L vP : Value} {vO : Nat → Value} {S : Nat → Prop} {vs : List (Array Value)} {st : EmS} {ps : List PcT} (w : World) (h : EmR w base p L (.slice (some ⟨g, 0, none⟩) n cap) vO vP S vs st) (hL : PcsR w S L ps) (hbase : base ≤ w.heap.size)
    (c : Nat) (hc : c < st.xs.length) (hp : pX st.xs c < ps.length) (hn1 : 1 ≤ (pcX ps (pX st.xs c)).n) (hn2 : (pcX ps (pX st.xs c)).n ≤ 262144) (hnl0 : ∀ k x, x ∈ st.ops k → x < st.xs.length) (h0l : st.xs.length ≤ 1000000000) :
    Calls Tryz.prog 42 #[.pointer (some ⟨p, 0, none⟩), .int .i64 c] w fun e w' => e = .returned (.tuple #[.int .i64 (openA (pcX ps (pX st.xs c)) st.ops (bf st.xs c) : Nat), .bool (decide (0 < openA (pcX ps (pX st.xs c)) st.ops (bf st.xs c)))]) ∧ Below w.heap.size w w' := by
  have hn := own_len h.els
  subst hn
  have hnl : ∀ k, openerF (pcX ps (pX st.xs c)) st.ops (bf st.xs c) k < st.xs.length := fun k => by
    rcases openerF_spec (pcX ps (pX st.xs c)) st.ops (bf st.xs c) k with h | ⟨j, -, -, h, -⟩
    · omega
    · exact hnl0 _ _ h
  obtain ⟨b, off, cl, rfl, hSb, hpc⟩ := hL.opn (by omega)
  obtain ⟨x0, x1, x2, x3, x4, x5, x6, x7, x8, x9, hr, hrg, h1⟩ := hpc _ hp
  have hbl := (h.fro b hSb).1
  have hgl := (h.els.lt g rfl).2
  obtain ⟨cp, -, cb, -⟩ := h.at_ c hc
  have c0 : w.cell? ⟨p, 0, none⟩ = some (.slice (some ⟨b, off, none⟩) ps.length cl) := h.cel.c0
  have c1 : w.cell? ⟨p, 1, none⟩ = some (.slice (some ⟨g, 0, none⟩) st.xs.length cap) := h.cel.c1
  have hcn : (c : Int) < (st.xs.length : Int) := by omega
  have hqn : (pX st.xs c : Int) < (ps.length : Int) := by omega
  have cp : w.cell? ⟨g, c * 15 + 11, none⟩ = some (.int .i64 (pX st.xs c : Nat)) := cp
  have HA : Hid (openA (pcX ps (pX st.xs c)) st.ops (bf st.xs c) = openerF (pcX ps (pX st.xs c)) st.ops (bf st.xs c) 6) := Lib.hid rfl
  generalize hP : pcX ps (pX st.xs c) = P at *
  generalize hq : pX st.xs c = q at *
  generalize hbf : bf st.xs c = pv at *
  obtain ⟨kind, inl, ch, n, o, cc, im, bg, nd⟩ := P
  dsimp only at hrg h1 hn1 hn2
  obtain ⟨m, rfl⟩ : ∃ m : Nat, n = m := ⟨n.toNat, by omega⟩
  have HPV := Lib.hid hbf
  have HN : Hid (∀ k, openerF ⟨kind, inl, ch, (m : Int), o, cc, im, bg, nd⟩ st.ops pv k < st.xs.length) := Lib.hid fun k => hnl k
  have hq0 : (0 : Int) ≤ (q : Int) := by omega
  have HH := Lib.hid h
  have HL := Lib.hid hL
  have HR := Lib.hid hrg
  have H1 := Lib.hid h1
  have HC := Lib.hid fun W => e_char ch W
  clear h hL hrg h1 hr hpc hP hq hbf
  go_enter Tryz.func42, Tryz.ntmps42
  go_wp2_with fail
  go_step3
  go_wp2_with fail
  have K0 := Lib.hid fun (W' : World) (hb : Below w.heap.size w W') => (hb.cell (p := ⟨p, 0, none⟩) HH.out.cel.lt).trans c0
  have K1 := Lib.hid fun (W' : World) (hb : Below w.heap.size w W') => (hb.cell (p := ⟨p, 1, none⟩) HH.out.cel.lt).trans c1
  have K2 := Lib.hid fun (W' : World) (hb : Below w.heap.size w W') => (hb.cell (p := ⟨g, c * 15 + 11, none⟩) hgl).trans cp
  have KR := Lib.hid fun (W' : World) (hb : Below w.heap.size w W') => (show W'.rangeAt b (off + q * 18) [.int .i64 kind, x0, x1, x2, x3, x4, x5, x6, x7, x8, x9, .string ch, .int .i64 m, .bool o, .bool cc, .bool im, .int .i64 bg, .int .i64 nd] from fun j v hj => (hb.cell (p := ⟨b, off + q * 18 + j, none⟩) hbl).trans (HR.out j v hj))
  clear c0 c1 cp cb
  refine wp_region_held_drew (S := fun W' => Below w.heap.size w W') (by kernel_rfl) (Below.refl _ w).drew (fun hHeld => ?_)
  refine tk 0 (.pointer (some ⟨p, 0, none⟩)) rfl hHeld (fun W' hSw => ?_) ?_
  · go_simp
  refine tk 1 (.pointer (some ⟨p, 0, none⟩)) rfl hHeld (fun W' hSw => ?_) ?_
  · go_simp
  refine tk 2 (.pointer (some ⟨p, 0, none⟩)) rfl hHeld (fun W' hSw => ?_) ?_
  · go_simp
  refine tk 3 (.slice (some ⟨b, off, none⟩) ps.length cl) rfl hHeld (fun W' hSw => ?_) ?_
  · have := K0.out W' hSw
    go_simp
  refine tk 4 (.pointer (some ⟨p, 0, none⟩)) rfl hHeld (fun W' hSw => ?_) ?_
  · go_simp
  refine tk 5 (.pointer (some ⟨p, 0, none⟩)) rfl hHeld (fun W' hSw => ?_) ?_
  · go_simp
  refine tk 6 (.pointer (some ⟨p, 1, none⟩)) rfl hHeld (fun W' hSw => ?_) ?_
  · go_simp
  refine tk 7 (.slice (some ⟨g, 0, none⟩) st.xs.length cap) rfl hHeld (fun W' hSw => ?_) ?_
  · have := K1.out W' hSw
    go_simp
  refine tk 8 (.int .i64 c) rfl hHeld (fun W' hSw => ?_) ?_
  · go_simp
  refine tk 9 (.pointer (some ⟨g, c * 15, none⟩)) rfl hHeld (fun W' hSw => ?_) ?_
  · go_simp
  refine tk 10 (.pointer (some ⟨g, c * 15 + 11, none⟩)) rfl hHeld (fun W' hSw => ?_) ?_
  · go_simp
  refine tk 11 (.int .i64 q) rfl hHeld (fun W' hSw => ?_) ?_
  · have := K2.out W' hSw
    go_simp
  refine tk 12 (.pointer (some ⟨b, off + q * 18, none⟩)) rfl hHeld (fun W' hSw => ?_) ?_
  · go_simp
  refine tkm 13 34 (.tmp 25) b (off + q * 18) [.int .i64 kind, x0, x1, x2, x3, x4, x5, x6, x7, x8, x9, .string ch, .int .i64 m, .bool o, .bool cc, .bool im, .int .i64 bg, .int .i64 nd] _ rfl hHeld rfl KR.out Tryz.underlying34 rfl pcE_size ?_
  refine rd1 14 rfl (fun K hK => ?_)
  go_simp
  have B1 : Below w.heap.size w (w.drew.alloc (.cells #[.int .i64 0, .int .i64 0, .string ⟨#[]⟩, .string ⟨#[]⟩, .string ⟨#[]⟩, .string ⟨#[]⟩, .slice none 0 0, .slice none 0 0, .slice none 0 0, .slice none 0 0, .slice none 0 0, .string ⟨#[]⟩, .int .i64 0, .bool false, .bool false, .bool false, .int .i64 0, .int .i64 0] 34)) := (Below.refl _ w).drew.alloc (Nat.le_refl _) _
  refine hK.out _ _ B1 (fun hHeld => ?_)
  clear hK K
  refine rd1 15 rfl (fun K hK => ?_)
  refine step_store_row' rfl 34 (.tmp 6) (.tmp 26) rfl w.heap.size #[.int .i64 kind, x0, x1, x2, x3, x4, x5, x6, x7, x8, x9, .string ch, .int .i64 m, .bool o, .bool cc, .bool im, .int .i64 bg, .int .i64 nd] (by kernel_rfl) (by kernel_rfl) 34 _ (Blk.new w.drew _ _) pcE_size (by rfl) (by simpa using H1.out) ?_
  have HS : (w.alloc (.cells #[.int .i64 0, .int .i64 0, .string ⟨#[]⟩, .string ⟨#[]⟩, .string ⟨#[]⟩, .string ⟨#[]⟩, .slice none 0 0, .slice none 0 0, .slice none 0 0, .slice none 0 0, .slice none 0 0, .string ⟨#[]⟩, .int .i64 0, .bool false, .bool false, .bool false, .int .i64 0, .int .i64 0] 34)).drew.setRow w.heap.size #[.int .i64 kind, x0, x1, x2, x3, x4, x5, x6, x7, x8, x9, .string ch, .int .i64 m, .bool o, .bool cc, .bool im, .int .i64 bg, .int .i64 nd] = (w.alloc (.cells #[.int .i64 kind, x0, x1, x2, x3, x4, x5, x6, x7, x8, x9, .string ch, .int .i64 m, .bool o, .bool cc, .bool im, .int .i64 bg, .int .i64 nd] 34)).drew := World.setRow_alloc_new w.drew _ _ _
  rw [HS]
  clear HS
  have B2 : Below w.heap.size w (w.alloc (.cells #[.int .i64 kind, x0, x1, x2, x3, x4, x5, x6, x7, x8, x9, .string ch, .int .i64 m, .bool o, .bool cc, .bool im, .int .i64 bg, .int .i64 nd] 34)).drew := ((Below.refl _ w).alloc (Nat.le_refl _) _).drew
  refine hK.out _ _ B2 (fun hHeld => ?_)
  clear hK K B1
  refine wpAnyH_done (by kernel_rfl) ?_ _
  have X1 : Blk (w.alloc (.cells #[.int .i64 kind, x0, x1, x2, x3, x4, x5, x6, x7, x8, x9, .string ch, .int .i64 m, .bool o, .bool cc, .bool im, .int .i64 bg, .int .i64 nd] 34)).drew w.heap.size 34 #[.int .i64 kind, x0, x1, x2, x3, x4, x5, x6, x7, x8, x9, .string ch, .int .i64 m, .bool o, .bool cc, .bool im, .int .i64 bg, .int .i64 nd] := Blk.new w _ _
  generalize (w.alloc (.cells #[.int .i64 kind, x0, x1, x2, x3, x4, x5, x6, x7, x8, x9, .string ch, .int .i64 m, .bool o, .bool cc, .bool im, .int .i64 bg, .int .i64 nd] 34)).drew = W1 at *
  go_wp2_with fail
  go_step3
  go_wp2_with fail
  have hB1 := Lib.hid B2
  have HWB := Lib.hid fun (wr : World) (hb : Below W1.heap.size W1 wr) => X1.below hb X1.lt
  have HBW := Lib.hid fun (wr : World) (hb : Below W1.heap.size W1 wr) => (B2.trans (hb.mono B2.size))
  have hWs := B2.size
  clear X1 B2 hHeld K0 K1 K2 KR
  go_loopw [7, 27] (fun v7 v27 wr => ∃ k : Nat, k ≤ 6 ∧ v27 = .int .i64 k ∧ v7 = .int .i64 (openerF ⟨kind, inl, ch, (m : Int), o, cc, im, bg, nd⟩ st.ops pv k : Nat) ∧ Hid (Below W1.heap.size W1 wr)) (fun _ v27 _ => 6 - (intOf v27).toNat)
  case atStart => exact ⟨0, by omega, rfl, rfl, Lib.hid (Below.refl _ _)⟩
  case round =>
    obtain ⟨k, hk6, rfl, rfl, HB⟩ := hrel
    rename World => wo
    have X3 := HWB.out _ HB.out
    have hb3 := HBW.out _ HB.out
    by_cases hk : k < 6
    · have hki : (k : Int) < 6 := by omega
      have hk0 : (0 : Int) ≤ (k : Int) := by omega
      have r2 : wo.cell? ⟨w.heap.size, 11, none⟩ = some (.string ch) := X3.cell 11
      have r3 : wo.cell? ⟨w.heap.size, 12, none⟩ = some (.int .i64 m) := X3.cell 12
      have r4 : wo.cell? ⟨w.heap.size, 13, none⟩ = some (.bool o) := X3.cell 13
      obtain ⟨a, ha⟩ : ∃ a, a = k / 2 := ⟨_, rfl⟩
      obtain ⟨bb, hbb⟩ : ∃ bb, bb = k % 2 := ⟨_, rfl⟩
      obtain ⟨md, hmd⟩ : ∃ md, md = (a + m) % 3 := ⟨_, rfl⟩
      have e1 : (k : Int) / 2 = (a : Int) := by omega
      have e2 : (k : Int) % 2 = (bb : Int) := by omega
      have e3 : ((a : Int) + (m : Int)) % 3 = (md : Int) := by omega
      have ha3 : (a : Int) < 3 := by omega
      have ha0 : (0 : Int) ≤ (a : Int) := by omega
      have hb2 : (bb : Int) < 2 := by omega
      have hb0 : (0 : Int) ≤ (bb : Int) := by omega
      have hsk : skipK ⟨kind, inl, ch, (m : Int), o, cc, im, bg, nd⟩ k = ((decide (bb = 1) || o) && !decide (ch.toList = [126]) && (decide (md = 0) && !decide (a = 0))) := by
        unfold skipK; rw [hmd, ha, hbb]; simp only [Int.toNat_natCast]
      have hjx : charNum ch * 6 + k < 18 := by have := charNum_lt ch; omega
      have hof : 2 + (charNum ch * 6 + k) = 2 + charNum ch * 6 + a * 2 + bb := by omega
      have hem := HH.out.below hb3
      have rO := hem.cel.cO _ hjx
      rw [hof] at rO
      obtain ⟨A, ca, hv, hlm, hA⟩ := own_form (hem.ops _ hjx)
      unfold maxLen at hlm
      rw [hv] at rO
      have HCK : Hid (∀ wr', Below wo.heap.size wo wr' → wr'.cell? ⟨g, c * 15 + 13, none⟩ = some (.int .i64 (pv : Nat)) ∧ wr'.cell? ⟨p, 1, none⟩ = some (.slice (some ⟨g, 0, none⟩) st.xs.length cap)) := Lib.hid fun wr' hb' => by
        have h2 := hem.below hb'
        exact ⟨by rw [← HPV.out]; exact (h2.at_ c hc).2.2.1, h2.cel.c1⟩
      have HS := Lib.hid hsk
      have HA2 := Lib.hid hA
      have HSTEP := Lib.hid fun (R : Nat) => openerF_at (c := ⟨kind, inl, ch, (m : Int), o, cc, im, bg, nd⟩) (ops := st.ops) (pv := pv) (k := k) (R := R)
      have HSK := Lib.hid (openerF_sk (c := ⟨kind, inl, ch, (m : Int), o, cc, im, bg, nd⟩) (ops := st.ops) (pv := pv) (k := k))
      have hNl := HN.out k
      obtain ⟨hc3, hc0⟩ : (charNum ch : Int) < 3 ∧ (0 : Int) ≤ (charNum ch : Int) := by have := charNum_lt ch; omega
      have HB2 := Lib.hid hb3
      clear hem hv hA hsk hof hmd ha hbb X3 hb3
      generalize hlo : st.ops (charNum ch * 6 + k) = lo at *
      clear hlo hjx
      generalize charNum ch = cq at *
      generalize openerF ⟨kind, inl, ch, (m : Int), o, cc, im, bg, nd⟩ st.ops pv k = nr at *
      by_cases hs : skipK ⟨kind, inl, ch, (m : Int), o, cc, im, bg, nd⟩ k = true
      · have HN2 : (((bb : Int) == 1) = true ∧ (ch.toList == [126]) = false ∧ ((md : Int) == 0) = true ∧ ((a : Int) != 0) = true) ∨ (((bb : Int) == 1) = false ∧ o = true ∧ (ch.toList == [126]) = false ∧ ((md : Int) == 0) = true ∧ ((a : Int) != 0) = true) := by
          have hs2 := hs
          rw [HS.out] at hs2
          have q1 : ((bb : Int) == 1) = decide (bb = 1) := by by_cases h : bb = 1 <;> simp [h]; omega
          have q2 : (ch.toList == [126]) = decide (ch.toList = [126]) := by by_cases h : ch.toList = [126] <;> simp [h]
          have q3 : ((md : Int) == 0) = decide (md = 0) := by by_cases h : md = 0 <;> simp [h]
          have q4 : ((a : Int) != 0) = !decide (a = 0) := by by_cases h : a = 0 <;> simp [h]
          rw [q1, q2, q3, q4]
          generalize decide (bb = 1) = z1 at *
          generalize decide (ch.toList = [126]) = z2 at *
          generalize decide (md = 0) = z3 at *
          generalize decide (a = 0) = z4 at *
          exact sk_ways2 z1 z2 z3 z4 o hs2
        rcases HN2 with ⟨g1, g2, g3, g4⟩ | ⟨g1, rfl, g3, g4, g5⟩
        all_goals
          go_wp2_with fail
          go_roundw
          case rel => exact ⟨k + 1, by omega, by go_num, by rw [HSK.out hs], HB⟩
          case measure => simp [intOf]; omega
      · have HN2 : (((bb : Int) == 1) = true ∧ (ch.toList == [126]) = true) ∨ (((bb : Int) == 1) = true ∧ (ch.toList == [126]) = false ∧ ((md : Int) == 0) = false) ∨ (((bb : Int) == 1) = true ∧ (ch.toList == [126]) = false ∧ ((md : Int) == 0) = true ∧ ((a : Int) != 0) = false) ∨
            (((bb : Int) == 1) = false ∧ o = false) ∨ (((bb : Int) == 1) = false ∧ o = true ∧ (ch.toList == [126]) = true) ∨ (((bb : Int) == 1) = false ∧ o = true ∧ (ch.toList == [126]) = false ∧ ((md : Int) == 0) = false) ∨ (((bb : Int) == 1) = false ∧ o = true ∧ (ch.toList == [126]) = false ∧ ((md : Int) == 0) = true ∧ ((a : Int) != 0) = false) := by
          rw [HS.out] at hs
          have q1 : ((bb : Int) == 1) = decide (bb = 1) := by by_cases h : bb = 1 <;> simp [h]; omega
          have q2 : (ch.toList == [126]) = decide (ch.toList = [126]) := by by_cases h : ch.toList = [126] <;> simp [h]
          have q3 : ((md : Int) == 0) = decide (md = 0) := by by_cases h : md = 0 <;> simp [h]
          have q4 : ((a : Int) != 0) = !decide (a = 0) := by by_cases h : a = 0 <;> simp [h]
          rw [q1, q2, q3, q4]
          generalize decide (bb = 1) = z1 at *
          generalize decide (ch.toList = [126]) = z2 at *
          generalize decide (md = 0) = z3 at *
          generalize decide (a = 0) = z4 at *
          exact sk_ways z1 z2 z3 z4 o hs
        rcases HN2 with ⟨g1, g2⟩ | ⟨g1, g2, g3⟩ | ⟨g1, g2, g3, g4⟩ | ⟨g1, rfl⟩ | ⟨g1, rfl, g3⟩ | ⟨g1, rfl, g3, g4⟩ | ⟨g1, rfl, g3, g4, g5⟩
        all_goals
          have hsF : skipK ⟨kind, inl, ch, (m : Int), _, cc, im, bg, nd⟩ k = false := eq_false_of_ne_true hs
          go_wp2_with fail
          go_quiet ((go_at_call 44; exact quiet_l (HC.out _)))
          go_wp2_with fail
          have H4 : Hid (Below W1.heap.size W1 (wo.drewN nq)) := Lib.hid (below_drewN HB.out nq)
          have H5 : Hid (Below wo.heap.size wo (wo.drewN nq)) := Lib.hid (below_drewN (Below.refl _ _) nq)
          generalize wo.drewN nq = wq at *
          clear r2 r3 r4 rO
          go_loopw [7, 12] (fun v7 v12 wx => ∃ m2 : Nat, m2 ≤ lo.length ∧ v7 = .int .i64 (nr : Nat) ∧ v12 = .int .i64 ((m2 : Int) - 1) ∧ Hid (nearL pv nr (lo.take m2).reverse = nearL pv nr lo.reverse) ∧ Hid (Below W1.heap.size W1 wx) ∧ Hid (Below wo.heap.size wo wx)) (fun _ v12 _ => (intOf v12 + 1).toNat)
          case atStart => exact ⟨lo.length, Nat.le_refl _, rfl, rfl, Lib.hid (by rw [List.take_length]), H4, H5⟩
          case round =>
            obtain ⟨m2, hm2, rfl, rfl, HT, H6, H7⟩ := hrel
            rename World => wx
            clear H4 H5
            rcases m2 with _ | j
            · rw [show ((0 : Nat) : Int) - 1 = -1 from rfl]
              go_wp2_with fail
              go_roundw
              case rel => exact ⟨k + 1, by omega, by go_num, by rw [HSTEP.out nr hsF HT.out.symm], H6⟩
              case measure => simp [intOf]; omega
            · rw [show ((j + 1 : Nat) : Int) - 1 = (j : Int) by omega]
              have hj : j < lo.length := hm2
              obtain ⟨gg, hA', hgo, hcell⟩ := HA2.out (by omega)
              subst hA'
              have hcj : wx.cell? ⟨gg, j, none⟩ = some (.int .i64 (lo[j] : Nat)) := (H7.out.cell (p := ⟨gg, j, none⟩) hgo).trans (hcell j _ (by unfold intsV; simp [hj]))
              obtain ⟨hpv, hp1⟩ := HCK.out wx H7.out
              have HT2 : Hid (nearL pv nr (lo[j] :: (lo.take j).reverse) = nearL pv nr lo.reverse) := Lib.hid (by rw [← take_rev hj]; exact HT.out)
              have hjl : (j : Int) < (lo.length : Int) := by omega
              have hj0 : (0 : Int) ≤ (j : Int) := by omega
              clear hcell HT
              generalize lo[j] = x at *
              by_cases hx : x ≤ nr
              · have d1 : decide (x ≤ nr) = true := decide_eq_true hx
                have HR : Hid (nearL pv nr lo.reverse = nr) := Lib.hid (by rw [← HT2.out]; simp [nearL, hx])
                go_wp2_with fail
                go_roundw
                case rel => exact ⟨k + 1, by omega, by go_num, by rw [HSTEP.out nr hsF HR.out], H6⟩
                case measure => simp [intOf]; omega
              · have d1 : decide (x ≤ nr) = false := decide_eq_false hx
                by_cases hy : pv = x
                · have d2 : ((pv : Int) != (x : Int)) = false := by rw [hy]; simp
                  have HR : Hid (nearL pv nr (lo.take j).reverse = nearL pv nr lo.reverse) := Lib.hid (by rw [← HT2.out]; simp [nearL, hx, hy])
                  clear hy
                  go_wp2_with fail
                  go_quiet (fail)
                  go_wp2_with fail
                  go_roundw
                  case rel => exact ⟨j, by omega, rfl, rfl, HR, Lib.hid (below_drewN H6.out _), Lib.hid (below_drewN H7.out _)⟩
                  case measure => simp [intOf]
                · have d2 : ((pv : Int) != (x : Int)) = true := bne_iff_ne.2 (by omega)
                  have HR : Hid (nearL pv nr lo.reverse = x) := Lib.hid (by rw [← HT2.out]; simp [nearL, hx, hy])
                  clear hy
                  go_wp2_with fail
                  go_quiet (fail)
                  go_wp2_with fail
                  go_roundw
                  case rel => exact ⟨k + 1, by omega, by go_num, by rw [HSTEP.out x hsF HR.out], Lib.hid (below_drewN H6.out _)⟩
                  case measure => simp [intOf]; omega
    · obtain rfl : k = 6 := by omega
      generalize openerF ⟨kind, inl, ch, (m : Int), o, cc, im, bg, nd⟩ st.ops pv 6 = R at *
      go_wp2_with fail
      rw [Exit.noGoto_ret]
      refine bodyPost_ret (v := .tuple #[.int .i64 (R : Nat), .bool (decide (0 < R))]) (by simp [results, Tryz.results42, go_sem]) rfl ⟨?_, HBW.out _ HB.out⟩
      rw [HA.out]

end Go.Proofs.YtfnloonmeilhlaaGreatDoor
namespace Go.Pub
theorem popW_snoc (k x : Nat) (l : List Nat) : popW k (l ++ [x]) = if k < x then popW k l else l ++ [x] := by
  unfold popW
  rw [List.reverse_append, List.reverse_singleton, List.singleton_append, List.dropWhile_cons]
  by_cases h : k < x
  · rw [if_pos h, if_pos (decide_eq_true h)]
  · rw [if_neg h, if_neg (by simpa using h), List.reverse_cons, List.reverse_reverse]
/-- The lists of openers, the first n of them shortened. -/
def exclO (last n : Nat) (ops : Nat → List Nat) : Nat → List Nat := fun j => if j < n then popW last (ops j) else ops j
theorem exclO_succ (last n : Nat) (ops : Nat → List Nat) (j : Nat) : exclO last (n + 1) ops j = if j = n then popW last (ops n) else exclO last n ops j := by
  unfold exclO
  by_cases h : j = n
  · subst h; rw [if_pos (by omega), if_pos rfl]
  · rw [if_neg h]
    by_cases h2 : j < n
    · rw [if_pos (by omega), if_pos h2]
    · rw [if_neg (by omega), if_neg h2]
theorem exclO_at (last n : Nat) (ops : Nat → List Nat) : exclO last n ops n = ops n := by unfold exclO; rw [if_neg (by omega)]
end Go.Pub
namespace Go.Proofs.YtfnloonmeilhlaaGreatDoor
open Go.RowKit Go.Pub
/-- Blocks that are known to stay. -/
def KpSE (S : Nat → Prop) (w w' : World) : Prop := ∀ q, S q → w'.heap[q]? = w.heap[q]?
/-- Lists of openers in memory: what is left of EmR when elements and matches stay. -/
def ExPost (base p : Nat) (L vE vP : Value) (S : Nat → Prop) (vs : List (Array Value)) (st' : EmS) (w : World) (e : Ending) (w' : World) : Prop :=
  ∃ vO', e = .returned (.tuple #[]) ∧ EmR w' base p L vE vO' vP S vs st' ∧ Below base w w' ∧ KpSE S w w'
theorem own_cap {w : World} {base n m s : Nat} {e : TypeId} {A : Option Addr} {c : Nat} {xs : List Value} (h : w.ownsRow base e s (.slice A n c) m xs) : m ≤ c := by
  rcases h.2 with ⟨e, h0⟩ | ⟨g', cap', cur, e, h0, hg, h1, _⟩
  · omega
  · injection e with e1 e2 e3
    omega
theorem own_prefix {w : World} {base n m : Nat} {e : TypeId} {A : Option Addr} {c : Nat} {l : List Nat} (h : w.ownsRow base e 1 (.slice A n c) n (intsV l)) (hm : m ≤ n) : w.ownsRow base e 1 (.slice A m c) m (intsV (l.take m)) := by
  have hl : l.length = n := by have := h.1; rw [intsV_len] at this; omega
  refine ⟨by rw [intsV_len, List.length_take]; omega, ?_⟩
  rcases h.2 with ⟨e, h0⟩ | ⟨g', cap', cur, e, h0, hg, h1, h2, h3, h4⟩
  · injection e with e1 e2 e3
    subst e1; subst e3
    exact .inl ⟨by rw [show m = 0 by omega], by omega⟩
  · injection e with e1 e2 e3
    subst e1; subst e3
    refine .inr ⟨g', c, cur, rfl, h0, hg, by omega, h2, h3, ?_⟩
    have : intsV (l.take m) = (intsV l).take m := by unfold intsV; rw [List.map_take]
    rw [this, ← h4, List.take_take]
    congr 1; omega
section
variable {w w' : World} {base p : Nat} {L vE vP : Value} {vO : Nat → Value} {S : Nat → Prop} {vs : List (Array Value)} {st : EmS}
theorem EmR.opsEq (h : EmR w base p L vE vO vP S vs st) {ops' : Nat → List Nat} (he : ∀ j, j < 18 → ops' j = st.ops j) : EmR w base p L vE vO vP S vs { st with ops := ops' } :=
  ⟨h.bp, h.cel, h.els, h.rep, fun j hj => by show World.ownsRow _ _ _ _ _ (ops' j).length (intsV (ops' j)); rw [he j hj]; exact h.ops j hj, h.prs, h.apart, h.low, h.fro⟩
theorem EmR.setOp (h : EmR w base p L vE vO vP S vs st) (j : Nat) (hj : j < 18) {v : Value} {l : List Nat} (hv : w.ownsRow base 3 1 v l.length (intsV l)) (hb : v.ownBlock = none ∨ v.ownBlock = (vO j).ownBlock) :
    EmR (w.setCell ⟨p, 2 + j, none⟩ v) base p L vE (fun i => if i = j then v else vO i) vP S vs { st with ops := fun i => if i = j then l else st.ops i } ∧ Below base w (w.setCell ⟨p, 2 + j, none⟩ v) ∧ ∀ q, S q → (w.setCell ⟨p, 2 + j, none⟩ v).heap[q]? = w.heap[q]? := by
  obtain ⟨cs, hbk, _⟩ := h.cel.blk
  have hkeep : ∀ {n s : Nat} {t : TypeId} {u : Value} {x : List Value}, w.ownsRow base t s u n x → t ≠ 57 → (w.setCell ⟨p, 2 + j, none⟩ v).ownsRow base t s u n x := fun ho h2 =>
    ho.kept (row := some p) ⟨rfl, rfl, rfl, by simp [World.setCell], fun k _ hk => Below.heap_setCell w ⟨p, 2 + j, none⟩ _ k (fun e => hk (by rw [e]))⟩ (.inr (own_blk ho hbk h2))
  refine ⟨⟨h.bp, h.cel.setO j hj v, hkeep h.els (by decide), h.rep.keep (fun k hk => Below.heap_setCell w ⟨p, 2 + j, none⟩ _ k (h.notS hk).1) fun _ h => h, fun i hi => ?_, hkeep h.prs (by decide), fun i k hi hk hne => ?_, h.low, fun k hk => ⟨by simpa [World.setCell] using (h.fro k hk).1, fun hbk => ?_⟩⟩, (Below.refl _ w).setCell (p := ⟨p, 2 + j, none⟩) h.bp v, fun q hq => Below.heap_setCell w ⟨p, 2 + j, none⟩ _ q (h.notS hq).1⟩
  · by_cases hij : i = j
    · subst hij
      show World.ownsRow _ _ _ _ (if i = i then v else vO i) (if i = i then l else st.ops i).length (intsV (if i = i then l else st.ops i))
      rw [if_pos rfl, if_pos rfl]
      exact hkeep hv (by decide)
    · show World.ownsRow _ _ _ _ (if i = j then v else vO i) (if i = j then l else st.ops i).length (intsV (if i = j then l else st.ops i))
      rw [if_neg hij, if_neg hij]
      exact hkeep (h.ops i hi) (by decide)
  · show (if i = j then v else vO i).ownBlock = none ∨ (if i = j then v else vO i).ownBlock ≠ (if k = j then v else vO k).ownBlock
    by_cases hij : i = j
    · rw [if_pos hij, if_neg (by omega)]
      rcases hb with hb | hb
      · exact .inl hb
      · rw [hb]; exact h.apart j k hj hk (by omega)
    · rw [if_neg hij]
      by_cases hkj : k = j
      · rw [if_pos hkj]
        rcases h.apart i j hi hj hij with hh | hh
        · exact .inl hh
        · rcases hb with hb | hb
          · rw [hb]
            cases hx : (vO i).ownBlock with
            | none => exact .inl rfl
            | some q => exact .inr (by simp)
          · rw [hb]; exact .inr hh
      · rw [if_neg hkj]; exact h.apart i k hi hk hne
  · obtain ⟨n1, n2, n3, n4⟩ := h.notS hk
    refine ⟨n1, n2, fun i hi => ?_, n4⟩
    show (if i = j then v else vO i).ownBlock ≠ some k
    by_cases hij : i = j
    · rw [if_pos hij]
      rcases hb with hb | hb
      · rw [hb]; simp
      · rw [hb]; exact n3 j hj
    · rw [if_neg hij]; exact n3 i hi
end
set_option maxRecDepth 100000 in
set_option maxHeartbeats 4000000 in
theorem e_exclude {base p : Nat} {L vE vP : Value} {vO : Nat → Value} {S : Nat → Prop} {vs : List (Array Value)} {st : EmS} (w : World) (h : EmR w base p L vE vO vP S vs st) (last : Nat) :
    Calls Tryz.prog 67 #[.pointer (some ⟨p, 0, none⟩), .int .i64 last] w (ExPost base p L vE vP S vs { st with ops := fun j => popW last (st.ops j) } w) := by
  have h0 : EmR w base p L vE vO vP S vs { st with ops := exclO last 0 st.ops } := h.opsEq (fun j _ => by unfold exclO; rw [if_neg (by omega)])
  have H0 : Hid (∃ vO', EmR w base p L vE vO' vP S vs { st with ops := exclO last 0 st.ops } ∧ Below base w w ∧ KpSE S w w) := Lib.hid ⟨_, h0, Below.refl _ _, fun _ _ => rfl⟩
  clear h h0
  go_enter Tryz.func67, Tryz.ntmps67
  go_wp2_with fail
  go_loopw [8] (fun v8 wr => ∃ c : Nat, c ≤ 3 ∧ v8 = .int .i64 c ∧ Hid (∃ vO', EmR wr base p L vE vO' vP S vs { st with ops := exclO last (c * 6) st.ops } ∧ Below base w wr ∧ KpSE S w wr)) (fun v8 _ => 3 - (intOf v8).toNat)
  case atStart => exact ⟨0, by omega, rfl, H0⟩
  case round =>
    clear H0
    obtain ⟨c, hc, rfl, HI⟩ := hrel
    rename World => w1
    by_cases hc3 : c < 3
    · have hci : (c : Int) < 3 := by omega
      have hc0 : (0 : Int) ≤ (c : Int) := by omega
      go_wp2_with fail
      go_loopw [11] (fun v11 wr => ∃ d : Nat, d ≤ 3 ∧ v11 = .int .i64 d ∧ Hid (∃ vO', EmR wr base p L vE vO' vP S vs { st with ops := exclO last (c * 6 + d * 2) st.ops } ∧ Below base w wr ∧ KpSE S w wr)) (fun v11 _ => 3 - (intOf v11).toNat)
      case atStart => exact ⟨0, by omega, rfl, HI⟩
      case round =>
        clear HI
        obtain ⟨d, hd, rfl, HI⟩ := hrel
        rename World => w2
        by_cases hd3 : d < 3
        · have hdi : (d : Int) < 3 := by omega
          have hd0 : (0 : Int) ≤ (d : Int) := by omega
          go_wp2_with fail
          go_loopw [14] (fun v14 wr => ∃ b : Nat, b ≤ 2 ∧ v14 = .int .i64 b ∧ Hid (∃ vO', EmR wr base p L vE vO' vP S vs { st with ops := exclO last (c * 6 + d * 2 + b) st.ops } ∧ Below base w wr ∧ KpSE S w wr)) (fun v14 _ => 2 - (intOf v14).toNat)
          case atStart => exact ⟨0, by omega, rfl, HI⟩
          case round =>
            clear HI
            obtain ⟨b, hb, rfl, HI⟩ := hrel
            rename World => w3
            by_cases hb2 : b < 2
            · have hbi : (b : Int) < 2 := by omega
              have hb0 : (0 : Int) ≤ (b : Int) := by omega
              obtain ⟨vO', hE, hB, hKp⟩ := HI.out
              have hj : c * 6 + d * 2 + b < 18 := by omega
              have hcell := hE.cel.cO _ hj
              have hfz := hE.cel.frozen (2 + (c * 6 + d * 2 + b))
              rw [show 2 + (c * 6 + d * 2 + b) = 2 + c * 6 + d * 2 + b by omega] at hcell hfz
              have hown : w3.ownsRow base 3 1 (vO' (c * 6 + d * 2 + b)) (st.ops (c * 6 + d * 2 + b)).length (intsV (st.ops (c * 6 + d * 2 + b))) := by
                have := hE.ops _ hj
                rw [show EmS.ops _ = exclO last (c * 6 + d * 2 + b) st.ops from rfl, exclO_at] at this
                exact this
              obtain ⟨A, ca, hv, hlm, hA⟩ := own_form hown
              unfold maxLen at hlm
              rw [hv] at hcell hown
              have HE := Lib.hid hE
              have HV := Lib.hid hv
              have HB := Lib.hid hB
              have HKp := Lib.hid hKp
              have hcap := own_cap hown
              have HO := Lib.hid hown
              have HA := Lib.hid hA
              have HX := Lib.hid (exclO_succ last (c * 6 + d * 2 + b) st.ops)
              clear hE hv hB hown hA HI hKp
              generalize hlo : st.ops (c * 6 + d * 2 + b) = lo at *
              have HLO := Lib.hid hlo
              clear hlo
              go_wp2_with fail
              go_loop [7] (fun v7 => ∃ m : Nat, m ≤ lo.length ∧ v7 = .slice A m ca ∧ Hid (popW last (lo.take m) = popW last lo)) (fun v7 => match v7 with | .slice _ n _ => n | _ => 0)
              case atStart => exact ⟨lo.length, Nat.le_refl _, rfl, Lib.hid (by rw [List.take_length])⟩
              case round =>
                obtain ⟨m, hm, rfl, HT⟩ := hrel
                have HEND : Hid (popW last lo = lo.take m → ∀ W, W = w3.setCell ⟨p, 2 + c * 6 + d * 2 + b, none⟩ (.slice A m ca) → ∃ vO'', EmR W base p L vE vO'' vP S vs { st with ops := exclO last (c * 6 + d * 2 + (b + 1)) st.ops } ∧ Below base w W ∧ KpSE S w W) := Lib.hid fun hp W hW => by
                  subst hW
                  obtain ⟨q1, q2, q3⟩ := HE.out.setOp _ hj (v := .slice A m ca) (l := lo.take m) (by
                    have := own_prefix HO.out hm
                    rwa [show (lo.take m).length = m by rw [List.length_take]; omega]) (.inr (by rw [HV.out]; cases A <;> rfl))
                  rw [show 2 + (c * 6 + d * 2 + b) = 2 + c * 6 + d * 2 + b by omega] at q1 q2 q3
                  refine ⟨_, q1.opsEq (ops' := exclO last (c * 6 + d * 2 + (b + 1)) st.ops) (fun j hj => ?_), HB.out.trans q2, fun q hq => (q3 q hq).trans (HKp.out q hq)⟩
                  rw [show c * 6 + d * 2 + (b + 1) = c * 6 + d * 2 + b + 1 by omega, HX.out, hp]
                rcases m with _ | j
                · have HF := Lib.hid (HEND.out (by rw [← HT.out]; rfl) _ rfl)
                  clear HEND
                  go_wp2_with fail
                  go_roundw
                  case rel => exact ⟨b + 1, by omega, by go_num, HF⟩
                  case measure => simp [intOf]; omega
                · have hjl : j < lo.length := hm
                  obtain ⟨gg, hA', hgo, hc2⟩ := HA.out (by omega)
                  subst hA'
                  have hcj : w3.cell? ⟨gg, j, none⟩ = some (.int .i64 (lo[j] : Nat)) := hc2 j _ (by unfold intsV; simp [hjl])
                  have hts : lo.take (j + 1) = lo.take j ++ [lo[j]] := List.take_succ_eq_append_getElem hjl
                  have HP := Lib.hid (popW_snoc last lo[j] (lo.take j))
                  rw [← hts] at HP
                  have hji : (j : Int) < (lo.length : Int) := by omega
                  have hjc : j ≤ ca := by omega
                  have hj0 : (0 : Int) ≤ (j : Int) := by omega
                  have e1 : ((j + 1 : Nat) : Int) - 1 = (j : Int) := by omega
                  clear hc2 hts
                  generalize lo[j] = x at *
                  by_cases hx : last < x
                  · have d1 : decide (x > last) = true := decide_eq_true hx
                    have d2 : decide (last < x) = true := decide_eq_true hx
                    have HF : Hid (popW last (lo.take j) = popW last lo) := Lib.hid (by rw [← HT.out, HP.out, if_pos hx])
                    clear HEND HP HT
                    go_wp2_with fail
                    go_round
                    case rel => exact ⟨j, by omega, rfl, HF⟩
                    case measure => simp
                  · have d1 : decide (x > last) = false := decide_eq_false hx
                    have d2 : decide (last < x) = false := decide_eq_false hx
                    have HF := Lib.hid (HEND.out (by rw [← HT.out, HP.out, if_neg hx]) _ rfl)
                    clear HEND HP HT
                    go_wp2_with fail
                    go_roundw
                    case rel => exact ⟨b + 1, by omega, by go_num, HF⟩
                    case measure => simp [intOf]; omega
            · obtain rfl : b = 2 := by omega
              have HF : Hid (∃ vO', EmR w3 base p L vE vO' vP S vs { st with ops := exclO last (c * 6 + (d + 1) * 2) st.ops } ∧ Below base w w3 ∧ KpSE S w w3) := Lib.hid (by rw [show c * 6 + (d + 1) * 2 = c * 6 + d * 2 + 2 by omega]; exact HI.out)
              clear HI
              go_wp2_with fail
              go_roundw
              case rel => exact ⟨d + 1, by omega, by go_num, HF⟩
              case measure => simp [intOf]; omega
        · obtain rfl : d = 3 := by omega
          have HF : Hid (∃ vO', EmR w2 base p L vE vO' vP S vs { st with ops := exclO last ((c + 1) * 6) st.ops } ∧ Below base w w2 ∧ KpSE S w w2) := Lib.hid (by rw [show (c + 1) * 6 = c * 6 + 3 * 2 by omega]; exact HI.out)
          clear HI
          go_wp2_with fail
          go_roundw
          case rel => exact ⟨c + 1, by omega, by go_num, HF⟩
          case measure => simp [intOf]; omega
    · obtain rfl : c = 3 := by omega
      go_wp2_with fail
      go_end0
      obtain ⟨vO', q1, q2⟩ := HI.out
      exact ⟨vO', rfl, q1.opsEq (fun j hj => by show popW last (st.ops j) = exclO last 18 st.ops j; unfold exclO; rw [if_pos hj]), q2⟩

end Go.Proofs.YtfnloonmeilhlaaGreatDoor
