/-
  Texts of the proof, put together (what this law reaches): EmP.
-/
import Derived.Test.YtfnloonmeilhlaaGreatDoorT15
import Derived.Deep.CutBlock
set_option linter.unusedVariables false
set_option linter.unusedSimpArgs false
namespace Go.Pub
theorem RingI.nb {xs : List ElL} {l r : List Nat} {i : Nat} (h : RingI xs (l ++ i :: r)) : bf xs i < xs.length ∧ nx xs i < xs.length := by
  obtain ⟨a1, a2⟩ := LinkL.app.1 h.link
  refine ⟨?_, ?_⟩
  · rw [a1.bf_]
    have hl := lastOf_mem l 0
    refine h.bd0 _ ?_
    rcases List.mem_cons.1 hl with e | e
    · rw [e]; simp
    · exact List.mem_cons_of_mem _ (List.mem_append_left _ e)
  · rw [a2.hd]
    cases r with
    | nil => exact h.pos
    | cons b r => exact h.bd b (by simp [hdOr])
theorem RingI.rmZ {xs : List ElL} {l r : List Nat} {k : Nat} (h : RingI xs (l ++ k :: r)) : ∃ l', RingI (rmZ xs k) (l' ++ r) ∧ ((elX xs k).left = 0 → l' = l) := by
  unfold Pub.rmZ
  by_cases hz : (elX xs k).left = 0
  · rw [if_pos hz]; exact ⟨l, h.rm, fun _ => rfl⟩
  · rw [if_neg hz]; exact ⟨l ++ [k], by simpa using h, fun e => absurd e hz⟩
end Go.Pub
namespace Go.Proofs.YtfnloonmeilhlaaGreatDoor
open Go.RowKit Go.Pub
/-- A state in the midst of a match. -/
def MidS (base p : Nat) (L vE : Value) (vO : Nat → Value) (vP : Value) (S : Nat → Prop) (w0 w1 : World) (st : EmS) (w : World) : Prop := ∃ vs, EmR w base p L vE vO vP S vs st ∧ Below base w0 w ∧ ∀ q, S q → w.heap[q]? = w1.heap[q]?
/-- A state has followed, in more memory. -/
def PairPost (base p : Nat) (L : Value) (S : Nat → Prop) (st' : EmS) (w : World) (e : Ending) (w' : World) : Prop :=
  ∃ vE' vO' vP' S' vs', e = .returned (.tuple #[]) ∧ EmR w' base p L vE' vO' vP' S' vs' st' ∧ (∀ g, S g → S' g) ∧ Below base w w' ∧ ∀ q, S q → w'.heap[q]? = w.heap[q]?
theorem inK_one (k : Int) (A : Option Addr) (n c : Nat) : (inK k A n c).all (·.oneCell') = true := by unfold inK; simp [Value.oneCell']
theorem trip_info : (Tryz.prog.info? 42).map (fun i => (i.zero, i.size, i.bytes)) = some (some (.agg #[.int .i64 0, .int .i64 0, .int .i64 0]), 3, 24) := by kernel_rfl
set_option maxRecDepth 100000 in
set_option maxHeartbeats 8000000 in
theorem e_pair {base p g n cap : Nat} {L vP : Value} {vO : Nat → Value} {S : Nat → Prop} {vs : List (Array Value)} {st : EmS} {ps : List PcT} {A B : List Nat} {o c : Nat} (w : World) (h : EmR w base p L (.slice (some ⟨g, 0, none⟩) n cap) vO vP S vs st) (hI : RingI st.xs (A ++ o :: (B ++ [c]))) (hL : PcsR w (fun g => g < base) L ps) (hbase : base ≤ w.heap.size)
    (hpo : pX st.xs o < ps.length) (hpc : pX st.xs c < ps.length) (hrun : ∀ i ∈ B, runX st.xs i = true → pX st.xs i < ps.length ∧ (pcX ps (pX st.xs i)).ch.size * lfX st.xs i ≤ 1000000 ∧ lfX st.xs i ≤ 1000000) (hlen : st.xs.length ≤ 200000) (hprs : st.prs.length ≤ 200000)
    (hlo : 1 ≤ lfX st.xs o) (hlc : 1 ≤ lfX st.xs c) (hlo2 : lfX st.xs o ≤ 1000000) (hlc2 : lfX st.xs c ≤ 1000000) :
    Calls Tryz.prog 43 #[.pointer (some ⟨p, 0, none⟩), .int .i64 o, .int .i64 c] w (PairPost base p L S (mtchA ps st o c) w) := by
  have hn := own_len h.els
  subst hn
  obtain ⟨hbet, hlk, hBm⟩ := betA_eq (ps := ps) hI
  have ho : o < st.xs.length := hI.bd o (by simp)
  have hc : c < st.xs.length := hI.bd c (by simp)
  have hBl : B.length ≤ 1000000 := by have := hI.len; simp at this; omega
  have hoc : o ≠ c := fun e => by
    have hn := hI.nd
    rw [← List.cons_append, List.nodup_append] at hn
    exact (List.nodup_cons.1 hn.2.1).1 (by rw [e]; simp)
  have hLS : PcsR w S L ps := hL.keep (fun _ _ => rfl) h.low
  obtain ⟨b, off, cl, rfl, hSb, hpcs⟩ := hL.opn (by omega)
  obtain ⟨y0, y1, y2, y3, y4, y5, y6, y7, y8, y9, -, hrg, -⟩ := hpcs _ hpc
  have hch0 : w.cell? ⟨b, off + pX st.xs c * 18 + 11, none⟩ = some (.string (pcX ps (pX st.xs c)).ch) := hrg 11 _ rfl
  have c0 : w.cell? ⟨p, 0, none⟩ = some (.slice (some ⟨b, off, none⟩) ps.length cl) := h.cel.c0
  have c1 : w.cell? ⟨p, 1, none⟩ = some (.slice (some ⟨g, 0, none⟩) st.xs.length cap) := h.cel.c1
  obtain ⟨cpo', clo', -, -⟩ := h.at_ o ho
  obtain ⟨cpc', clc', -, -⟩ := h.at_ c hc
  have cpo : w.cell? ⟨g, o * 15 + 11, none⟩ = some (.int .i64 (pX st.xs o : Nat)) := cpo'
  have clo : w.cell? ⟨g, o * 15 + 12, none⟩ = some (.int .i64 (lfX st.xs o : Nat)) := clo'
  have cpc : w.cell? ⟨g, c * 15 + 11, none⟩ = some (.int .i64 (pX st.xs c : Nat)) := cpc'
  have clc : w.cell? ⟨g, c * 15 + 12, none⟩ = some (.int .i64 (lfX st.xs c : Nat)) := clc'
  clear cpo' clo' cpc' clc'
  have HN : Hid (pairN st.xs o c = if 2 ≤ lfX st.xs o ∧ 2 ≤ lfX st.xs c then 2 else 1) := Lib.hid rfl
  have HKd : Hid (pairK ps st.xs o c = if (pcX ps (pX st.xs c)).ch.toList = [126] then 8 else if pairN st.xs o c = 2 then 7 else 6) := Lib.hid rfl
  have HX : Hid (pairX ps st.xs o c = setLf (setLf (insX (setBf (setN st.xs o c) c o) { t := kidT (pairK ps st.xs o c) (betA ps st.xs o c) } c) o ((elX (insX (setBf (setN st.xs o c) c o) { t := kidT (pairK ps st.xs o c) (betA ps st.xs o c) } c) o).left - pairN st.xs o c)) c ((elX (setLf (insX (setBf (setN st.xs o c) c o) { t := kidT (pairK ps st.xs o c) (betA ps st.xs o c) } c) o ((elX (insX (setBf (setN st.xs o c) c o) { t := kidT (pairK ps st.xs o c) (betA ps st.xs o c) } c) o).left - pairN st.xs o c)) c).left - pairN st.xs o c)) := Lib.hid rfl
  have HM : Hid (mtchA ps st o c = { xs := rmZ (rmZ (pairX ps st.xs o c) o) c, ops := fun j => popW (if (elX (pairX ps st.xs o c) o).left = 0 then o - 1 else o) (st.ops j), prs := st.prs ++ [(pX st.xs o, pX st.xs c, pairN st.xs o c)] }) := Lib.hid rfl
  have HBE := Lib.hid fun (w1 : World) (h1 : EmR w1 base p (.slice (some ⟨b, off, none⟩) ps.length cl) (.slice (some ⟨g, 0, none⟩) st.xs.length cap) vO vP S vs st) (h2 : PcsR w1 S (.slice (some ⟨b, off, none⟩) ps.length cl) ps) => e_between w1 h1 h2 o c B ho hlk hBm hrun hBl
  rw [← hbet] at HBE
  have HH := Lib.hid h
  have HLS := Lib.hid hLS
  have HI := Lib.hid hI
  have hbl : b < base := hSb
  clear h hI hLS hL hpcs hrg hlk hBm hrun hbet
  generalize hNN : pairN st.xs o c = N at *
  generalize hKK : pairK ps st.xs o c = KK at *
  generalize hpp : pcX ps (pX st.xs c) = PC at *
  clear hNN hKK hpp
  generalize hlfo : lfX st.xs o = lo at *
  generalize hlfc : lfX st.xs c = lc at *
  generalize hpo' : pX st.xs o = po at *
  generalize hpc' : pX st.xs c = pc at *
  generalize betA ps st.xs o c = kids at *
  have HLO := Lib.hid hlfo
  have HLC := Lib.hid hlfc
  clear hlfo hlfc hpo' hpc'
  obtain ⟨i1, i2, i3, i4, i5, i6⟩ : (o : Int) < (st.xs.length : Int) ∧ (c : Int) < (st.xs.length : Int) ∧ (0 : Int) ≤ (o : Int) ∧ (0 : Int) ≤ (c : Int) ∧ (pc : Int) < (ps.length : Int) ∧ (0 : Int) ≤ (pc : Int) := by omega
  go_enter Tryz.func43, Tryz.ntmps43
  go_wp2_with fail
  go_quiet (fail)
  have HBW : Hid (Below w.heap.size w (w.drewN nq)) := Lib.hid (below_drewN (Below.refl _ w) nq)
  have g0 : (w.drewN nq).cell? ⟨p, 0, none⟩ = some (.slice (some ⟨b, off, none⟩) ps.length cl) := c0
  have g1 : (w.drewN nq).cell? ⟨p, 1, none⟩ = some (.slice (some ⟨g, 0, none⟩) st.xs.length cap) := c1
  have g2 : (w.drewN nq).cell? ⟨g, o * 15 + 12, none⟩ = some (.int .i64 (lo : Nat)) := clo
  have g3 : (w.drewN nq).cell? ⟨g, c * 15 + 12, none⟩ = some (.int .i64 (lc : Nat)) := clc
  have g4 : (w.drewN nq).cell? ⟨b, off + pc * 18 + 11, none⟩ = some (.string PC.ch) := hch0
  have hz : (w.drewN nq).heap.size = w.heap.size := rfl
  have HZ := Lib.hid hz
  clear c0 c1 clo clc cpo cpc hch0 hz
  generalize w.drewN nq = w1 at *
  go_upto_region 2 with fail
  go_cut [46] (fun s46 wx => s46 = .bool (decide (N = 2)) ∧ w1 = wx)
  case first =>
    by_cases h1 : 2 ≤ lo
    · have d1 : decide ((lo : Int) ≥ 2) = true := decide_eq_true (by omega)
      by_cases h2 : 2 ≤ lc
      · have d2 : decide ((lc : Int) ≥ 2) = true := decide_eq_true (by omega)
        have hN : N = 2 := by rw [HN.out, if_pos ⟨h1, h2⟩]
        have HN' := Lib.hid hN
        clear hN
        go_wp2_with fail
        go_meet
        exact ⟨by rw [HN'.out]; rfl, rfl⟩
      · have d2 : decide ((lc : Int) ≥ 2) = false := decide_eq_false (by omega)
        have hN : N = 1 := by rw [HN.out, if_neg (by omega)]
        have HN' := Lib.hid hN
        clear hN
        go_wp2_with fail
        go_meet
        exact ⟨by rw [HN'.out]; rfl, rfl⟩
    · have d1 : decide ((lo : Int) ≥ 2) = false := decide_eq_false (by omega)
      have hN : N = 1 := by rw [HN.out, if_neg (by omega)]
      have HN' := Lib.hid hN
      clear hN
      go_wp2_with fail
      go_meet
      exact ⟨by rw [HN'.out]; rfl, rfl⟩
  case rest =>
  obtain ⟨rfl, rfl⟩ := hcut
  go_upto_if 46 with fail
  go_cut [8] (fun s8 wx => s8 = .int .i64 (N : Nat) ∧ w1 = wx)
  case first =>
    by_cases h1 : N = 2
    · have d1 : decide (N = 2) = true := decide_eq_true h1
      have HN' := Lib.hid h1
      clear h1
      go_wp2_with fail
      go_meet
      exact ⟨by rw [HN'.out]; rfl, rfl⟩
    · have d1 : decide (N = 2) = false := decide_eq_false h1
      have hN : N = 1 := by
        have := HN.out
        split at this <;> omega
      have HN' := Lib.hid hN
      clear hN
      go_wp2_with fail
      go_meet
      exact ⟨by rw [HN'.out]; rfl, rfl⟩
  case rest =>
  obtain ⟨rfl, rfl⟩ := hcut
  have hN1 : 1 ≤ N ∧ N ≤ 2 ∧ N ≤ lo ∧ N ≤ lc := by rw [HN.out]; split <;> omega
  go_wp2_with fail
  have hE1 := HH.out.below HBW.out
  ((with_reducible refine (HBE.out w1 hE1 (HLS.out.keep (fun g hg => HBW.out.block g (HH.out.fro g hg).1) fun _ h => h)).mono ?_))
  rintro e W1 ⟨v, vsk, rfl, k1, k2, k3⟩
  obtain ⟨A5, n5, hv5, -, -⟩ := own_form k2
  subst hv5
  have HE1 := Lib.hid (hE1.moreNew k3 (by have := HBW.out.size; omega))
  have HK1 := Lib.hid k1
  have HK2 := Lib.hid k2
  have HK3 := Lib.hid k3
  have HBT : Hid (Below base w W1) := Lib.hid ((HBW.out.mono hbase).trans (k3.mono (by have := HBW.out.size; omega)))
  clear k1 k2 k3 hE1 g1 g2 g3
  have HB6 := Lib.hid fun (k : Int) => inK_one k A5 kids.length n5
  have hE2 := HE1.out
  have c0 := hE2.cel.c0
  have hbW : b < W1.heap.size := by have := HBT.out.size; omega
  have hch : W1.cell? ⟨b, off + pc * 18 + 11, none⟩ = some (.string PC.ch) := (HK3.out.cell (p := ⟨b, off + pc * 18 + 11, none⟩) (by show b < w1.heap.size; have := HBW.out.size; omega)).trans g4
  have hpW := hE2.cel.lt
  clear hE2 g4 g0
  go_upto_block 0 with (refine wpList_store_row rfl 32 (.tmp 9) (.tmp 51) rfl W1.heap.size (inK 6 A5 kids.length n5) rfl rfl 32 _ (Blk.new _ _ _) inl_size (by rfl) (HB6.out 6) ?_; rw [World.setRow_alloc_new]; simp only [Act.put])
  have X0 : Hid (Blk (W1.alloc (.cells (inK 6 A5 kids.length n5) 32)) W1.heap.size 32 (inK 6 A5 kids.length n5) ∧ Below W1.heap.size W1 (W1.alloc (.cells (inK 6 A5 kids.length n5) 32))) := Lib.hid ⟨Blk.new _ _ _, (Below.refl _ W1).alloc (Nat.le_refl _) _⟩
  have c0' : (W1.alloc (.cells (inK 6 A5 kids.length n5) 32)).cell? ⟨p, 0, none⟩ = some (.slice (some ⟨b, off, none⟩) ps.length cl) := (World.cell?_alloc_lt W1 _ ⟨p, 0, none⟩ hpW).trans c0
  have hch' : (W1.alloc (.cells (inK 6 A5 kids.length n5) 32)).cell? ⟨b, off + pc * 18 + 11, none⟩ = some (.string PC.ch) := (World.cell?_alloc_lt W1 _ ⟨b, off + pc * 18 + 11, none⟩ hbW).trans hch
  clear c0 hch
  generalize W1.alloc (.cells (inK 6 A5 kids.length n5) 32) = W2 at *
  go_cut [] (fun wx => Blk wx W1.heap.size 32 (inK KK A5 kids.length n5) ∧ Below W1.heap.size W1 wx)
  case first =>
    obtain ⟨x0, x00⟩ := X0.out
    have x1 := x0.frozen 0
    have x2 : W2.cell? ⟨W1.heap.size, 0, none⟩ = some (.int .i64 6) := x0.cell 0
    have HB := Lib.hid fun (k : Int) (hk : KK = k) => (show Blk (W2.setCell ⟨W1.heap.size, 0, none⟩ (.int .i64 k)) W1.heap.size 32 (inK KK A5 kids.length n5) ∧ Below W1.heap.size W1 (W2.setCell ⟨W1.heap.size, 0, none⟩ (.int .i64 k)) by
      subst hk
      exact ⟨x0.set_ 0 (.int .i64 KK), x00.setCell (p := ⟨W1.heap.size, 0, none⟩) (Nat.le_refl _) _⟩)
    have HB6 : Hid (KK = 6 → Blk W2 W1.heap.size 32 (inK KK A5 kids.length n5) ∧ Below W1.heap.size W1 W2) := Lib.hid fun hk => by subst hk; exact ⟨x0, x00⟩
    clear x0 x00
    by_cases ht : PC.ch.toList = [126]
    · have d1 : (PC.ch.toList == [126]) = true := beq_iff_eq.2 ht
      have HF := Lib.hid (HB.out 8 (by rw [HKd.out, if_pos ht]))
      clear ht HB HB6
      go_wp2_with fail
      go_meet
      exact HF.out
    · have d1 : (PC.ch.toList == [126]) = false := beq_eq_false_iff_ne.2 ht
      by_cases h2 : N = 2
      · have d2 : ((N : Int) == 2) = true := beq_iff_eq.2 (by omega)
        have HF := Lib.hid (HB.out 7 (by rw [HKd.out, if_neg ht, if_pos h2]))
        clear h2 HB HB6
        go_wp2_with fail
        go_meet
        exact HF.out
      · have d2 : ((N : Int) == 2) = false := beq_eq_false_iff_ne.2 (by omega)
        have HF := Lib.hid (HB6.out (by rw [HKd.out, if_neg ht, if_neg h2]))
        clear HB HB6
        go_wp2_with fail
        go_meet
        exact HF.out
  case rest =>
  obtain ⟨q1, q2⟩ := hcut
  have hE3 := HE1.out.below q2
  have hI3 : RepI wc (fun g' => S g' ∨ (w1.heap.size ≤ g' ∧ g' < W1.heap.size)) (inK KK A5 kids.length n5) (kidT KK kids) := (inK_rep KK HK1.out HK2.out).keep (fun g' hg' => q2.block g' (by
    rcases hg' with h | h
    · have := (HH.out.fro g' h).1; have := HBW.out.size; have := HK3.out.size; omega
    · exact h.2)) fun _ h => h
  clear c0' hch' X0
  obtain ⟨⟨v4, e4⟩, b4, kp4⟩ := hE3.stN o c (by omega)
  obtain ⟨⟨v5, e5⟩, b5, kp5⟩ := e4.stB c o (by show c < (setN _ _ _).length; rw [len_setN]; omega)
  have m1 := hE3.cel.c1
  obtain ⟨-, -, -, mo⟩ := hE3.at_ o (by omega)
  obtain ⟨-, -, mc, -⟩ := hE3.at_ c (by omega)
  have fz := hE3.frE
  have hne := hE3.ne
  have hne' := hne.symm
  have hgx : W1.heap.size ≠ g := by have := (HH.out.els.lt g rfl).2; have := HBW.out.size; have := HK3.out.size; omega
  have hx5 : Blk ((wc.setCell ⟨g, o * 15 + 14, none⟩ (.int .i64 c)).setCell ⟨g, c * 15 + 13, none⟩ (.int .i64 o)) W1.heap.size 32 (inK KK A5 kids.length n5) := (q1.far (p := ⟨g, o * 15 + 14, none⟩) hgx _).far (p := ⟨g, c * 15 + 13, none⟩) hgx _
  have hI5 := hI3.keep (w' := (wc.setCell ⟨g, o * 15 + 14, none⟩ (.int .i64 c)).setCell ⟨g, c * 15 + 13, none⟩ (.int .i64 o)) (fun g' hg' => (Below.heap_setCell _ ⟨g, c * 15 + 13, none⟩ _ g' (by
    have := (hE3.notS hg').2.1
    exact fun e => this (by rw [e]; rfl))).trans (Below.heap_setCell _ ⟨g, o * 15 + 14, none⟩ _ g' (by
    have := (hE3.notS hg').2.1
    exact fun e => this (by rw [e]; rfl)))) fun _ h => h
  have HX5 : Hid (Blk ((wc.setCell ⟨g, o * 15 + 14, none⟩ (.int .i64 c)).setCell ⟨g, c * 15 + 13, none⟩ (.int .i64 o)) W1.heap.size 32 #[.int .i64 KK, .string ⟨#[]⟩, .string ⟨#[]⟩, .string ⟨#[]⟩, .string ⟨#[]⟩, .slice none 0 0, .slice none 0 0, .slice none 0 0, .slice none 0 0, .slice A5 kids.length n5]) := Lib.hid hx5
  have HE5 := Lib.hid e5
  have HB5 : Hid (Below base w ((wc.setCell ⟨g, o * 15 + 14, none⟩ (.int .i64 c)).setCell ⟨g, c * 15 + 13, none⟩ (.int .i64 o))) := Lib.hid (HBT.out.trans ((q2.mono (by have := HBT.out.size; omega)).trans (b4.trans b5)))
  have HI5 := Lib.hid hI5
  have HKP5 : Hid (∀ q, (S q ∨ (w1.heap.size ≤ q ∧ q < W1.heap.size)) → ((wc.setCell ⟨g, o * 15 + 14, none⟩ (.int .i64 c)).setCell ⟨g, c * 15 + 13, none⟩ (.int .i64 o)).heap[q]? = W1.heap[q]?) := Lib.hid fun q hq => (kp5 q hq).trans ((kp4 q hq).trans (q2.block q (by
    rcases hq with h | h
    · have := (HH.out.fro q h).1; have := HBW.out.size; have := HK3.out.size; omega
    · exact h.2)))
  have HKW : Hid (∀ q, S q → W1.heap[q]? = w.heap[q]?) := Lib.hid fun q hq => (HK3.out.block q (by have := (HH.out.fro q hq).1; have := HBW.out.size; omega)).trans (HBW.out.block q (HH.out.fro q hq).1)
  clear kp4 kp5
  clear hx5 e5 e4 b4 b5 hI5 hI3 hE3 q1 q2
  go_wp2_with (refine wpList_load_row rfl 32 (.tmp 9) rfl W1.heap.size rfl 32 #[.int .i64 KK, .string ⟨#[]⟩, .string ⟨#[]⟩, .string ⟨#[]⟩, .string ⟨#[]⟩, .slice none 0 0, .slice none 0 0, .slice none 0 0, .slice none 0 0, .slice A5 kids.length n5] _ _ HX5.out Tryz.underlying32 rfl inl_size ?_)
  have HINS : Hid (Calls Tryz.prog 19 #[.pointer (some ⟨p, 0, none⟩), .agg #[.int .i64 KK, .string ⟨#[]⟩, .string ⟨#[]⟩, .string ⟨#[]⟩, .string ⟨#[]⟩, .slice none 0 0, .slice none 0 0, .slice none 0 0, .slice none 0 0, .slice A5 kids.length n5, .bool false, .int .i64 0, .int .i64 0, .int .i64 0, .int .i64 0], .int .i64 c] ((wc.setCell ⟨g, o * 15 + 14, none⟩ (.int .i64 c)).setCell ⟨g, c * 15 + 13, none⟩ (.int .i64 o)) (InsPost base p (.slice (some ⟨b, off, none⟩) ps.length cl) vO vP (fun g' => S g' ∨ (w1.heap.size ≤ g' ∧ g' < W1.heap.size)) { st with xs := setBf (setN st.xs o c) c o } { st with xs := insX (setBf (setN st.xs o c) c o) { t := kidT KK kids } c } ((wc.setCell ⟨g, o * 15 + 14, none⟩ (.int .i64 c)).setCell ⟨g, c * 15 + 13, none⟩ (.int .i64 o)))) :=
    Lib.hid (e_insert ((wc.setCell ⟨g, o * 15 + 14, none⟩ (.int .i64 c)).setCell ⟨g, c * 15 + 13, none⟩ (.int .i64 o)) HE5.out (by have := HB5.out.size; omega) _ _ _ _ _ _ _ _ _ _ (kidT KK kids) false 0 0 0 0 c HI5.out (by show c < (setBf _ _ _).length; rw [len_setBf, len_setN]; omega) (by show bf (setBf _ _ _) c ≤ (setBf _ _ _).length; rw [bf_setBf, len_setBf, len_setN, if_pos ⟨rfl, by omega⟩]; omega) (by show (setBf _ _ _).length ≤ _; rw [len_setBf, len_setN]; omega) { t := kidT KK kids } rfl)
  ((with_reducible refine HINS.out.mono ?_))
  rintro e W6 ⟨vE6, vs6, rfl, f1, f2, f3⟩
  have HKP6 : Hid (∀ q, (S q ∨ (w1.heap.size ≤ q ∧ q < W1.heap.size)) → W6.heap[q]? = W1.heap[q]?) := Lib.hid fun q hq => (f3 q hq).trans (HKP5.out q hq)
  clear f3 HKP5
  have hlX : (insX (setBf (setN st.xs o c) c o) { t := kidT KK kids } c).length = st.xs.length + 1 := by rw [len_ins, len_setBf, len_setN]
  have hcX : ∀ j, j < st.xs.length → lfX (insX (setBf (setN st.xs o c) c o) { t := kidT KK kids } c) j = lfX st.xs j := fun j hj => (core_eq (by rw [core_ins, len_setBf, len_setN, if_neg (by omega), core_setBf, core_setN] : core (insX (setBf (setN st.xs o c) c o) { t := kidT KK kids } c) j = core st.xs j)).2.2.2
  have hlo6 := hcX o (by omega)
  have hlc6 := hcX c (by omega)
  rw [HLO.out] at hlo6
  rw [HLC.out] at hlc6
  obtain ⟨AP, cP, hvP, hlmP, -⟩ := own_form f1.prs
  dsimp only at hvP
  subst hvP
  generalize hX3 : insX (setBf (setN st.xs o c) c o) { t := kidT KK kids } c = X3 at *
  have HX3 := Lib.hid hX3
  clear hX3 hcX
  obtain ⟨g6, cap6, hv6, -, -, hgp6, fz6, -⟩ := f1.row (by show 0 < X3.length; omega)
  dsimp only at hv6
  rw [hlX] at hv6
  subst hv6
  have hp6 := f1.cel.lt
  have m20 : W6.cell? ⟨p, 20, none⟩ = some (.slice AP st.prs.length cP) := f1.cel.cP
  have f20 := f1.cel.frozen 20
  obtain ⟨i0, hi0, hz0, hz1, hz2⟩ := info_parts trip_info
  have hAl : Below W6.heap.size W6 (W6.alloc (.cells #[.int .i64 po, .int .i64 pc, .int .i64 N] 42)) := (Below.refl _ W6).alloc (Nat.le_refl _) _
  have HF1 := Lib.hid f1
  have HAL := Lib.hid hAl
  have HB6' : Hid (Below base w W6) := Lib.hid (HB5.out.trans f2)
  have HPU := Lib.hid fun (W7 : World) (g7 cap7 : Nat) hown hgrow hlies => (f1.below hAl).pushP (w2 := W7) (x := (po, pc, N)) (g := g7) (cap := cap7) (H := W6.heap.size + 1) (by rw [World.size_alloc]; have := HB6'.out.size; omega) hown hgrow hlies (by rw [World.size_alloc]; exact Nat.le_refl _)
  have HNP := Lib.hid fun (W7 : World) (hgrow : (W6.alloc (.cells #[.int .i64 po, .int .i64 pc, .int .i64 N] 42)).grownBy W7 (Value.slice AP st.prs.length cP).ownBlock) => (show W7.cell? ⟨p, 20, none⟩ = some (.slice AP st.prs.length cP) ∧ W7.frozen? ⟨p, 20, none⟩ = false by
    have hne : (Value.slice AP st.prs.length cP).ownBlock ≠ some p := by
      obtain ⟨cs, hbk, _⟩ := f1.cel.blk
      exact own_blk f1.prs hbk (by decide)
    have hb : W7.heap[p]? = W6.heap[p]? := (hgrow.block p (by rw [World.size_alloc]; omega) (fun e => hne e.symm)).trans (hAl.block p hp6)
    exact ⟨(World.cell?_of_block (a := ⟨p, 20, none⟩) hb).trans m20, (World.frozen?_of_block (a := ⟨p, 20, none⟩) hb).trans f20⟩)
  have hWb : base ≤ W6.heap.size := by have := HB6'.out.size; omega
  clear f1 f2 hAl HINS HE5 HB5 HI5 HX5 HE1 HK1 HK2 HK3 HBT HBE m1 mo mc fz
  go_wp2_with (at_builtin; refine wpList_append_lies _ rfl _ _ 40 rfl base 42 i0 _ 3 24 Tryz.underlying40 hi0 hz0 hz1 hz2 rfl (by decide) _ _ _ rfl (HF1.out.prs.alloc _) ⟨W6.heap.size, 0, none⟩ 1 1 [.int .i64 po, .int .i64 pc, .int .i64 N] rfl rfl ?c1 ?c2 (by decide) ?c3 ?c4 ?c5 (W6.heap.size + 1) ?c6 ?_)
  case c1 => exact World.news_of_block (t := 42) (fr := (0, 0)) (heap_alloc_new W6 _)
  case c2 => simp [Value.oneCell']
  case c3 => unfold maxLen; omega
  case c4 => omega
  case c5 => simp; omega
  case c6 => simp
  intro g7 cap7 W7 hown hgrow hlies hlt7
  obtain ⟨n20, nf20⟩ := HNP.out W7 hgrow
  obtain ⟨p1, p2, p3⟩ := HPU.out W7 g7 cap7 hown hgrow hlies
  have HKP8 : Hid (∀ q, (S q ∨ (w1.heap.size ≤ q ∧ q < W1.heap.size)) → (W7.setCell ⟨p, 20, none⟩ (.slice (some ⟨g7, 0, none⟩) (st.prs.length + 1) cap7)).heap[q]? = W1.heap[q]?) := Lib.hid fun q hq => (p3 q hq).trans ((HAL.out.block q (HF1.out.fro q hq).1).trans (HKP6.out q hq))
  have HP1 := Lib.hid p1
  have HP2 := Lib.hid (HB6'.out.trans ((HAL.out.mono hWb).trans p2))
  clear p1 p2 p3 HKP6 hown hgrow hlies hlt7 HNP HPU HF1 HAL HB6' m20 f20
  go_upto_region 13 with fail
  generalize W7.setCell ⟨p, 20, none⟩ (.slice (some ⟨g7, 0, none⟩) (st.prs.length + 1) cap7) = W8 at *
  obtain ⟨lo', hlo'⟩ : ∃ lo', lo' = lo - N := ⟨_, rfl⟩
  obtain ⟨lc', hlc'⟩ : ∃ lc', lc' = lc - N := ⟨_, rfl⟩
  have s1 : (lo : Int) - (N : Int) = (lo' : Int) := by omega
  have s2 : (lc : Int) - (N : Int) = (lc' : Int) := by omega
  have hX5 : pairX ps st.xs o c = setLf (setLf X3 o lo') c lc' := by
    rw [HX.out]
    have e1 : (elX X3 o).left = lo := hlo6
    rw [e1, ← hlo']
    have e2 : (elX (setLf X3 o lo') c).left = lc := by
      rw [elX_setLf, if_neg (fun h => hoc h.1.symm)]; exact hlc6
    rw [e2, ← hlc']
  have E8 := HP1.out
  have z1 := E8.cel.c1
  obtain ⟨-, z2', -, -⟩ := E8.at_ o (by show o < X3.length; omega)
  obtain ⟨-, z3', -, -⟩ := E8.at_ c (by show c < X3.length; omega)
  have z2 : W8.cell? ⟨g6, o * 15 + 12, none⟩ = some (.int .i64 (lo : Nat)) := by rw [z2']; exact congrArg (fun x : Nat => some (Value.int .i64 (x : Int))) hlo6
  have z3 : W8.cell? ⟨g6, c * 15 + 12, none⟩ = some (.int .i64 (lc : Nat)) := by rw [z3']; exact congrArg (fun x : Nat => some (Value.int .i64 (x : Int))) hlc6
  clear z2' z3'
  have z4 := E8.frE
  have z5 := E8.ne
  have z6 := z5.symm
  obtain ⟨⟨v9, E9⟩, B9, K9⟩ := E8.stL o lo' (by show o < X3.length; omega)
  obtain ⟨⟨v10, E10⟩, B10, K10⟩ := E9.stL c lc' (by show c < (setLf X3 o lo').length; rw [len_setLf]; omega)
  have HE10 : Hid (EmR ((W8.setCell ⟨g6, o * 15 + 12, none⟩ (.int .i64 lo')).setCell ⟨g6, c * 15 + 12, none⟩ (.int .i64 lc')) base p (.slice (some ⟨b, off, none⟩) ps.length cl) (.slice (some ⟨g6, 0, none⟩) (st.xs.length + 1) cap6) vO (.slice (some ⟨g7, 0, none⟩) (st.prs.length + 1) cap7) (fun g' => S g' ∨ (w1.heap.size ≤ g' ∧ g' < W1.heap.size)) v10 { xs := pairX ps st.xs o c, ops := st.ops, prs := st.prs ++ [(po, pc, N)] }) := Lib.hid (by rw [hX5]; exact E10)
  have HB10 : Hid (Below base w ((W8.setCell ⟨g6, o * 15 + 12, none⟩ (.int .i64 lo')).setCell ⟨g6, c * 15 + 12, none⟩ (.int .i64 lc'))) := Lib.hid (HP2.out.trans (B9.trans B10))
  have HKP10 : Hid (∀ q, (S q ∨ (w1.heap.size ≤ q ∧ q < W1.heap.size)) → ((W8.setCell ⟨g6, o * 15 + 12, none⟩ (.int .i64 lo')).setCell ⟨g6, c * 15 + 12, none⟩ (.int .i64 lc')).heap[q]? = W1.heap[q]?) := Lib.hid fun q hq => (K10 q hq).trans ((K9 q hq).trans (HKP8.out q hq))
  clear K9 K10
  have hl5 : (pairX ps st.xs o c).length = st.xs.length + 1 := len_pairX ps st.xs o c
  have hR5 : RingI (pairX ps st.xs o c) (A ++ o :: (st.xs.length :: [c])) := RingI.pairX HI.out
  have hoL : lfX (pairX ps st.xs o c) o = lo' := by rw [hX5]; unfold lfX; rw [elX_setLf, if_neg (fun h => hoc h.1), elX_setLf, if_pos ⟨rfl, by omega⟩]
  have hcL : lfX (pairX ps st.xs o c) c = lc' := by rw [hX5]; unfold lfX; rw [elX_setLf, if_pos ⟨rfl, by rw [len_setLf]; omega⟩]
  have ho1 : 1 ≤ o := by
    have := hR5.two.2.2.2 o (by simp)
    omega
  have s3 : (o : Int) - 1 = ((o - 1 : Nat) : Int) := by omega
  have j1 : (o : Int) < (st.xs.length : Int) + 1 := by omega
  have j2 : (c : Int) < (st.xs.length : Int) + 1 := by omega
  obtain ⟨last, hlast⟩ : ∃ last, last = if lo' = 0 then o - 1 else o := ⟨_, rfl⟩
  have HLAST := Lib.hid hlast
  have HLX := Lib.hid hl5
  have HR5 := Lib.hid hR5
  have HOL := Lib.hid hoL
  have HCL := Lib.hid hcL
  have HMF : Hid (mtchA ps st o c = { xs := rmZ (rmZ (pairX ps st.xs o c) o) c, ops := fun j => popW last (st.ops j), prs := st.prs ++ [(po, pc, N)] }) := Lib.hid (by
    rw [HM.out]
    have e : (elX (pairX ps st.xs o c) o).left = lo' := hoL
    rw [e, ← hlast])
  clear E8 E9 E10 B9 B10 hX5 hlo6 hlc6 HP1 HP2 hlo' hlc' hlast hl5 hR5 hoL hcL HM HX HX3
  generalize pairX ps st.xs o c = X5 at *
  go_upto_if 134 with fail
  have hbR : base ≤ ((W8.setCell ⟨g6, o * 15 + 12, none⟩ (.int .i64 lo')).setCell ⟨g6, c * 15 + 12, none⟩ (.int .i64 lc')).heap.size := by have := HB10.out.size; omega
  clear z1 z2 z3 z4 z5 z6
  generalize (W8.setCell ⟨g6, o * 15 + 12, none⟩ (.int .i64 lo')).setCell ⟨g6, c * 15 + 12, none⟩ (.int .i64 lc') = W10 at *
  go_cut [10] (fun s10 wx => s10 = .int .i64 (last : Nat) ∧ MidS base p (.slice (some ⟨b, off, none⟩) ps.length cl) (.slice (some ⟨g6, 0, none⟩) (st.xs.length + 1) cap6) vO (.slice (some ⟨g7, 0, none⟩) (st.prs.length + 1) cap7) (fun g' => S g' ∨ (w1.heap.size ≤ g' ∧ g' < W1.heap.size)) w W1 { xs := rmZ X5 o, ops := st.ops, prs := st.prs ++ [(po, pc, N)] } wx)
  case first =>
    by_cases hz : lo' = 0
    · have d1 : ((lo' : Int) == 0) = true := beq_iff_eq.2 (by omega)
      have hl : last = o - 1 := by rw [HLAST.out, if_pos hz]
      have hrm : rmZ X5 o = rmX X5 o := by unfold rmZ; rw [if_pos (by rw [← hz]; exact HOL.out)]
      obtain ⟨nb1, nb2⟩ := HR5.out.nb
      have HRM := Lib.hid (e_remove W10 HE10.out hbR o (by show o < X5.length; rw [HLX.out]; omega) nb1 nb2)
      have HL := Lib.hid hl
      have HRX := Lib.hid hrm
      clear hz hl hrm nb1 nb2
      go_wp2_with fail
      ((with_reducible refine HRM.out.mono ?_))
      rintro e W11 ⟨v11, rfl, E11, B11, K11⟩
      have HK11 := Lib.hid K11
      clear K11
      have HE11 := Lib.hid E11
      have HB11 := Lib.hid B11
      clear E11 B11 HRM
      go_wp2_with fail
      go_meet
      exact ⟨by rw [HL.out], v11, by rw [HRX.out]; exact HE11.out, HB10.out.trans HB11.out, fun q hq => (HK11.out q hq).trans (HKP10.out q hq)⟩
    · have d1 : ((lo' : Int) == 0) = false := beq_eq_false_iff_ne.2 (by omega)
      have hl : last = o := by rw [HLAST.out, if_neg hz]
      have hrm : rmZ X5 o = X5 := by unfold rmZ; rw [if_neg (fun h => hz (by rw [← HOL.out]; exact h))]
      have HL := Lib.hid hl
      have HRX := Lib.hid hrm
      clear hl hrm
      go_wp2_with fail
      go_meet
      exact ⟨by rw [HL.out], v10, by rw [HRX.out]; exact HE10.out, HB10.out, HKP10.out⟩
  case rest =>
  obtain ⟨rfl, v11, E11, B11, K11⟩ := hcut
  have HKP11 := Lib.hid K11
  clear K11
  have hl6 : (rmZ X5 o).length = st.xs.length + 1 := by rw [len_rmZ, HLX.out]
  have hc6 : lfX (rmZ X5 o) c = lc' := by rw [(core_eq (core_rmZ X5 o c)).2.2.2]; exact HCL.out
  obtain ⟨A6, hR6, -⟩ := RingI.rmZ HR5.out
  have hR6' : RingI (rmZ X5 o) ((A6 ++ [st.xs.length]) ++ c :: []) := by simpa using hR6
  have z1 := E11.cel.c1
  obtain ⟨-, z3', -, -⟩ := E11.at_ c (by show c < (rmZ X5 o).length; omega)
  have z3 : wc.cell? ⟨g6, c * 15 + 12, none⟩ = some (.int .i64 (lc' : Nat)) := by rw [z3']; exact congrArg (fun x : Nat => some (Value.int .i64 (x : Int))) hc6
  clear z3'
  have hbR2 : base ≤ wc.heap.size := by have := B11.size; omega
  have HE11 := Lib.hid E11
  have HB11 := Lib.hid B11
  have HR6 := Lib.hid hR6'
  have HC6 := Lib.hid hc6
  have HL6 := Lib.hid hl6
  clear E11 B11 hR6 hR6' hc6 hl6 HE10 HB10
  generalize rmZ X5 o = X6 at *
  go_upto_if 148 with fail
  clear z1 z3
  go_cut [] (fun wx => MidS base p (.slice (some ⟨b, off, none⟩) ps.length cl) (.slice (some ⟨g6, 0, none⟩) (st.xs.length + 1) cap6) vO (.slice (some ⟨g7, 0, none⟩) (st.prs.length + 1) cap7) (fun g' => S g' ∨ (w1.heap.size ≤ g' ∧ g' < W1.heap.size)) w W1 { xs := rmZ X6 c, ops := st.ops, prs := st.prs ++ [(po, pc, N)] } wx)
  case first =>
    by_cases hz : lc' = 0
    · have d1 : ((lc' : Int) == 0) = true := beq_iff_eq.2 (by omega)
      have hrm : rmZ X6 c = rmX X6 c := by unfold rmZ; rw [if_pos (by rw [← hz]; exact HC6.out)]
      obtain ⟨nb1, nb2⟩ := HR6.out.nb
      have HRM := Lib.hid (e_remove wc HE11.out hbR2 c (by show c < X6.length; rw [HL6.out]; omega) nb1 nb2)
      have HRX := Lib.hid hrm
      clear hz hrm nb1 nb2
      go_wp2_with fail
      ((with_reducible refine HRM.out.mono ?_))
      rintro e W12 ⟨v12, rfl, E12, B12, K12⟩
      have HK12 := Lib.hid K12
      clear K12
      have HE12 := Lib.hid E12
      have HB12 := Lib.hid B12
      clear E12 B12 HRM
      go_wp2_with fail
      go_meet
      exact ⟨v12, by rw [HRX.out]; exact HE12.out, HB11.out.trans HB12.out, fun q hq => (HK12.out q hq).trans (HKP11.out q hq)⟩
    · have d1 : ((lc' : Int) == 0) = false := beq_eq_false_iff_ne.2 (by omega)
      have hrm : rmZ X6 c = X6 := by unfold rmZ; rw [if_neg (fun h => hz (by rw [← HC6.out]; exact h))]
      have HRX := Lib.hid hrm
      clear hrm
      go_wp2_with fail
      go_meet
      exact ⟨v11, by rw [HRX.out]; exact HE11.out, HB11.out, HKP11.out⟩
  case rest =>
  rename World => wd
  obtain ⟨v13, E13, B13, K13⟩ := hcut
  have HKP13 := Lib.hid K13
  clear K13
  have HEX := Lib.hid (e_exclude wd E13 last)
  have HB13 := Lib.hid B13
  clear E13 B13 HE11 HB11
  go_wp2_with fail
  ((with_reducible refine HEX.out.mono ?_))
  rintro e W14 ⟨vO', rfl, E14, B14, K14⟩
  have HF : Hid (PairPost base p (.slice (some ⟨b, off, none⟩) ps.length cl) S (mtchA ps st o c) w (.returned (.tuple #[])) W14) := Lib.hid ⟨_, vO', _, (fun g' => S g' ∨ (w1.heap.size ≤ g' ∧ g' < W1.heap.size)), _, rfl, by rw [HMF.out]; exact E14, fun _ h => Or.inl h, HB13.out.trans B14, fun q hq => (K14 q (Or.inl hq)).trans ((HKP13.out q (Or.inl hq)).trans (HKW.out q hq))⟩
  clear E14 B14 HEX K14
  go_wp2_with fail
  go_end0
  exact HF.out

end Go.Proofs.YtfnloonmeilhlaaGreatDoor
