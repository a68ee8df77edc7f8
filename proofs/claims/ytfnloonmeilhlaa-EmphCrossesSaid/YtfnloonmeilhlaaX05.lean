/-
  Texts of the proof, put together (what this law reaches): EmO, EmP, EmQ, EmT, EmV, EmW, EmU.
-/
import Derived.Test.YtfnloonmeilhlaaX04
import Derived.Deep.CutBlock
import Derived.Test.YtfnloonmeilhlaaX02
import Derived.Laws.MakeOwn
set_option linter.unusedVariables false
set_option linter.unusedSimpArgs false
namespace Go.Pub
theorem nodup_le : ∀ (n : Nat) (l : List Nat), l.Nodup → (∀ i ∈ l, i < n) → l.length ≤ n
  | 0, [], _, _ => Nat.le_refl _
  | 0, i :: l, _, h => absurd (h i (by simp)) (by omega)
  | n + 1, l, hn, h => by
    by_cases hm : n ∈ l
    · have h1 := nodup_le n (l.erase n) (hn.erase n) fun i hi => by
        have h2 := h i (List.mem_of_mem_erase hi)
        have h3 := (List.Nodup.mem_erase_iff hn).1 hi
        omega
      rw [List.length_erase_of_mem hm] at h1
      omega
    · have h1 := nodup_le n l hn fun i hi => by
        have h2 := h i hi
        have : i ≠ n := fun e => hm (e ▸ hi)
        omega
      omega
theorem betF_eq {ps : List PcT} {xs : List ElL} {c : Nat} : ∀ (m : List Nat) (a f : Nat), LinkL xs a m c → (∀ i ∈ m, i ≠ c) → m.length ≤ f → betF ps xs c f (elX xs a).next = m.map fun i => toI ps (elX xs i)
  | [], a, 0, _, _, _ => rfl
  | [], a, f + 1, h, _, _ => by
    unfold betF
    rw [if_pos (show (elX xs a).next = c from h.1)]; rfl
  | i :: m, a, 0, _, _, hf => absurd hf (by simp)
  | i :: m, a, f + 1, h, hm, hf => by
    have e : (elX xs a).next = i := h.1
    unfold betF
    rw [e, if_neg (hm i (by simp)), betF_eq m i f h.2.2 (fun j hj => hm j (List.mem_cons_of_mem _ hj)) (by simpa using hf)]
    rfl
theorem RingI.len {xs : List ElL} {ids : List Nat} (h : RingI xs ids) : ids.length + 1 ≤ xs.length := nodup_le xs.length (0 :: ids) h.nd h.bd0
theorem betA_eq {ps : List PcT} {xs : List ElL} {A B : List Nat} {o c : Nat} (h : RingI xs (A ++ o :: (B ++ [c]))) : betA ps xs o c = B.map (fun i => toI ps (elX xs i)) ∧ LinkL xs o B c ∧ (∀ i ∈ B, i ≠ c ∧ i < xs.length) := by
  have hl : LinkL xs o B c := by
    have := (LinkL.app.1 (LinkL.app.1 h.link).2).1
    exact this
  have hn := h.nd
  rw [← List.cons_append, List.nodup_append] at hn
  have hn2 := (List.nodup_cons.1 hn.2.1).2
  rw [List.nodup_append] at hn2
  have hne : ∀ i ∈ B, i ≠ c := fun i hi => hn2.2.2 i hi c (by simp)
  have hlen := h.len
  refine ⟨betF_eq B o _ hl hne (by simp at hlen; omega), hl, fun i hi => ⟨hne i hi, h.bd i (by simp [hi])⟩⟩
end Go.Pub
namespace Go.Proofs.Ytfnloonmeilhlaa
open Go.RowKit Go.Pub
section
variable {w w' : World} {base p : Nat} {L vE vP : Value} {vO : Nat → Value} {S : Nat → Prop} {vs : List (Array Value)} {st : EmS}
theorem trips_snoc (l : List (Nat × Nat × Nat)) (x : Nat × Nat × Nat) : trips (l ++ [x]) = trips l ++ [.int .i64 x.1, .int .i64 x.2.1, .int .i64 x.2.2] := by
  unfold trips; rw [List.flatMap_append]; simp
/-- A match more. -/
theorem EmR.pushP {w2 : World} {x : Nat × Nat × Nat} {g cap H : Nat} (h : EmR w base p L vE vO vP S vs st) (hbase : base ≤ w.heap.size)
    (hown : w2.ownsRow base 30 3 (.slice (some ⟨g, 0, none⟩) (st.prs.length + 1) cap) (st.prs.length + 1) (trips st.prs ++ [.int .i64 x.1, .int .i64 x.2.1, .int .i64 x.2.2])) (hgrow : w.grownBy w2 vP.ownBlock) (hlies : vP.ownBlock = some g ∨ g = H) (hH : w.heap.size ≤ H) :
    EmR (w2.setCell ⟨p, 20, none⟩ (.slice (some ⟨g, 0, none⟩) (st.prs.length + 1) cap)) base p L vE vO (.slice (some ⟨g, 0, none⟩) (st.prs.length + 1) cap) S vs { st with prs := st.prs ++ [x] } ∧
      Below base w (w2.setCell ⟨p, 20, none⟩ (.slice (some ⟨g, 0, none⟩) (st.prs.length + 1) cap)) ∧ ∀ k, S k → (w2.setCell ⟨p, 20, none⟩ (.slice (some ⟨g, 0, none⟩) (st.prs.length + 1) cap)).heap[k]? = w.heap[k]? := by
  have hpl := h.cel.lt
  obtain ⟨cs, hbk, _⟩ := h.cel.blk
  have hEp : vP.ownBlock ≠ some p := own_blk h.prs hbk (by decide)
  have hcel : StC w2 p L vE vO vP := h.cel.keep (hgrow.block p hpl (fun e => hEp e.symm))
  have hrows : ∀ k, S k → (w2.setCell ⟨p, 20, none⟩ (.slice (some ⟨g, 0, none⟩) (st.prs.length + 1) cap)).heap[k]? = w.heap[k]? := fun k hk => by
    obtain ⟨n1, -, -, n4⟩ := h.notS hk
    exact (Below.heap_setCell w2 ⟨p, 20, none⟩ _ k n1).trans (hgrow.block k (h.fro k hk).1 (fun e => n4 e.symm))
  obtain ⟨cs2, hbk2, _⟩ := hcel.blk
  have hkeepO : ∀ {n s : Nat} {t : TypeId} {u : Value} {x' : List Value}, w.ownsRow base t s u n x' → t ≠ 30 → t ≠ 69 → (w2.setCell ⟨p, 20, none⟩ (.slice (some ⟨g, 0, none⟩) (st.prs.length + 1) cap)).ownsRow base t s u n x' := fun ho h1 h2 => by
    have a1 := ho.kept hgrow (own_apart ho h.prs h1)
    have hne := own_blk a1 hbk2 h2
    exact a1.kept (row := some p) ⟨rfl, rfl, rfl, by simp [World.setCell], fun k _ hk => Below.heap_setCell w2 ⟨p, 20, none⟩ _ k (fun e => hk (by rw [e]))⟩ (.inr hne)
  have hgp : g ≠ p := fun e => own_blk hown hbk2 (by decide) (by rw [e]; rfl)
  have hbg : Below base w w2 := ⟨hgrow.os, hgrow.tape, hgrow.output, hgrow.size, fun k hk => hgrow.block k (by omega) (fun e => by have := (h.prs.lt k e.symm).1; omega)⟩
  refine ⟨⟨h.bp, hcel.setP _, hkeepO h.els (by decide) (by decide), h.rep.keep hrows fun _ h => h, fun j hj => hkeepO (h.ops j hj) (by decide) (by decide), ?_, h.apart, h.low, fun k hk => ⟨?_, fun hbk => ?_⟩⟩, hbg.setCell (p := ⟨p, 20, none⟩) h.bp _, hrows⟩
  · show World.ownsRow _ _ _ _ _ (st.prs ++ [x]).length (trips (st.prs ++ [x]))
    rw [List.length_append, List.length_singleton, trips_snoc]
    exact hown.kept (row := some p) ⟨rfl, rfl, rfl, by simp [World.setCell], fun k _ hk => Below.heap_setCell w2 ⟨p, 20, none⟩ _ k (fun e => hk (by rw [e]))⟩ (.inr (fun e => hgp (by simpa [Value.ownBlock] using e)))
  · have := (h.fro k hk).1
    have := hgrow.size
    simp [World.setCell]; omega
  · obtain ⟨n1, n2, n3, n4⟩ := h.notS hk
    refine ⟨n1, n2, n3, fun e => ?_⟩
    have e' : g = k := by simpa [Value.ownBlock] using e
    subst e'
    rcases hlies with hl | hl
    · exact n4 hl
    · have := (h.fro g hk).1; omega
end
/-- The cells of an inline that holds others alone. -/
def inK (k : Int) (A : Option Addr) (n c : Nat) : Array Value := #[.int .i64 k, .string ⟨#[]⟩, .string ⟨#[]⟩, .string ⟨#[]⟩, .string ⟨#[]⟩, .slice none 0 0, .slice none 0 0, .slice none 0 0, .slice none 0 0, .slice A n c]
theorem inK_rep {w : World} {S : Nat → Prop} {B n c : Nat} {A : Option Addr} {vs : List (Array Value)} {l : List InT} (k : Int) (h : RepIs w S vs l) (hown : w.ownsRow B 37 10 (.slice A n c) l.length (vs.flatMap Array.toList)) : RepI w (fun g => S g ∨ (B ≤ g ∧ g < w.heap.size)) (inK k A l.length c) (kidT k l) := by
  have hr : w.ownsRow B 37 10 (.slice A l.length c) l.length (vs.flatMap Array.toList) := by
    rcases hown.2 with ⟨e, h0⟩ | ⟨g', cap', cur, e, _⟩
    · injection e with e1 e2 e3
      rw [h0] at hown ⊢
      rw [e2] at hown
      exact hown
    · injection e with e1 e2 e3
      rw [e2] at hown
      exact hown
  exact .mk k ⟨#[]⟩ ⟨#[]⟩ ⟨#[]⟩ noAt [] [] l none none none none A 0 0 0 0 c vs ReadsS.none_ ReadsS.none_ ReadsS.none_ ReadsS.none_ (h.keep (fun _ _ => rfl) fun _ h => .inl h) ((ReadsS.of_own hr).keep (fun _ _ => rfl) fun _ h => .inr h)
end Go.Proofs.Ytfnloonmeilhlaa
namespace Go.Pub
theorem RingI.nb {xs : List ElL} {l r : List Nat} {i : Nat} (h : RingI xs (l ++ i :: r)) : bf xs i < xs.length ∧ nx xs i < xs.length := by
  obtain ⟨a1, a2⟩ := LinkL.app.1 h.link
  refine ⟨?_, ?_⟩
  · rw [a1.bf_]
    have hl := lastOf_mem l 0
    refine h.bd0 _ ?_
    rcases List.mem_cons.1 hl with e | e
    · rw [e]; simp
    · exact List.mem_cons_of_mem _ (List.mem_append_left _ e)
  · rw [a2.hd]
    cases r with
    | nil => exact h.pos
    | cons b r => exact h.bd b (by simp [hdOr])
theorem RingI.rmZ {xs : List ElL} {l r : List Nat} {k : Nat} (h : RingI xs (l ++ k :: r)) : ∃ l', RingI (rmZ xs k) (l' ++ r) ∧ ((elX xs k).left = 0 → l' = l) := by
  unfold Pub.rmZ
  by_cases hz : (elX xs k).left = 0
  · rw [if_pos hz]; exact ⟨l, h.rm, fun _ => rfl⟩
  · rw [if_neg hz]; exact ⟨l ++ [k], by simpa using h, fun e => absurd e hz⟩
end Go.Pub
namespace Go.Proofs.Ytfnloonmeilhlaa
open Go.RowKit Go.Pub
/-- A state in the midst of a match. -/
def MidS (base p : Nat) (L vE : Value) (vO : Nat → Value) (vP : Value) (S : Nat → Prop) (w0 w1 : World) (st : EmS) (w : World) : Prop := ∃ vs, EmR w base p L vE vO vP S vs st ∧ Below base w0 w ∧ ∀ q, S q → w.heap[q]? = w1.heap[q]?
/-- A state has followed, in more memory. -/
def PairPost (base p : Nat) (L : Value) (S : Nat → Prop) (st' : EmS) (w : World) (e : Ending) (w' : World) : Prop :=
  ∃ vE' vO' vP' S' vs', e = .returned (.tuple #[]) ∧ EmR w' base p L vE' vO' vP' S' vs' st' ∧ (∀ g, S g → S' g) ∧ Below base w w' ∧ ∀ q, S q → w'.heap[q]? = w.heap[q]?
theorem inK_one (k : Int) (A : Option Addr) (n c : Nat) : (inK k A n c).all (·.oneCell') = true := by unfold inK; simp [Value.oneCell']
theorem trip_info : (Try.prog.info? 30).map (fun i => (i.zero, i.size, i.bytes)) = some (some (.agg #[.int .i64 0, .int .i64 0, .int .i64 0]), 3, 24) := by kernel_rfl
set_option maxRecDepth 100000 in
set_option maxHeartbeats 8000000 in
theorem e_pair {base p g n cap : Nat} {L vP : Value} {vO : Nat → Value} {S : Nat → Prop} {vs : List (Array Value)} {st : EmS} {ps : List PcT} {A B : List Nat} {o c : Nat} (w : World) (h : EmR w base p L (.slice (some ⟨g, 0, none⟩) n cap) vO vP S vs st) (hI : RingI st.xs (A ++ o :: (B ++ [c]))) (hL : PcsR w (fun g => g < base) L ps) (hbase : base ≤ w.heap.size)
    (hpo : pX st.xs o < ps.length) (hpc : pX st.xs c < ps.length) (hrun : ∀ i ∈ B, runX st.xs i = true → pX st.xs i < ps.length ∧ (pcX ps (pX st.xs i)).ch.size * lfX st.xs i ≤ 1000000 ∧ lfX st.xs i ≤ 1000000) (hlen : st.xs.length ≤ 200000) (hprs : st.prs.length ≤ 200000)
    (hlo : 1 ≤ lfX st.xs o) (hlc : 1 ≤ lfX st.xs c) (hlo2 : lfX st.xs o ≤ 1000000) (hlc2 : lfX st.xs c ≤ 1000000) :
    Calls Try.prog 48 #[.pointer (some ⟨p, 0, none⟩), .int .i64 o, .int .i64 c] w (PairPost base p L S (mtchA ps st o c) w) := by
  have hn := own_len h.els
  subst hn
  obtain ⟨hbet, hlk, hBm⟩ := betA_eq (ps := ps) hI
  have ho : o < st.xs.length := hI.bd o (by simp)
  have hc : c < st.xs.length := hI.bd c (by simp)
  have hBl : B.length ≤ 1000000 := by have := hI.len; simp at this; omega
  have hoc : o ≠ c := fun e => by
    have hn := hI.nd
    rw [← List.cons_append, List.nodup_append] at hn
    exact (List.nodup_cons.1 hn.2.1).1 (by rw [e]; simp)
  have hLS : PcsR w S L ps := hL.keep (fun _ _ => rfl) h.low
  obtain ⟨b, off, cl, rfl, hSb, hpcs⟩ := hL.opn (by omega)
  obtain ⟨y0, y1, y2, y3, y4, y5, y6, y7, y8, y9, -, hrg, -⟩ := hpcs _ hpc
  have hch0 : w.cell? ⟨b, off + pX st.xs c * 18 + 11, none⟩ = some (.string (pcX ps (pX st.xs c)).ch) := hrg 11 _ rfl
  have c0 : w.cell? ⟨p, 0, none⟩ = some (.slice (some ⟨b, off, none⟩) ps.length cl) := h.cel.c0
  have c1 : w.cell? ⟨p, 1, none⟩ = some (.slice (some ⟨g, 0, none⟩) st.xs.length cap) := h.cel.c1
  obtain ⟨cpo', clo', -, -⟩ := h.at_ o ho
  obtain ⟨cpc', clc', -, -⟩ := h.at_ c hc
  have cpo : w.cell? ⟨g, o * 15 + 11, none⟩ = some (.int .i64 (pX st.xs o : Nat)) := cpo'
  have clo : w.cell? ⟨g, o * 15 + 12, none⟩ = some (.int .i64 (lfX st.xs o : Nat)) := clo'
  have cpc : w.cell? ⟨g, c * 15 + 11, none⟩ = some (.int .i64 (pX st.xs c : Nat)) := cpc'
  have clc : w.cell? ⟨g, c * 15 + 12, none⟩ = some (.int .i64 (lfX st.xs c : Nat)) := clc'
  clear cpo' clo' cpc' clc'
  have HN : Hid (pairN st.xs o c = if 2 ≤ lfX st.xs o ∧ 2 ≤ lfX st.xs c then 2 else 1) := Lib.hid rfl
  have HKd : Hid (pairK ps st.xs o c = if (pcX ps (pX st.xs c)).ch.toList = [126] then 8 else if pairN st.xs o c = 2 then 7 else 6) := Lib.hid rfl
  have HX : Hid (pairX ps st.xs o c = setLf (setLf (insX (setBf (setN st.xs o c) c o) { t := kidT (pairK ps st.xs o c) (betA ps st.xs o c) } c) o ((elX (insX (setBf (setN st.xs o c) c o) { t := kidT (pairK ps st.xs o c) (betA ps st.xs o c) } c) o).left - pairN st.xs o c)) c ((elX (setLf (insX (setBf (setN st.xs o c) c o) { t := kidT (pairK ps st.xs o c) (betA ps st.xs o c) } c) o ((elX (insX (setBf (setN st.xs o c) c o) { t := kidT (pairK ps st.xs o c) (betA ps st.xs o c) } c) o).left - pairN st.xs o c)) c).left - pairN st.xs o c)) := Lib.hid rfl
  have HM : Hid (mtchA ps st o c = { xs := rmZ (rmZ (pairX ps st.xs o c) o) c, ops := fun j => popW (if (elX (pairX ps st.xs o c) o).left = 0 then o - 1 else o) (st.ops j), prs := st.prs ++ [(pX st.xs o, pX st.xs c, pairN st.xs o c)] }) := Lib.hid rfl
  have HBE := Lib.hid fun (w1 : World) (h1 : EmR w1 base p (.slice (some ⟨b, off, none⟩) ps.length cl) (.slice (some ⟨g, 0, none⟩) st.xs.length cap) vO vP S vs st) (h2 : PcsR w1 S (.slice (some ⟨b, off, none⟩) ps.length cl) ps) => e_between w1 h1 h2 o c B ho hlk hBm hrun hBl
  rw [← hbet] at HBE
  have HH := Lib.hid h
  have HLS := Lib.hid hLS
  have HI := Lib.hid hI
  have hbl : b < base := hSb
  clear h hI hLS hL hpcs hrg hlk hBm hrun hbet
  generalize hNN : pairN st.xs o c = N at *
  generalize hKK : pairK ps st.xs o c = KK at *
  generalize hpp : pcX ps (pX st.xs c) = PC at *
  clear hNN hKK hpp
  generalize hlfo : lfX st.xs o = lo at *
  generalize hlfc : lfX st.xs c = lc at *
  generalize hpo' : pX st.xs o = po at *
  generalize hpc' : pX st.xs c = pc at *
  generalize betA ps st.xs o c = kids at *
  have HLO := Lib.hid hlfo
  have HLC := Lib.hid hlfc
  clear hlfo hlfc hpo' hpc'
  obtain ⟨i1, i2, i3, i4, i5, i6⟩ : (o : Int) < (st.xs.length : Int) ∧ (c : Int) < (st.xs.length : Int) ∧ (0 : Int) ≤ (o : Int) ∧ (0 : Int) ≤ (c : Int) ∧ (pc : Int) < (ps.length : Int) ∧ (0 : Int) ≤ (pc : Int) := by omega
  go_enter Try.func48, Try.ntmps48
  go_wp2_with fail
  go_quiet (fail)
  have HBW : Hid (Below w.heap.size w (w.drewN nq)) := Lib.hid (below_drewN (Below.refl _ w) nq)
  have g0 : (w.drewN nq).cell? ⟨p, 0, none⟩ = some (.slice (some ⟨b, off, none⟩) ps.length cl) := c0
  have g1 : (w.drewN nq).cell? ⟨p, 1, none⟩ = some (.slice (some ⟨g, 0, none⟩) st.xs.length cap) := c1
  have g2 : (w.drewN nq).cell? ⟨g, o * 15 + 12, none⟩ = some (.int .i64 (lo : Nat)) := clo
  have g3 : (w.drewN nq).cell? ⟨g, c * 15 + 12, none⟩ = some (.int .i64 (lc : Nat)) := clc
  have g4 : (w.drewN nq).cell? ⟨b, off + pc * 18 + 11, none⟩ = some (.string PC.ch) := hch0
  have hz : (w.drewN nq).heap.size = w.heap.size := rfl
  have HZ := Lib.hid hz
  clear c0 c1 clo clc cpo cpc hch0 hz
  generalize w.drewN nq = w1 at *
  go_upto_region 2 with fail
  go_cut [46] (fun s46 wx => s46 = .bool (decide (N = 2)) ∧ w1 = wx)
  case first =>
    by_cases h1 : 2 ≤ lo
    · have d1 : decide ((lo : Int) ≥ 2) = true := decide_eq_true (by omega)
      by_cases h2 : 2 ≤ lc
      · have d2 : decide ((lc : Int) ≥ 2) = true := decide_eq_true (by omega)
        have hN : N = 2 := by rw [HN.out, if_pos ⟨h1, h2⟩]
        have HN' := Lib.hid hN
        clear hN
        go_wp2_with fail
        go_meet
        exact ⟨by rw [HN'.out]; rfl, rfl⟩
      · have d2 : decide ((lc : Int) ≥ 2) = false := decide_eq_false (by omega)
        have hN : N = 1 := by rw [HN.out, if_neg (by omega)]
        have HN' := Lib.hid hN
        clear hN
        go_wp2_with fail
        go_meet
        exact ⟨by rw [HN'.out]; rfl, rfl⟩
    · have d1 : decide ((lo : Int) ≥ 2) = false := decide_eq_false (by omega)
      have hN : N = 1 := by rw [HN.out, if_neg (by omega)]
      have HN' := Lib.hid hN
      clear hN
      go_wp2_with fail
      go_meet
      exact ⟨by rw [HN'.out]; rfl, rfl⟩
  case rest =>
  obtain ⟨rfl, rfl⟩ := hcut
  go_upto_if 46 with fail
  go_cut [8] (fun s8 wx => s8 = .int .i64 (N : Nat) ∧ w1 = wx)
  case first =>
    by_cases h1 : N = 2
    · have d1 : decide (N = 2) = true := decide_eq_true h1
      have HN' := Lib.hid h1
      clear h1
      go_wp2_with fail
      go_meet
      exact ⟨by rw [HN'.out]; rfl, rfl⟩
    · have d1 : decide (N = 2) = false := decide_eq_false h1
      have hN : N = 1 := by
        have := HN.out
        split at this <;> omega
      have HN' := Lib.hid hN
      clear hN
      go_wp2_with fail
      go_meet
      exact ⟨by rw [HN'.out]; rfl, rfl⟩
  case rest =>
  obtain ⟨rfl, rfl⟩ := hcut
  have hN1 : 1 ≤ N ∧ N ≤ 2 ∧ N ≤ lo ∧ N ≤ lc := by rw [HN.out]; split <;> omega
  go_wp2_with fail
  have hE1 := HH.out.below HBW.out
  ((with_reducible refine (HBE.out w1 hE1 (HLS.out.keep (fun g hg => HBW.out.block g (HH.out.fro g hg).1) fun _ h => h)).mono ?_))
  rintro e W1 ⟨v, vsk, rfl, k1, k2, k3⟩
  obtain ⟨A5, n5, hv5, -, -⟩ := own_form k2
  subst hv5
  have HE1 := Lib.hid (hE1.moreNew k3 (by have := HBW.out.size; omega))
  have HK1 := Lib.hid k1
  have HK2 := Lib.hid k2
  have HK3 := Lib.hid k3
  have HBT : Hid (Below base w W1) := Lib.hid ((HBW.out.mono hbase).trans (k3.mono (by have := HBW.out.size; omega)))
  clear k1 k2 k3 hE1 g1 g2 g3
  have HB6 := Lib.hid fun (k : Int) => inK_one k A5 kids.length n5
  have hE2 := HE1.out
  have c0 := hE2.cel.c0
  have hbW : b < W1.heap.size := by have := HBT.out.size; omega
  have hch : W1.cell? ⟨b, off + pc * 18 + 11, none⟩ = some (.string PC.ch) := (HK3.out.cell (p := ⟨b, off + pc * 18 + 11, none⟩) (by show b < w1.heap.size; have := HBW.out.size; omega)).trans g4
  have hpW := hE2.cel.lt
  clear hE2 g4 g0
  go_upto_block 0 with (refine wpList_store_row rfl 37 (.tmp 9) (.tmp 51) rfl W1.heap.size (inK 6 A5 kids.length n5) rfl rfl 37 _ (Blk.new _ _ _) inl_size (by rfl) (HB6.out 6) ?_; rw [World.setRow_alloc_new]; simp only [Act.put])
  have X0 : Hid (Blk (W1.alloc (.cells (inK 6 A5 kids.length n5) 37)) W1.heap.size 37 (inK 6 A5 kids.length n5) ∧ Below W1.heap.size W1 (W1.alloc (.cells (inK 6 A5 kids.length n5) 37))) := Lib.hid ⟨Blk.new _ _ _, (Below.refl _ W1).alloc (Nat.le_refl _) _⟩
  have c0' : (W1.alloc (.cells (inK 6 A5 kids.length n5) 37)).cell? ⟨p, 0, none⟩ = some (.slice (some ⟨b, off, none⟩) ps.length cl) := (World.cell?_alloc_lt W1 _ ⟨p, 0, none⟩ hpW).trans c0
  have hch' : (W1.alloc (.cells (inK 6 A5 kids.length n5) 37)).cell? ⟨b, off + pc * 18 + 11, none⟩ = some (.string PC.ch) := (World.cell?_alloc_lt W1 _ ⟨b, off + pc * 18 + 11, none⟩ hbW).trans hch
  clear c0 hch
  generalize W1.alloc (.cells (inK 6 A5 kids.length n5) 37) = W2 at *
  go_cut [] (fun wx => Blk wx W1.heap.size 37 (inK KK A5 kids.length n5) ∧ Below W1.heap.size W1 wx)
  case first =>
    obtain ⟨x0, x00⟩ := X0.out
    have x1 := x0.frozen 0
    have x2 : W2.cell? ⟨W1.heap.size, 0, none⟩ = some (.int .i64 6) := x0.cell 0
    have HB := Lib.hid fun (k : Int) (hk : KK = k) => (show Blk (W2.setCell ⟨W1.heap.size, 0, none⟩ (.int .i64 k)) W1.heap.size 37 (inK KK A5 kids.length n5) ∧ Below W1.heap.size W1 (W2.setCell ⟨W1.heap.size, 0, none⟩ (.int .i64 k)) by
      subst hk
      exact ⟨x0.set_ 0 (.int .i64 KK), x00.setCell (p := ⟨W1.heap.size, 0, none⟩) (Nat.le_refl _) _⟩)
    have HB6 : Hid (KK = 6 → Blk W2 W1.heap.size 37 (inK KK A5 kids.length n5) ∧ Below W1.heap.size W1 W2) := Lib.hid fun hk => by subst hk; exact ⟨x0, x00⟩
    clear x0 x00
    by_cases ht : PC.ch.toList = [126]
    · have d1 : (PC.ch.toList == [126]) = true := beq_iff_eq.2 ht
      have HF := Lib.hid (HB.out 8 (by rw [HKd.out, if_pos ht]))
      clear ht HB HB6
      go_wp2_with fail
      go_meet
      exact HF.out
    · have d1 : (PC.ch.toList == [126]) = false := beq_eq_false_iff_ne.2 ht
      by_cases h2 : N = 2
      · have d2 : ((N : Int) == 2) = true := beq_iff_eq.2 (by omega)
        have HF := Lib.hid (HB.out 7 (by rw [HKd.out, if_neg ht, if_pos h2]))
        clear h2 HB HB6
        go_wp2_with fail
        go_meet
        exact HF.out
      · have d2 : ((N : Int) == 2) = false := beq_eq_false_iff_ne.2 (by omega)
        have HF := Lib.hid (HB6.out (by rw [HKd.out, if_neg ht, if_neg h2]))
        clear HB HB6
        go_wp2_with fail
        go_meet
        exact HF.out
  case rest =>
  obtain ⟨q1, q2⟩ := hcut
  have hE3 := HE1.out.below q2
  have hI3 : RepI wc (fun g' => S g' ∨ (w1.heap.size ≤ g' ∧ g' < W1.heap.size)) (inK KK A5 kids.length n5) (kidT KK kids) := (inK_rep KK HK1.out HK2.out).keep (fun g' hg' => q2.block g' (by
    rcases hg' with h | h
    · have := (HH.out.fro g' h).1; have := HBW.out.size; have := HK3.out.size; omega
    · exact h.2)) fun _ h => h
  clear c0' hch' X0
  obtain ⟨⟨v4, e4⟩, b4, kp4⟩ := hE3.stN o c (by omega)
  obtain ⟨⟨v5, e5⟩, b5, kp5⟩ := e4.stB c o (by show c < (setN _ _ _).length; rw [len_setN]; omega)
  have m1 := hE3.cel.c1
  obtain ⟨-, -, -, mo⟩ := hE3.at_ o (by omega)
  obtain ⟨-, -, mc, -⟩ := hE3.at_ c (by omega)
  have fz := hE3.frE
  have hne := hE3.ne
  have hne' := hne.symm
  have hgx : W1.heap.size ≠ g := by have := (HH.out.els.lt g rfl).2; have := HBW.out.size; have := HK3.out.size; omega
  have hx5 : Blk ((wc.setCell ⟨g, o * 15 + 14, none⟩ (.int .i64 c)).setCell ⟨g, c * 15 + 13, none⟩ (.int .i64 o)) W1.heap.size 37 (inK KK A5 kids.length n5) := (q1.far (p := ⟨g, o * 15 + 14, none⟩) hgx _).far (p := ⟨g, c * 15 + 13, none⟩) hgx _
  have hI5 := hI3.keep (w' := (wc.setCell ⟨g, o * 15 + 14, none⟩ (.int .i64 c)).setCell ⟨g, c * 15 + 13, none⟩ (.int .i64 o)) (fun g' hg' => (Below.heap_setCell _ ⟨g, c * 15 + 13, none⟩ _ g' (by
    have := (hE3.notS hg').2.1
    exact fun e => this (by rw [e]; rfl))).trans (Below.heap_setCell _ ⟨g, o * 15 + 14, none⟩ _ g' (by
    have := (hE3.notS hg').2.1
    exact fun e => this (by rw [e]; rfl)))) fun _ h => h
  have HX5 : Hid (Blk ((wc.setCell ⟨g, o * 15 + 14, none⟩ (.int .i64 c)).setCell ⟨g, c * 15 + 13, none⟩ (.int .i64 o)) W1.heap.size 37 #[.int .i64 KK, .string ⟨#[]⟩, .string ⟨#[]⟩, .string ⟨#[]⟩, .string ⟨#[]⟩, .slice none 0 0, .slice none 0 0, .slice none 0 0, .slice none 0 0, .slice A5 kids.length n5]) := Lib.hid hx5
  have HE5 := Lib.hid e5
  have HB5 : Hid (Below base w ((wc.setCell ⟨g, o * 15 + 14, none⟩ (.int .i64 c)).setCell ⟨g, c * 15 + 13, none⟩ (.int .i64 o))) := Lib.hid (HBT.out.trans ((q2.mono (by have := HBT.out.size; omega)).trans (b4.trans b5)))
  have HI5 := Lib.hid hI5
  have HKP5 : Hid (∀ q, (S q ∨ (w1.heap.size ≤ q ∧ q < W1.heap.size)) → ((wc.setCell ⟨g, o * 15 + 14, none⟩ (.int .i64 c)).setCell ⟨g, c * 15 + 13, none⟩ (.int .i64 o)).heap[q]? = W1.heap[q]?) := Lib.hid fun q hq => (kp5 q hq).trans ((kp4 q hq).trans (q2.block q (by
    rcases hq with h | h
    · have := (HH.out.fro q h).1; have := HBW.out.size; have := HK3.out.size; omega
    · exact h.2)))
  have HKW : Hid (∀ q, S q → W1.heap[q]? = w.heap[q]?) := Lib.hid fun q hq => (HK3.out.block q (by have := (HH.out.fro q hq).1; have := HBW.out.size; omega)).trans (HBW.out.block q (HH.out.fro q hq).1)
  clear kp4 kp5
  clear hx5 e5 e4 b4 b5 hI5 hI3 hE3 q1 q2
  go_wp2_with (refine wpList_load_row rfl 37 (.tmp 9) rfl W1.heap.size rfl 37 #[.int .i64 KK, .string ⟨#[]⟩, .string ⟨#[]⟩, .string ⟨#[]⟩, .string ⟨#[]⟩, .slice none 0 0, .slice none 0 0, .slice none 0 0, .slice none 0 0, .slice A5 kids.length n5] _ _ HX5.out Try.underlying37 rfl inl_size ?_)
  have HINS : Hid (Calls Try.prog 32 #[.pointer (some ⟨p, 0, none⟩), .agg #[.int .i64 KK, .string ⟨#[]⟩, .string ⟨#[]⟩, .string ⟨#[]⟩, .string ⟨#[]⟩, .slice none 0 0, .slice none 0 0, .slice none 0 0, .slice none 0 0, .slice A5 kids.length n5, .bool false, .int .i64 0, .int .i64 0, .int .i64 0, .int .i64 0], .int .i64 c] ((wc.setCell ⟨g, o * 15 + 14, none⟩ (.int .i64 c)).setCell ⟨g, c * 15 + 13, none⟩ (.int .i64 o)) (InsPost base p (.slice (some ⟨b, off, none⟩) ps.length cl) vO vP (fun g' => S g' ∨ (w1.heap.size ≤ g' ∧ g' < W1.heap.size)) { st with xs := setBf (setN st.xs o c) c o } { st with xs := insX (setBf (setN st.xs o c) c o) { t := kidT KK kids } c } ((wc.setCell ⟨g, o * 15 + 14, none⟩ (.int .i64 c)).setCell ⟨g, c * 15 + 13, none⟩ (.int .i64 o)))) :=
    Lib.hid (e_insert ((wc.setCell ⟨g, o * 15 + 14, none⟩ (.int .i64 c)).setCell ⟨g, c * 15 + 13, none⟩ (.int .i64 o)) HE5.out (by have := HB5.out.size; omega) _ _ _ _ _ _ _ _ _ _ (kidT KK kids) false 0 0 0 0 c HI5.out (by show c < (setBf _ _ _).length; rw [len_setBf, len_setN]; omega) (by show bf (setBf _ _ _) c ≤ (setBf _ _ _).length; rw [bf_setBf, len_setBf, len_setN, if_pos ⟨rfl, by omega⟩]; omega) (by show (setBf _ _ _).length ≤ _; rw [len_setBf, len_setN]; omega) { t := kidT KK kids } rfl)
  ((with_reducible refine HINS.out.mono ?_))
  rintro e W6 ⟨vE6, vs6, rfl, f1, f2, f3⟩
  have HKP6 : Hid (∀ q, (S q ∨ (w1.heap.size ≤ q ∧ q < W1.heap.size)) → W6.heap[q]? = W1.heap[q]?) := Lib.hid fun q hq => (f3 q hq).trans (HKP5.out q hq)
  clear f3 HKP5
  have hlX : (insX (setBf (setN st.xs o c) c o) { t := kidT KK kids } c).length = st.xs.length + 1 := by rw [len_ins, len_setBf, len_setN]
  have hcX : ∀ j, j < st.xs.length → lfX (insX (setBf (setN st.xs o c) c o) { t := kidT KK kids } c) j = lfX st.xs j := fun j hj => (core_eq (by rw [core_ins, len_setBf, len_setN, if_neg (by omega), core_setBf, core_setN] : core (insX (setBf (setN st.xs o c) c o) { t := kidT KK kids } c) j = core st.xs j)).2.2.2
  have hlo6 := hcX o (by omega)
  have hlc6 := hcX c (by omega)
  rw [HLO.out] at hlo6
  rw [HLC.out] at hlc6
  obtain ⟨AP, cP, hvP, hlmP, -⟩ := own_form f1.prs
  dsimp only at hvP
  subst hvP
  generalize hX3 : insX (setBf (setN st.xs o c) c o) { t := kidT KK kids } c = X3 at *
  have HX3 := Lib.hid hX3
  clear hX3 hcX
  obtain ⟨g6, cap6, hv6, -, -, hgp6, fz6, -⟩ := f1.row (by show 0 < X3.length; omega)
  dsimp only at hv6
  rw [hlX] at hv6
  subst hv6
  have hp6 := f1.cel.lt
  have m20 : W6.cell? ⟨p, 20, none⟩ = some (.slice AP st.prs.length cP) := f1.cel.cP
  have f20 := f1.cel.frozen 20
  obtain ⟨i0, hi0, hz0, hz1, hz2⟩ := info_parts trip_info
  have hAl : Below W6.heap.size W6 (W6.alloc (.cells #[.int .i64 po, .int .i64 pc, .int .i64 N] 30)) := (Below.refl _ W6).alloc (Nat.le_refl _) _
  have HF1 := Lib.hid f1
  have HAL := Lib.hid hAl
  have HB6' : Hid (Below base w W6) := Lib.hid (HB5.out.trans f2)
  have HPU := Lib.hid fun (W7 : World) (g7 cap7 : Nat) hown hgrow hlies => (f1.below hAl).pushP (w2 := W7) (x := (po, pc, N)) (g := g7) (cap := cap7) (H := W6.heap.size + 1) (by rw [World.size_alloc]; have := HB6'.out.size; omega) hown hgrow hlies (by rw [World.size_alloc]; exact Nat.le_refl _)
  have HNP := Lib.hid fun (W7 : World) (hgrow : (W6.alloc (.cells #[.int .i64 po, .int .i64 pc, .int .i64 N] 30)).grownBy W7 (Value.slice AP st.prs.length cP).ownBlock) => (show W7.cell? ⟨p, 20, none⟩ = some (.slice AP st.prs.length cP) ∧ W7.frozen? ⟨p, 20, none⟩ = false by
    have hne : (Value.slice AP st.prs.length cP).ownBlock ≠ some p := by
      obtain ⟨cs, hbk, _⟩ := f1.cel.blk
      exact own_blk f1.prs hbk (by decide)
    have hb : W7.heap[p]? = W6.heap[p]? := (hgrow.block p (by rw [World.size_alloc]; omega) (fun e => hne e.symm)).trans (hAl.block p hp6)
    exact ⟨(World.cell?_of_block (a := ⟨p, 20, none⟩) hb).trans m20, (World.frozen?_of_block (a := ⟨p, 20, none⟩) hb).trans f20⟩)
  have hWb : base ≤ W6.heap.size := by have := HB6'.out.size; omega
  clear f1 f2 hAl HINS HE5 HB5 HI5 HX5 HE1 HK1 HK2 HK3 HBT HBE m1 mo mc fz
  go_wp2_with (at_builtin; refine wpList_append_lies _ rfl _ _ 28 rfl base 30 i0 _ 3 24 Try.underlying28 hi0 hz0 hz1 hz2 rfl (by decide) _ _ _ rfl (HF1.out.prs.alloc _) ⟨W6.heap.size, 0, none⟩ 1 1 [.int .i64 po, .int .i64 pc, .int .i64 N] rfl rfl ?c1 ?c2 (by decide) ?c3 ?c4 ?c5 (W6.heap.size + 1) ?c6 ?_)
  case c1 => exact World.news_of_block (t := 30) (fr := (0, 0)) (heap_alloc_new W6 _)
  case c2 => simp [Value.oneCell']
  case c3 => unfold maxLen; omega
  case c4 => omega
  case c5 => simp; omega
  case c6 => simp
  intro g7 cap7 W7 hown hgrow hlies hlt7
  obtain ⟨n20, nf20⟩ := HNP.out W7 hgrow
  obtain ⟨p1, p2, p3⟩ := HPU.out W7 g7 cap7 hown hgrow hlies
  have HKP8 : Hid (∀ q, (S q ∨ (w1.heap.size ≤ q ∧ q < W1.heap.size)) → (W7.setCell ⟨p, 20, none⟩ (.slice (some ⟨g7, 0, none⟩) (st.prs.length + 1) cap7)).heap[q]? = W1.heap[q]?) := Lib.hid fun q hq => (p3 q hq).trans ((HAL.out.block q (HF1.out.fro q hq).1).trans (HKP6.out q hq))
  have HP1 := Lib.hid p1
  have HP2 := Lib.hid (HB6'.out.trans ((HAL.out.mono hWb).trans p2))
  clear p1 p2 p3 HKP6 hown hgrow hlies hlt7 HNP HPU HF1 HAL HB6' m20 f20
  go_upto_region 13 with fail
  generalize W7.setCell ⟨p, 20, none⟩ (.slice (some ⟨g7, 0, none⟩) (st.prs.length + 1) cap7) = W8 at *
  obtain ⟨lo', hlo'⟩ : ∃ lo', lo' = lo - N := ⟨_, rfl⟩
  obtain ⟨lc', hlc'⟩ : ∃ lc', lc' = lc - N := ⟨_, rfl⟩
  have s1 : (lo : Int) - (N : Int) = (lo' : Int) := by omega
  have s2 : (lc : Int) - (N : Int) = (lc' : Int) := by omega
  have hX5 : pairX ps st.xs o c = setLf (setLf X3 o lo') c lc' := by
    rw [HX.out]
    have e1 : (elX X3 o).left = lo := hlo6
    rw [e1, ← hlo']
    have e2 : (elX (setLf X3 o lo') c).left = lc := by
      rw [elX_setLf, if_neg (fun h => hoc h.1.symm)]; exact hlc6
    rw [e2, ← hlc']
  have E8 := HP1.out
  have z1 := E8.cel.c1
  obtain ⟨-, z2', -, -⟩ := E8.at_ o (by show o < X3.length; omega)
  obtain ⟨-, z3', -, -⟩ := E8.at_ c (by show c < X3.length; omega)
  have z2 : W8.cell? ⟨g6, o * 15 + 12, none⟩ = some (.int .i64 (lo : Nat)) := by rw [z2']; exact congrArg (fun x : Nat => some (Value.int .i64 (x : Int))) hlo6
  have z3 : W8.cell? ⟨g6, c * 15 + 12, none⟩ = some (.int .i64 (lc : Nat)) := by rw [z3']; exact congrArg (fun x : Nat => some (Value.int .i64 (x : Int))) hlc6
  clear z2' z3'
  have z4 := E8.frE
  have z5 := E8.ne
  have z6 := z5.symm
  obtain ⟨⟨v9, E9⟩, B9, K9⟩ := E8.stL o lo' (by show o < X3.length; omega)
  obtain ⟨⟨v10, E10⟩, B10, K10⟩ := E9.stL c lc' (by show c < (setLf X3 o lo').length; rw [len_setLf]; omega)
  have HE10 : Hid (EmR ((W8.setCell ⟨g6, o * 15 + 12, none⟩ (.int .i64 lo')).setCell ⟨g6, c * 15 + 12, none⟩ (.int .i64 lc')) base p (.slice (some ⟨b, off, none⟩) ps.length cl) (.slice (some ⟨g6, 0, none⟩) (st.xs.length + 1) cap6) vO (.slice (some ⟨g7, 0, none⟩) (st.prs.length + 1) cap7) (fun g' => S g' ∨ (w1.heap.size ≤ g' ∧ g' < W1.heap.size)) v10 { xs := pairX ps st.xs o c, ops := st.ops, prs := st.prs ++ [(po, pc, N)] }) := Lib.hid (by rw [hX5]; exact E10)
  have HB10 : Hid (Below base w ((W8.setCell ⟨g6, o * 15 + 12, none⟩ (.int .i64 lo')).setCell ⟨g6, c * 15 + 12, none⟩ (.int .i64 lc'))) := Lib.hid (HP2.out.trans (B9.trans B10))
  have HKP10 : Hid (∀ q, (S q ∨ (w1.heap.size ≤ q ∧ q < W1.heap.size)) → ((W8.setCell ⟨g6, o * 15 + 12, none⟩ (.int .i64 lo')).setCell ⟨g6, c * 15 + 12, none⟩ (.int .i64 lc')).heap[q]? = W1.heap[q]?) := Lib.hid fun q hq => (K10 q hq).trans ((K9 q hq).trans (HKP8.out q hq))
  clear K9 K10
  have hl5 : (pairX ps st.xs o c).length = st.xs.length + 1 := len_pairX ps st.xs o c
  have hR5 : RingI (pairX ps st.xs o c) (A ++ o :: (st.xs.length :: [c])) := RingI.pairX HI.out
  have hoL : lfX (pairX ps st.xs o c) o = lo' := by rw [hX5]; unfold lfX; rw [elX_setLf, if_neg (fun h => hoc h.1), elX_setLf, if_pos ⟨rfl, by omega⟩]
  have hcL : lfX (pairX ps st.xs o c) c = lc' := by rw [hX5]; unfold lfX; rw [elX_setLf, if_pos ⟨rfl, by rw [len_setLf]; omega⟩]
  have ho1 : 1 ≤ o := by
    have := hR5.two.2.2.2 o (by simp)
    omega
  have s3 : (o : Int) - 1 = ((o - 1 : Nat) : Int) := by omega
  have j1 : (o : Int) < (st.xs.length : Int) + 1 := by omega
  have j2 : (c : Int) < (st.xs.length : Int) + 1 := by omega
  obtain ⟨last, hlast⟩ : ∃ last, last = if lo' = 0 then o - 1 else o := ⟨_, rfl⟩
  have HLAST := Lib.hid hlast
  have HLX := Lib.hid hl5
  have HR5 := Lib.hid hR5
  have HOL := Lib.hid hoL
  have HCL := Lib.hid hcL
  have HMF : Hid (mtchA ps st o c = { xs := rmZ (rmZ (pairX ps st.xs o c) o) c, ops := fun j => popW last (st.ops j), prs := st.prs ++ [(po, pc, N)] }) := Lib.hid (by
    rw [HM.out]
    have e : (elX (pairX ps st.xs o c) o).left = lo' := hoL
    rw [e, ← hlast])
  clear E8 E9 E10 B9 B10 hX5 hlo6 hlc6 HP1 HP2 hlo' hlc' hlast hl5 hR5 hoL hcL HM HX HX3
  generalize pairX ps st.xs o c = X5 at *
  go_upto_if 134 with fail
  have hbR : base ≤ ((W8.setCell ⟨g6, o * 15 + 12, none⟩ (.int .i64 lo')).setCell ⟨g6, c * 15 + 12, none⟩ (.int .i64 lc')).heap.size := by have := HB10.out.size; omega
  clear z1 z2 z3 z4 z5 z6
  generalize (W8.setCell ⟨g6, o * 15 + 12, none⟩ (.int .i64 lo')).setCell ⟨g6, c * 15 + 12, none⟩ (.int .i64 lc') = W10 at *
  go_cut [10] (fun s10 wx => s10 = .int .i64 (last : Nat) ∧ MidS base p (.slice (some ⟨b, off, none⟩) ps.length cl) (.slice (some ⟨g6, 0, none⟩) (st.xs.length + 1) cap6) vO (.slice (some ⟨g7, 0, none⟩) (st.prs.length + 1) cap7) (fun g' => S g' ∨ (w1.heap.size ≤ g' ∧ g' < W1.heap.size)) w W1 { xs := rmZ X5 o, ops := st.ops, prs := st.prs ++ [(po, pc, N)] } wx)
  case first =>
    by_cases hz : lo' = 0
    · have d1 : ((lo' : Int) == 0) = true := beq_iff_eq.2 (by omega)
      have hl : last = o - 1 := by rw [HLAST.out, if_pos hz]
      have hrm : rmZ X5 o = rmX X5 o := by unfold rmZ; rw [if_pos (by rw [← hz]; exact HOL.out)]
      obtain ⟨nb1, nb2⟩ := HR5.out.nb
      have HRM := Lib.hid (e_remove W10 HE10.out hbR o (by show o < X5.length; rw [HLX.out]; omega) nb1 nb2)
      have HL := Lib.hid hl
      have HRX := Lib.hid hrm
      clear hz hl hrm nb1 nb2
      go_wp2_with fail
      ((with_reducible refine HRM.out.mono ?_))
      rintro e W11 ⟨v11, rfl, E11, B11, K11⟩
      have HK11 := Lib.hid K11
      clear K11
      have HE11 := Lib.hid E11
      have HB11 := Lib.hid B11
      clear E11 B11 HRM
      go_wp2_with fail
      go_meet
      exact ⟨by rw [HL.out], v11, by rw [HRX.out]; exact HE11.out, HB10.out.trans HB11.out, fun q hq => (HK11.out q hq).trans (HKP10.out q hq)⟩
    · have d1 : ((lo' : Int) == 0) = false := beq_eq_false_iff_ne.2 (by omega)
      have hl : last = o := by rw [HLAST.out, if_neg hz]
      have hrm : rmZ X5 o = X5 := by unfold rmZ; rw [if_neg (fun h => hz (by rw [← HOL.out]; exact h))]
      have HL := Lib.hid hl
      have HRX := Lib.hid hrm
      clear hl hrm
      go_wp2_with fail
      go_meet
      exact ⟨by rw [HL.out], v10, by rw [HRX.out]; exact HE10.out, HB10.out, HKP10.out⟩
  case rest =>
  obtain ⟨rfl, v11, E11, B11, K11⟩ := hcut
  have HKP11 := Lib.hid K11
  clear K11
  have hl6 : (rmZ X5 o).length = st.xs.length + 1 := by rw [len_rmZ, HLX.out]
  have hc6 : lfX (rmZ X5 o) c = lc' := by rw [(core_eq (core_rmZ X5 o c)).2.2.2]; exact HCL.out
  obtain ⟨A6, hR6, -⟩ := RingI.rmZ HR5.out
  have hR6' : RingI (rmZ X5 o) ((A6 ++ [st.xs.length]) ++ c :: []) := by simpa using hR6
  have z1 := E11.cel.c1
  obtain ⟨-, z3', -, -⟩ := E11.at_ c (by show c < (rmZ X5 o).length; omega)
  have z3 : wc.cell? ⟨g6, c * 15 + 12, none⟩ = some (.int .i64 (lc' : Nat)) := by rw [z3']; exact congrArg (fun x : Nat => some (Value.int .i64 (x : Int))) hc6
  clear z3'
  have hbR2 : base ≤ wc.heap.size := by have := B11.size; omega
  have HE11 := Lib.hid E11
  have HB11 := Lib.hid B11
  have HR6 := Lib.hid hR6'
  have HC6 := Lib.hid hc6
  have HL6 := Lib.hid hl6
  clear E11 B11 hR6 hR6' hc6 hl6 HE10 HB10
  generalize rmZ X5 o = X6 at *
  go_upto_if 148 with fail
  clear z1 z3
  go_cut [] (fun wx => MidS base p (.slice (some ⟨b, off, none⟩) ps.length cl) (.slice (some ⟨g6, 0, none⟩) (st.xs.length + 1) cap6) vO (.slice (some ⟨g7, 0, none⟩) (st.prs.length + 1) cap7) (fun g' => S g' ∨ (w1.heap.size ≤ g' ∧ g' < W1.heap.size)) w W1 { xs := rmZ X6 c, ops := st.ops, prs := st.prs ++ [(po, pc, N)] } wx)
  case first =>
    by_cases hz : lc' = 0
    · have d1 : ((lc' : Int) == 0) = true := beq_iff_eq.2 (by omega)
      have hrm : rmZ X6 c = rmX X6 c := by unfold rmZ; rw [if_pos (by rw [← hz]; exact HC6.out)]
      obtain ⟨nb1, nb2⟩ := HR6.out.nb
      have HRM := Lib.hid (e_remove wc HE11.out hbR2 c (by show c < X6.length; rw [HL6.out]; omega) nb1 nb2)
      have HRX := Lib.hid hrm
      clear hz hrm nb1 nb2
      go_wp2_with fail
      ((with_reducible refine HRM.out.mono ?_))
      rintro e W12 ⟨v12, rfl, E12, B12, K12⟩
      have HK12 := Lib.hid K12
      clear K12
      have HE12 := Lib.hid E12
      have HB12 := Lib.hid B12
      clear E12 B12 HRM
      go_wp2_with fail
      go_meet
      exact ⟨v12, by rw [HRX.out]; exact HE12.out, HB11.out.trans HB12.out, fun q hq => (HK12.out q hq).trans (HKP11.out q hq)⟩
    · have d1 : ((lc' : Int) == 0) = false := beq_eq_false_iff_ne.2 (by omega)
      have hrm : rmZ X6 c = X6 := by unfold rmZ; rw [if_neg (fun h => hz (by rw [← HC6.out]; exact h))]
      have HRX := Lib.hid hrm
      clear hrm
      go_wp2_with fail
      go_meet
      exact ⟨v11, by rw [HRX.out]; exact HE11.out, HB11.out, HKP11.out⟩
  case rest =>
  rename World => wd
  obtain ⟨v13, E13, B13, K13⟩ := hcut
  have HKP13 := Lib.hid K13
  clear K13
  have HEX := Lib.hid (e_exclude wd E13 last)
  have HB13 := Lib.hid B13
  clear E13 B13 HE11 HB11
  go_wp2_with fail
  ((with_reducible refine HEX.out.mono ?_))
  rintro e W14 ⟨vO', rfl, E14, B14, K14⟩
  have HF : Hid (PairPost base p (.slice (some ⟨b, off, none⟩) ps.length cl) S (mtchA ps st o c) w (.returned (.tuple #[])) W14) := Lib.hid ⟨_, vO', _, (fun g' => S g' ∨ (w1.heap.size ≤ g' ∧ g' < W1.heap.size)), _, rfl, by rw [HMF.out]; exact E14, fun _ h => Or.inl h, HB13.out.trans B14, fun q hq => (K14 q (Or.inl hq)).trans ((HKP13.out q (Or.inl hq)).trans (HKW.out q hq))⟩
  clear E14 B14 HEX K14
  go_wp2_with fail
  go_end0
  exact HF.out

end Go.Proofs.Ytfnloonmeilhlaa
namespace Go.Pub
/-- Runs are runs of the pieces, not longer. -/
def RunB (ps : List PcT) (xs : List ElL) : Prop := ∀ x, runX xs x = true → pX xs x < ps.length ∧ runP (pcX ps (pX xs x)) = true ∧ (lfX xs x : Int) ≤ (pcX ps (pX xs x)).n
theorem core_mtch (ps : List PcT) (st : EmS) (o c j : Nat) (ho : o < st.xs.length) (hc : c < st.xs.length) (hne : o ≠ c) :
    core (mtchA ps st o c).xs j = if j = st.xs.length then (kidT (pairK ps st.xs o c) (betA ps st.xs o c), false, 0, 0) else ((elX st.xs j).t, runX st.xs j, pX st.xs j, if j = o ∨ j = c then lfX st.xs j - pairN st.xs o c else lfX st.xs j) := by
  show core (rmZ (rmZ (pairX ps st.xs o c) o) c) j = _
  rw [core_rmZ, core_rmZ, core_pairX ps st.xs o c j ho hc hne]
theorem core_mtch' {ps : List PcT} {st : EmS} {o c j : Nat} (ho : o < st.xs.length) (hc : c < st.xs.length) (hne : o ≠ c) (hj : j ≠ st.xs.length) :
    (elX (mtchA ps st o c).xs j).t = (elX st.xs j).t ∧ runX (mtchA ps st o c).xs j = runX st.xs j ∧ pX (mtchA ps st o c).xs j = pX st.xs j ∧ lfX (mtchA ps st o c).xs j = if j = o ∨ j = c then lfX st.xs j - pairN st.xs o c else lfX st.xs j := by
  have e := core_mtch ps st o c j ho hc hne
  rw [if_neg hj] at e
  unfold core at e
  injection e with e1 e2
  injection e2 with e2 e3
  injection e3 with e3 e4
  exact ⟨e1, e2, e3, e4⟩
theorem core_mtch0 {ps : List PcT} {st : EmS} {o c : Nat} (ho : o < st.xs.length) (hc : c < st.xs.length) (hne : o ≠ c) :
    (elX (mtchA ps st o c).xs st.xs.length).t = kidT (pairK ps st.xs o c) (betA ps st.xs o c) ∧ runX (mtchA ps st o c).xs st.xs.length = false := by
  have e := core_mtch ps st o c st.xs.length ho hc hne
  rw [if_pos rfl] at e
  unfold core at e
  injection e with e1 e2
  injection e2 with e2 e3
  exact ⟨e1, e2⟩
theorem RunB.mtch {ps : List PcT} {st : EmS} {o c : Nat} (h : RunB ps st.xs) (ho : o < st.xs.length) (hc : c < st.xs.length) (hne : o ≠ c) : RunB ps (mtchA ps st o c).xs := by
  intro x hx
  by_cases hj : x = st.xs.length
  · subst hj
    rw [(core_mtch0 ho hc hne).2] at hx; cases hx
  · obtain ⟨-, e2, e3, e4⟩ := core_mtch' (ps := ps) ho hc hne hj
    rw [e2] at hx
    obtain ⟨h1, h2, h3⟩ := h x hx
    rw [e3, e4]
    refine ⟨h1, h2, ?_⟩
    split
    · omega
    · exact h3
theorem core_ins' {xs : List ElL} {e : ElL} {k j : Nat} (hj : j ≠ xs.length) : (elX (insX xs e k) j).t = (elX xs j).t ∧ runX (insX xs e k) j = runX xs j ∧ pX (insX xs e k) j = pX xs j ∧ lfX (insX xs e k) j = lfX xs j := by
  have := core_ins xs e k j
  rw [if_neg hj] at this
  exact core_eq this
theorem core_ins0 {xs : List ElL} {e : ElL} {k : Nat} : (elX (insX xs e k) xs.length).t = e.t ∧ runX (insX xs e k) xs.length = e.run ∧ pX (insX xs e k) xs.length = e.pc ∧ lfX (insX xs e k) xs.length = e.left := by
  have hk := core_ins xs e k xs.length
  rw [if_pos rfl] at hk
  unfold core at hk
  injection hk with h1 h2
  injection h2 with h2 h3
  injection h3 with h3 h4
  exact ⟨h1, h2, h3, h4⟩
theorem RunB.ins {ps : List PcT} {xs : List ElL} {e : ElL} {k : Nat} (h : RunB ps xs) (he : e.run = true → e.pc < ps.length ∧ runP (pcX ps e.pc) = true ∧ (e.left : Int) ≤ (pcX ps e.pc).n) : RunB ps (insX xs e k) := by
  intro x hx
  by_cases hj : x = xs.length
  · subst hj
    obtain ⟨-, e2, e3, e4⟩ := core_ins0 (xs := xs) (e := e) (k := k)
    rw [e2] at hx
    rw [e3, e4]
    exact he hx
  · obtain ⟨-, e2, e3, e4⟩ := core_ins' (e := e) (k := k) hj
    rw [e2] at hx
    rw [e3, e4]
    exact h x hx
theorem runP_spec {p : PcT} (h : runP p = true) : p.kind = 1 ∧ 1 ≤ p.n ∧ p.n ≤ 262144 ∧ (p.ch.toList = [42] ∨ p.ch.toList = [95] ∨ p.ch.toList = [126]) ∧ (p.ch.toList = [126] → p.n = 2) := by
  unfold runP runBit at h
  simp only [Bool.and_eq_true, Bool.or_eq_true, decide_eq_true_eq] at h
  obtain ⟨h1, h2⟩ := h
  rcases h2 with ⟨h2 | h2, h3, h4⟩ | ⟨h2, h3⟩
  · exact ⟨h1, h3, h4, .inl h2, fun e => by rw [h2] at e; exact absurd e (by decide)⟩
  · exact ⟨h1, h3, h4, .inr (.inl h2), fun e => by rw [h2] at e; exact absurd e (by decide)⟩
  · exact ⟨h1, by omega, by omega, .inr (.inr h2), fun _ => h3⟩
theorem runP_size {p : PcT} (h : runP p = true) : p.ch.size = 1 := by
  have hl : p.ch.toList.length = p.ch.size := by rw [Lib.toList_data]; exact Array.length_toList
  obtain ⟨-, -, -, h4, -⟩ := runP_spec h
  rcases h4 with h4 | h4 | h4 <;> (rw [← hl, h4]; rfl)
/-- A closer, the last element, makes matches; L: the elements ahead of it. -/
structure ClI (ps : List PcT) (i c : Nat) (st : EmS) (L : List Nat) : Prop where
  em : EmI ps st (L ++ if lfX st.xs c = 0 then [] else [c])
  rb : RunB ps st.xs
  run : runX st.xs c = true
  pc : pX st.xs c = i
  lt : c < st.xs.length
  no : ∀ j, c ∉ st.ops j
def clO (ps : List PcT) (st : EmS) (c : Nat) : Nat := openA (pcX ps (pX st.xs c)) st.ops (bf st.xs c)
theorem openA_pr {P : PcT} {ops : Nat → List Nat} {pv : Nat} (h : openA P ops pv ≠ 0) : ∃ j, j < 6 ∧ skipK P j = false ∧ openA P ops pv ∈ ops (charNum P.ch * 6 + j) ∧ openA P ops pv ≠ pv := by
  rcases openerF_spec P ops pv 6 with h1 | h1
  · exact absurd h1 h
  · exact h1
theorem ClI.pair {ps : List PcT} {i c : Nat} {st : EmS} {L : List Nat} (h : ClI ps i c st L) (hl : lfX st.xs c ≠ 0) (hR : clO ps st c ≠ 0) :
    ∃ A B L', L = A ++ clO ps st c :: B ∧ B ≠ [] ∧ L' = A ++ (if lfX st.xs (clO ps st c) ≤ pairN st.xs (clO ps st c) c then [] else [clO ps st c]) ++ [st.xs.length] ∧ RingI st.xs (A ++ clO ps st c :: (B ++ [c])) ∧ runX st.xs (clO ps st c) = true ∧ 0 < lfX st.xs (clO ps st c) ∧ clO ps st c < st.xs.length ∧ clO ps st c ≠ c ∧
      ClI ps i c (mtchA ps st (clO ps st c) c) L' ∧ lfX (mtchA ps st (clO ps st c) c).xs c < lfX st.xs c ∧ (mtchA ps st (clO ps st c) c).xs.length = st.xs.length + 1 ∧ (mtchA ps st (clO ps st c) c).prs.length = st.prs.length + 1 := by
  have hem := h.em
  rw [if_neg hl] at hem
  obtain ⟨j, -, -, hj, hne⟩ := openA_pr hR
  obtain ⟨hin, hrun⟩ := hem.ops _ _ hj
  change clO ps st c ∈ _ at hin
  change runX st.xs (clO ps st c) = true at hrun
  change clO ps st c ∈ st.ops _ at hj
  change clO ps st c ≠ bf st.xs c at hne
  have hlt := hem.ring.bd _ hin
  generalize clO ps st c = R at *
  have hRc : R ≠ c := fun e => h.no _ (e ▸ hj)
  rw [List.mem_append, List.mem_singleton] at hin
  rcases hin with hin | hin
  · obtain ⟨A, B, rfl⟩ := List.append_of_mem hin
    rw [List.append_assoc, List.cons_append] at hem
    have hB : B ≠ [] := by
      rintro rfl
      have := (LinkL.app.1 (LinkL.app.1 hem.ring.link).2).1
      exact hne this.2.symm
    have hlR := (hem.run R (by simp) hrun).2
    obtain ⟨e1, e2, e3, e4, e5, e6, e7, e8⟩ := hem.pair hrun h.run h.no
    refine ⟨A, B, _, rfl, hB, rfl, hem.ring, hrun, hlR, hlt, hRc, ⟨?_, h.rb.mtch hlt h.lt hRc, e2, e3.trans h.pc, by rw [e8]; have := h.lt; omega, e7⟩, by omega, e8, ?_⟩
    · have : (if lfX (mtchA ps st R c).xs c = 0 then ([] : List Nat) else [c]) = if lfX st.xs c ≤ pairN st.xs R c then [] else [c] := by
        rw [e4]
        by_cases hz : lfX st.xs c ≤ pairN st.xs R c
        · rw [if_pos (by omega), if_pos hz]
        · rw [if_neg (by omega), if_neg hz]
      rw [this]; exact e1
    · show (st.prs ++ [_]).length = _
      simp
  · exact absurd hin hRc
theorem closeF_zero {ps : List PcT} {c f : Nat} {st : EmS} (h : lfX st.xs c = 0) : closeF ps c f st = st := by
  cases f with
  | zero => rfl
  | succ f => unfold closeF; rw [if_pos (show (elX st.xs c).left = 0 from h)]
theorem closeF_none {ps : List PcT} {c f : Nat} {st : EmS} (h : clO ps st c = 0) : closeF ps c f st = st := by
  cases f with
  | zero => rfl
  | succ f =>
    unfold closeF
    split
    · rfl
    · rw [if_pos (show openA (pcX ps (elX st.xs c).pc) st.ops (elX st.xs c).before = 0 from h)]
theorem closeF_some {ps : List PcT} {c f : Nat} {st : EmS} (hl : lfX st.xs c ≠ 0) (h : clO ps st c ≠ 0) : closeF ps c (f + 1) st = closeF ps c f (mtchA ps st (clO ps st c) c) := by
  conv => lhs; unfold closeF
  rw [if_neg (show ¬ (elX st.xs c).left = 0 from hl), if_neg (show ¬ openA (pcX ps (elX st.xs c).pc) st.ops (elX st.xs c).before = 0 from h)]
  rfl
/-- What is reached by a closer's matches has what each match keeps. -/
theorem closeF_ind {ps : List PcT} {i c : Nat} (P : EmS → List Nat → Prop) (hp : ∀ {st A B R}, ClI ps i c st (A ++ R :: B) → lfX st.xs c ≠ 0 → R = clO ps st c → R ≠ 0 → B ≠ [] → RingI st.xs (A ++ R :: (B ++ [c])) → runX st.xs R = true → 0 < lfX st.xs R → P st (A ++ R :: B) →
      P (mtchA ps st R c) (A ++ (if lfX st.xs R ≤ pairN st.xs R c then [] else [R]) ++ [st.xs.length])) :
    ∀ (f : Nat) (st : EmS) (L : List Nat), ClI ps i c st L → lfX st.xs c ≤ f → P st L → ∃ L', ClI ps i c (closeF ps c f st) L' ∧ P (closeF ps c f st) L' ∧ (lfX (closeF ps c f st).xs c = 0 ∨ clO ps (closeF ps c f st) c = 0)
  | 0, st, L, h, hf, hP => ⟨L, h, hP, .inl (by show lfX st.xs c = 0; omega)⟩
  | f + 1, st, L, h, hf, hP => by
    by_cases hl : lfX st.xs c = 0
    · rw [closeF_zero hl]; exact ⟨L, h, hP, .inl hl⟩
    · by_cases hR : clO ps st c = 0
      · rw [closeF_none hR]; exact ⟨L, h, hP, .inr hR⟩
      · obtain ⟨A, B, L', e1, hB, e2, h1, h2, h3, h4, h5, h6, h7, h8, h9⟩ := h.pair hl hR
        rw [closeF_some hl hR]
        subst e1
        refine closeF_ind P hp f _ L' h6 (by omega) ?_
        rw [e2]
        exact hp h hl rfl hR hB h1 h2 h3 hP
end Go.Pub
namespace Go.Proofs.Ytfnloonmeilhlaa
open Go.RowKit Go.Pub
/-- What holds in the loop. -/
structure ClW (base p : Nat) (L : Value) (S : Nat → Prop) (ps : List PcT) (i c k l : Nat) (st0 : EmS) (w0 wr : World) : Prop where
  ex : ∃ vE vO vP S' vs st ids f, EmR wr base p L vE vO vP S' vs st ∧ ClI ps i c st ids ∧ closeF ps c f st = clsA ps c st0 ∧ lfX st.xs c ≤ f ∧ lfX st.xs c = l ∧ (∀ g, S g → S' g) ∧ st.xs.length + l ≤ k ∧ st.prs.length + l ≤ k
  bel : Below base w0 wr
  kp : ∀ q, S q → wr.heap[q]? = w0.heap[q]?
/-- How much of the closer is left, in memory. -/
def leftW (p c : Nat) (wr : World) : Nat :=
  match wr.cell? ⟨p, 1, none⟩ with
  | some (.slice (some a) _ _) => match wr.cell? ⟨a.block, c * 15 + 12, none⟩ with
    | some (.int _ n) => n.toNat
    | _ => 0
  | _ => 0
theorem leftW_eq {base p c g n cap : Nat} {L vP : Value} {vO : Nat → Value} {S : Nat → Prop} {vs : List (Array Value)} {st : EmS} {w : World} (h : EmR w base p L (.slice (some ⟨g, 0, none⟩) n cap) vO vP S vs st) (hc : c < st.xs.length) : leftW p c w = lfX st.xs c := by
  unfold leftW
  rw [h.cel.c1]
  obtain ⟨-, h2, -, -⟩ := h.at_ c hc
  dsimp only
  rw [h2]
  rfl
set_option maxRecDepth 100000 in
set_option maxHeartbeats 4000000 in
theorem e_closeRun {base p i c k : Nat} {L vE vP : Value} {vO : Nat → Value} {S : Nat → Prop} {vs : List (Array Value)} {st : EmS} {ps : List PcT} {ids : List Nat} (w : World) (h : EmR w base p L vE vO vP S vs st) (hI : ClI ps i c st ids) (hL : PcsR w (fun g => g < base) L ps) (hbase : base ≤ w.heap.size)
    (hk1 : st.xs.length + lfX st.xs c ≤ k) (hk2 : st.prs.length + lfX st.xs c ≤ k) (hk : k ≤ 190000) (hip : i < ps.length) (hn1 : 1 ≤ (pcX ps i).n) (hn2 : (pcX ps i).n ≤ 262144) :
    Calls Try.prog 33 #[.pointer (some ⟨p, 0, none⟩), .int .i64 c] w (PairPost base p L S (clsA ps c st) w) := by
  have H0 : Hid (ClW base p L S ps i c k (lfX st.xs c) st w w) := Lib.hid ⟨⟨vE, vO, vP, S, vs, st, ids, lfX st.xs c, h, hI, rfl, Nat.le_refl _, rfl, fun _ h => h, hk1, hk2⟩, Below.refl _ _, fun _ _ => rfl⟩
  have HL := Lib.hid hL
  have hp0 := h.cel.lt
  clear h hI hL hk1 hk2
  generalize lfX st.xs c = l0 at *
  go_enter Try.func33, Try.ntmps33
  go_wp2_with fail
  go_loopw [4] (fun v4 wr => ∃ l, Hid (ClW base p L S ps i c k l st w wr)) (fun _ wr => leftW p c wr)
  case atStart => exact ⟨l0, H0⟩
  case round =>
    clear H0
    obtain ⟨l, HI⟩ := hrel
    obtain ⟨⟨vE, vO, vP, S', vs, st1, ids1, f, h1, h2, h3, h4, h5, h6, h7, h8⟩, hb, hkp⟩ := HI.out
    have hpos : 0 < st1.xs.length := h2.em.ring.pos
    obtain ⟨g, cap, rfl, -, -, hgp, hfr, -⟩ := h1.row hpos
    have hlt := h2.lt
    have hci : (c : Int) < (st1.xs.length : Int) := by omega
    have m1 := h1.cel.c1
    obtain ⟨-, mc, -, -⟩ := h1.at_ c hlt
    have mc' : wr.cell? ⟨g, c * 15 + 12, none⟩ = some (.int .i64 (l : Nat)) := by rw [mc]; exact congrArg (fun x : Nat => some (Value.int .i64 (x : Int))) h5
    clear mc
    have hms := leftW_eq h1 hlt
    by_cases hl : l = 0
    · have d1 : decide ((l : Int) > 0) = false := decide_eq_false (by omega)
      have HF : Hid (PairPost base p L S (clsA ps c st) w (.returned (.tuple #[])) wr) := Lib.hid ⟨_, _, _, S', _, rfl, by rw [← h3, closeF_zero (by omega)]; exact h1, h6, hb, hkp⟩
      subst hl
      clear h1 h2 h3 h4 h5 h6 h7 h8 hb hkp HI hms d1
      go_wp2_with fail
      go_end0
      exact HF.out
    · have d1 : decide (l > 0) = true := decide_eq_true (by omega)
      have hl0 : lfX st1.xs c ≠ 0 := by omega
      have hbb : base ≤ wr.heap.size := by have := hb.size; omega
      have hLb : PcsR wr (fun g => g < base) L ps := HL.out.keep (fun g hg => hb.block g hg) fun _ h => h
      have HOP : Hid (Calls Try.prog 47 #[.pointer (some ⟨p, 0, none⟩), .int .i64 c] wr fun e w' => e = .returned (.tuple #[.int .i64 (clO ps st1 c : Nat), .bool (decide (0 < clO ps st1 c))]) ∧ Below wr.heap.size wr w') := Lib.hid (by
        have hpc := h2.pc
        exact e_opener wr h1 (hLb.keep (fun _ _ => rfl) h1.low) hbb c hlt (by rw [hpc]; exact hip) (by rw [hpc]; exact hn1) (by rw [hpc]; exact hn2) (fun k x hx => h2.em.ring.bd x (h2.em.ops k x hx).1) (by omega))
      by_cases hR : clO ps st1 c = 0
      · have HF : Hid (∀ W, Below wr.heap.size wr W → PairPost base p L S (clsA ps c st) w (.returned (.tuple #[])) W) := Lib.hid fun W hW => ⟨_, _, _, S', _, rfl, by rw [← h3, closeF_none hR]; exact h1.below hW, h6, hb.trans (hW.mono hbb), fun q hq => (hW.block q (h1.fro q (h6 q hq)).1).trans (hkp q hq)⟩
        rw [hR] at HOP
        clear h1 h2 h3 h4 h5 h6 h7 h8 hb hkp HI hms hLb hR
        go_wp2_with fail
        ((with_reducible refine HOP.out.mono ?_))
        rintro e W2 ⟨rfl, hb2⟩
        have HF2 := Lib.hid (HF.out _ hb2)
        clear hb2 HF HOP
        go_wp2_with fail
        go_end0
        exact HF2.out
      · obtain ⟨A, B, L', e1, hB, e2, q1, q2, q3, q4, q5, q6, q7, q8, q9⟩ := h2.pair hl0 hR
        have hpR := h2.rb _ q2
        have HPA := Lib.hid fun (W : World) (hW : Below wr.heap.size wr W) => e_pair (o := clO ps st1 c) (c := c) W (h1.below hW) q1 (hLb.keep (fun g hg => hW.block g (by omega)) fun _ h => h) (by have := hW.size; omega) hpR.1 (by rw [h2.pc]; exact hip) (fun x hx hr => by
            obtain ⟨r1, r2, r3⟩ := h2.rb x hr
            have r4 := (runP_spec r2).2.2.1
            exact ⟨r1, by rw [runP_size r2]; omega, by omega⟩) (by omega) (by omega) (by omega) (by omega) (by have := (runP_spec hpR.2.1).2.2.1; have := hpR.2.2; omega) (by have := h2.rb c h2.run; have := (runP_spec this.2.1).2.2.1; have := this; omega)
        have HF : Hid (∀ W2 W3, Below wr.heap.size wr W2 → PairPost base p L S' (mtchA ps st1 (clO ps st1 c) c) W2 (.returned (.tuple #[])) W3 → (∃ l, ClW base p L S ps i c k l st w W3) ∧ leftW p c W3 < leftW p c wr) := Lib.hid fun W2 W3 hW2 hP => by
          obtain ⟨vE3, vO3, vP3, S3, vs3, -, f1, f2, f3, f4⟩ := hP
          have hpos3 : 0 < (mtchA ps st1 (clO ps st1 c) c).xs.length := by omega
          obtain ⟨g3, cap3, hv3, -⟩ := f1.row hpos3
          subst hv3
          obtain ⟨f', rfl⟩ : ∃ f', f = f' + 1 := ⟨f - 1, by omega⟩
          refine ⟨⟨_, ⟨_, vO3, vP3, S3, vs3, _, L', f', f1, q6, by rw [← h3, closeF_some hl0 hR], by omega, rfl, fun g hg => f2 g (h6 g hg), by omega, by omega⟩, (hb.trans (hW2.mono hbb)).trans f3, fun q hq => (f4 q (h6 q hq)).trans ((hW2.block q (h1.fro q (h6 q hq)).1).trans (hkp q hq))⟩, ?_⟩
          rw [leftW_eq f1 (by omega), hms]
          exact q7
        obtain ⟨R, hRR⟩ : ∃ R, R = clO ps st1 c := ⟨_, rfl⟩
        rw [← hRR] at HOP HPA HF hR
        have d2 : decide (0 < R) = true := decide_eq_true (by omega)
        clear h1 h2 h3 h4 h5 h6 h7 h8 hb hkp HI hms hLb e1 e2 q1 q2 q3 q4 q5 q6 q7 q8 q9 hpR hRR
        go_wp2_with fail
        ((with_reducible refine HOP.out.mono ?_))
        rintro e W2 ⟨rfl, hb2⟩
        have HPA2 := Lib.hid (HPA.out W2 hb2)
        have HB2 := Lib.hid hb2
        clear hb2 HPA HOP
        go_wp2_with fail
        ((with_reducible refine HPA2.out.mono ?_))
        rintro e W3 hP
        have he : e = .returned (.tuple #[]) := by obtain ⟨_, _, _, _, _, he, _⟩ := hP; exact he
        subst he
        obtain ⟨⟨l', f1⟩, f2⟩ := HF.out W2 W3 HB2.out hP
        have HF1 := Lib.hid f1
        have HF2 := Lib.hid f2
        clear f1 f2 HF hP HPA2 HB2
        go_wp2_with fail
        go_roundw
        case rel => exact ⟨l', HF1⟩
        case measure => exact HF2.out

end Go.Proofs.Ytfnloonmeilhlaa
namespace Go.Pub
/-- The characters of the first runs. -/
def sumN (ps : List PcT) : Nat → Nat
  | 0 => 0
  | k + 1 => sumN ps k + if runP (pcX ps k) = true then (pcX ps k).n.toNat else 0
theorem sumN_le (ps : List PcT) {i j : Nat} (h : i ≤ j) : sumN ps i ≤ sumN ps j := by
  induction h with
  | refl => exact Nat.le_refl _
  | step _ ih => exact Nat.le_trans ih (Nat.le_add_right _ _)
structure MatI (ps : List PcT) (k : Nat) (st : EmS) (ids : List Nat) : Prop where
  em : EmI ps st ids
  rb : RunB ps st.xs
  len : st.xs.length ≤ 1 + k + st.prs.length
  prs : st.prs.length ≤ sumN ps k
theorem MatI.start (ps : List PcT) : MatI ps 0 start0 [] :=
  ⟨EmI.start ps, fun x hx => (by
    unfold runX elX start0 at hx
    cases x with
    | zero => cases hx
    | succ x => cases hx), Nat.le_refl _, Nat.zero_le _⟩
def runE (k n : Nat) : ElL := { run := true, pc := k, left := n }
/-- The state with a run's element. -/
def runS (ps : List PcT) (st : EmS) (k : Nat) : EmS := { st with xs := insX st.xs (runE k (pcX ps k).n.toNat) 0 }
/-- The state with an inline's element. -/
def inlS (ps : List PcT) (st : EmS) (k : Nat) : EmS := { st with xs := insX st.xs { t := (pcX ps k).inl } 0 }
section
variable {ps : List PcT} {k : Nat} {st : EmS} {ids : List Nat}
theorem MatI.run (h : MatI ps k st ids) (hk : k < ps.length) (hp : runP (pcX ps k) = true) : ClI ps k st.xs.length (runS ps st k) ids ∧ lfX (runS ps st k).xs st.xs.length = (pcX ps k).n.toNat ∧ 1 ≤ (pcX ps k).n ∧ (pcX ps k).n ≤ 262144 := by
  obtain ⟨h1, h2, h3, -, -⟩ := runP_spec hp
  obtain ⟨e1, e2, e3, e4⟩ := core_ins0 (xs := st.xs) (e := runE k (pcX ps k).n.toNat) (k := 0)
  have hl : lfX (runS ps st k).xs st.xs.length = (pcX ps k).n.toNat := e4
  refine ⟨⟨?_, h.rb.ins fun _ => ⟨hk, hp, by show ((pcX ps k).n.toNat : Int) ≤ (pcX ps k).n; omega⟩, e2, e3, by show st.xs.length < (insX _ _ _).length; rw [len_ins]; omega, fun j hj => ?_⟩, hl, h2, h3⟩
  · rw [hl, if_neg (by omega)]
    exact h.em.ins (runE k (pcX ps k).n.toNat) fun _ => ⟨hk, by show 0 < (pcX ps k).n.toNat; omega⟩
  · have h4 := (h.em.ops j _ hj).1
    have := h.em.ring.bd _ h4
    omega
theorem MatI.inl (h : MatI ps k st ids) : MatI ps (k + 1) (inlS ps st k) (ids ++ [st.xs.length]) :=
  ⟨h.em.ins _ (fun e => (by cases e)), h.rb.ins (fun e => (by cases e)), by show (insX _ _ _).length ≤ 1 + (k + 1) + st.prs.length; rw [len_ins]; have := h.len; omega, Nat.le_trans h.prs (sumN_le ps (Nat.le_succ k))⟩
theorem MatI.skip (h : MatI ps k st ids) : MatI ps (k + 1) st ids := ⟨h.em, h.rb, by have := h.len; omega, Nat.le_trans h.prs (sumN_le ps (Nat.le_succ k))⟩
/-- A closer's matches, counted. -/
theorem ClI.all {i c : Nat} {L : List Nat} (h : ClI ps i c st L) : ∃ L', ClI ps i c (clsA ps c st) L' ∧ (clsA ps c st).xs.length + st.prs.length = st.xs.length + (clsA ps c st).prs.length ∧ (clsA ps c st).prs.length + lfX (clsA ps c st).xs c ≤ st.prs.length + lfX st.xs c := by
  obtain ⟨L', h1, ⟨h2, h3⟩, -⟩ := closeF_ind (fun s _ => s.xs.length + st.prs.length = st.xs.length + s.prs.length ∧ s.prs.length + lfX s.xs c ≤ st.prs.length + lfX st.xs c) (fun {s A B R} h hl hR hR0 hB _ _ _ hP => by
    subst hR
    obtain ⟨A', B', L', -, -, -, -, -, -, -, -, -, g1, g2, g3⟩ := h.pair hl hR0
    rw [g2, g3]
    omega) (lfX st.xs c) st L h (Nat.le_refl _) ⟨rfl, Nat.le_refl _⟩
  exact ⟨L', h1, h2, h3⟩
/-- The state with a run that can still open. -/
def opnS (ps : List PcT) (st : EmS) (k c : Nat) : EmS := { st with ops := fun j => if j = kindO (pcX ps k) then st.ops j ++ [c] else st.ops j }
theorem ClI.last {i c : Nat} {L : List Nat} (h : ClI ps i c st L) (hl : lfX st.xs c ≠ 0) : ∀ x ∈ L, runX st.xs x = true → x < c := fun x hx hr => by
  have hem := h.em
  rw [if_neg hl] at hem
  exact (List.pairwise_append.1 hem.asc).2.2 x hx c (by simp) hr h.run
theorem ClI.open_ {i c : Nat} {L : List Nat} (h : ClI ps i c st L) (hl : lfX st.xs c ≠ 0) : EmI ps (opnS ps st k c) (L ++ [c]) := by
  have hem := h.em
  rw [if_neg hl] at hem
  refine ⟨hem.ring, hem.run, hem.asc, fun j x hx => ?_, fun j => ?_⟩
  · by_cases hj : j = kindO (pcX ps k)
    · have hx' : x ∈ st.ops j ++ [c] := by
        have : x ∈ (if j = kindO (pcX ps k) then st.ops j ++ [c] else st.ops j) := hx
        rwa [if_pos hj] at this
      rw [List.mem_append, List.mem_singleton] at hx'
      rcases hx' with hx' | rfl
      · exact hem.ops j x hx'
      · exact ⟨by simp, h.run⟩
    · have hx' : x ∈ st.ops j := by
        have : x ∈ (if j = kindO (pcX ps k) then st.ops j ++ [c] else st.ops j) := hx
        rwa [if_neg hj] at this
      exact hem.ops j x hx'
  · show (if j = kindO (pcX ps k) then st.ops j ++ [c] else st.ops j).Pairwise _
    split
    · rw [List.pairwise_append]
      refine ⟨hem.oas j, List.pairwise_singleton _ _, fun a ha b hb => ?_⟩
      rw [List.mem_singleton] at hb
      subst hb
      obtain ⟨m1, m2⟩ := hem.ops j a ha
      rw [List.mem_append, List.mem_singleton] at m1
      rcases m1 with m1 | rfl
      · exact h.last hl a m1 m2
      · exact absurd ha (h.no j)
    · exact hem.oas j
/-- After a run. -/
theorem MatI.after {c : Nat} {L : List Nat} {s2 : EmS} (h0 : MatI ps k st ids) (hp : runP (pcX ps k) = true) (h : ClI ps k c s2 L) (hx : s2.xs.length + st.prs.length = st.xs.length + 1 + s2.prs.length) (hr : s2.prs.length + lfX s2.xs c ≤ st.prs.length + (pcX ps k).n.toNat) :
    ∃ ids', MatI ps (k + 1) (if (pcX ps k).opn = true ∧ 0 < lfX s2.xs c then opnS ps s2 k c else s2) ids' := by
  have hs : sumN ps (k + 1) = sumN ps k + (pcX ps k).n.toNat := by show sumN ps k + (if runP (pcX ps k) = true then _ else 0) = _; rw [if_pos hp]
  have hl := h0.len
  have hq := h0.prs
  by_cases hz : lfX s2.xs c = 0
  · rw [if_neg (by omega)]
    have hem := h.em
    rw [if_pos hz, List.append_nil] at hem
    exact ⟨L, hem, h.rb, by omega, by omega⟩
  · by_cases ho : (pcX ps k).opn = true
    · rw [if_pos ⟨ho, by omega⟩]
      exact ⟨L ++ [c], h.open_ hz, h.rb, by show s2.xs.length ≤ 1 + (k + 1) + s2.prs.length; omega, by show s2.prs.length ≤ _; omega⟩
    · rw [if_neg (fun h => ho h.1)]
      have hem := h.em
      rw [if_neg hz] at hem
      exact ⟨L ++ [c], hem, h.rb, by omega, by omega⟩
end
theorem stepA_run {ps : List PcT} {st : EmS} {k : Nat} (hp : runP (pcX ps k) = true) : stepA ps st k =
    (if (pcX ps k).opn = true ∧ 0 < lfX (if (pcX ps k).clo = true then clsA ps st.xs.length (runS ps st k) else runS ps st k).xs st.xs.length then opnS ps (if (pcX ps k).clo = true then clsA ps st.xs.length (runS ps st k) else runS ps st k) k st.xs.length else (if (pcX ps k).clo = true then clsA ps st.xs.length (runS ps st k) else runS ps st k)) := by
  unfold stepA
  rw [if_pos hp]
  rfl
theorem stepA_inl {ps : List PcT} {st : EmS} {k : Nat} (hp : runP (pcX ps k) = false) (h : (pcX ps k).kind = 0 ∧ ((pcX ps k).inl.kind ≠ 1 ∨ (pcX ps k).inl.text.toList ≠ [])) : stepA ps st k = inlS ps st k := by
  unfold stepA
  rw [if_neg (by rw [hp]; decide), if_pos h]
  rfl
theorem stepA_none {ps : List PcT} {st : EmS} {k : Nat} (hp : runP (pcX ps k) = false) (h : ¬ ((pcX ps k).kind = 0 ∧ ((pcX ps k).inl.kind ≠ 1 ∨ (pcX ps k).inl.text.toList ≠ []))) : stepA ps st k = st := by
  unfold stepA
  rw [if_neg (by rw [hp]; decide), if_neg h]
theorem MatI.step {ps : List PcT} {st : EmS} {k : Nat} {ids : List Nat} (h : MatI ps k st ids) (hk : k < ps.length) : ∃ ids', MatI ps (k + 1) (stepA ps st k) ids' := by
  cases hp : runP (pcX ps k) with
  | true =>
    obtain ⟨c1, c2, c3, c4⟩ := h.run hk hp
    rw [stepA_run hp]
    have hx1 : (runS ps st k).xs.length = st.xs.length + 1 := by unfold runS; rw [len_ins]
    have hp1 : (runS ps st k).prs = st.prs := rfl
    cases hc : (pcX ps k).clo with
    | false =>
      simp only [Bool.false_eq_true, if_false]
      exact h.after hp c1 (by have := congrArg List.length hp1; omega) (by have := congrArg List.length hp1; omega)
    | true =>
      simp only [if_true]
      obtain ⟨L', d1, d2, d3⟩ := c1.all
      rw [hx1, hp1] at d2
      rw [hp1, c2] at d3
      exact h.after hp d1 (by omega) (by omega)
  | false =>
    by_cases hi : (pcX ps k).kind = 0 ∧ ((pcX ps k).inl.kind ≠ 1 ∨ (pcX ps k).inl.text.toList ≠ [])
    · rw [stepA_inl hp hi]; exact ⟨_, h.inl⟩
    · rw [stepA_none hp hi]; exact ⟨_, h.skip⟩
theorem MatI.all (ps : List PcT) : ∀ k, k ≤ ps.length → ∃ ids, MatI ps k (matchF ps k) ids
  | 0, _ => ⟨[], MatI.start ps⟩
  | k + 1, h => by
    obtain ⟨ids, hm⟩ := MatI.all ps k (by omega)
    exact hm.step (by omega)
end Go.Pub
namespace Go.Proofs.Ytfnloonmeilhlaa
open Go.RowKit Go.Pub
def zElem : Array Value := #[.int .i64 0, .string ⟨#[]⟩, .string ⟨#[]⟩, .string ⟨#[]⟩, .string ⟨#[]⟩, .slice none 0 0, .slice none 0 0, .slice none 0 0, .slice none 0 0, .slice none 0 0, .bool false, .int .i64 0, .int .i64 0, .int .i64 0, .int .i64 0]
theorem made15 (n : Nat) : (madeCells zElem ((n + 1) * 15)).toList.take 15 = zElem.toList := by
  unfold madeCells
  rw [Array.toList_map, Array.toList_range, ← List.map_take, List.take_range, Nat.min_eq_left (by omega)]
  rfl
/-- The slice of elements is made. -/
theorem run_elems (n : Nat) (hn : n ≤ 100000) (W : World) : (Instr.makeSlice 63 (.int .i64 1) (.int .i64 ((n : Int) + 1))).run Try.prog W = .ok (.slice (some ⟨W.heap.size, 0, none⟩) 1 (n + 1)) (W.alloc (.cells (madeCells zElem ((n + 1) * 15)) 76)) := by
  obtain ⟨i0, hi0, hz0, hz1, hz2⟩ := info_parts elem_info
  have h := run_make (P := Try.prog) W 63 76 i0 _ Try.underlying63 hi0 hz0 .i64 .i64 1 ((n : Int) + 1) (by omega) (by omega) (by rw [hz2]; omega) (by omega)
  rw [hz1, show ((n : Int) + 1).toNat = n + 1 by omega] at h
  exact h
/-- The cells of a state at the start. -/
def stZ (L : Value) (g n : Nat) : Array Value := #[L, .slice (some ⟨g, 0, none⟩) 1 (n + 1), .slice none 0 0, .slice none 0 0, .slice none 0 0, .slice none 0 0, .slice none 0 0, .slice none 0 0, .slice none 0 0, .slice none 0 0, .slice none 0 0, .slice none 0 0, .slice none 0 0, .slice none 0 0, .slice none 0 0, .slice none 0 0, .slice none 0 0, .slice none 0 0, .slice none 0 0, .slice none 0 0, .slice none 0 0]
theorem EmR.start (w : World) (L : Value) (n : Nat) (hn : n ≤ 100000) :
    EmR ((w.alloc (.cells (madeCells zElem ((n + 1) * 15)) 76)).alloc (.cells (stZ L w.heap.size n) 69)) w.heap.size (w.heap.size + 1) L (.slice (some ⟨w.heap.size, 0, none⟩) 1 (n + 1)) (fun _ => .slice none 0 0) (.slice none 0 0) (fun g => g < w.heap.size) [zElem] start0 := by
  have hb := Blk.new (w.alloc (.cells (madeCells zElem ((n + 1) * 15)) 76)) 69 (stZ L w.heap.size n)
  rw [World.size_alloc] at hb
  have he : Blk ((w.alloc (.cells (madeCells zElem ((n + 1) * 15)) 76)).alloc (.cells (stZ L w.heap.size n) 69)) w.heap.size 76 (madeCells zElem ((n + 1) * 15)) := (Blk.new w _ _).alloc _
  refine ⟨by omega, ⟨⟨_, hb, rfl⟩, hb.cell 0, hb.cell 1, fun j hj => ?_, hb.cell 20⟩, ⟨by rw [List.flatMap_singleton]; rfl, .inr ⟨w.heap.size, n + 1, _, rfl, Nat.le_refl _, he, by show 1 ≤ n + 1; omega, by unfold maxLen; omega, size_madeCells _ _, ?_⟩⟩, ⟨rfl, fun i hi => ?_⟩, fun j hj => World.ownsRow_nil _ _ _ _, World.ownsRow_nil _ _ _ _, fun j k hj hk hjk => .inl rfl, fun g hg => hg, fun g hg => ⟨by rw [World.size_alloc, World.size_alloc]; omega, fun h => absurd hg (by omega)⟩⟩
  · rw [hb.cell (2 + j)]
    have : ∀ j : Fin 18, (stZ L w.heap.size n)[2 + j.1]? = some (.slice none 0 0) := by
      intro j
      match j with
      | ⟨0, _⟩ | ⟨1, _⟩ | ⟨2, _⟩ | ⟨3, _⟩ | ⟨4, _⟩ | ⟨5, _⟩ | ⟨6, _⟩ | ⟨7, _⟩ | ⟨8, _⟩ | ⟨9, _⟩ | ⟨10, _⟩ | ⟨11, _⟩ | ⟨12, _⟩ | ⟨13, _⟩ | ⟨14, _⟩ | ⟨15, _⟩ | ⟨16, _⟩ | ⟨17, _⟩ => rfl
      | ⟨n + 18, h⟩ => exact absurd h (by omega)
    exact this ⟨j, hj⟩
  · rw [List.flatMap_singleton]
    exact made15 n
  · have h0 : i = 0 := by have : i < 1 := hi; omega
    subst h0
    exact ⟨_, RepI.zero _ _, rfl⟩
section
variable {w w' : World} {base p : Nat} {L vE vP : Value} {vO : Nat → Value} {S : Nat → Prop} {vs : List (Array Value)} {st : EmS}
/-- An opener more. -/
theorem EmR.pushO {w2 : World} {x g cap H : Nat} (h : EmR w base p L vE vO vP S vs st) (hbase : base ≤ w.heap.size) (j : Nat) (hj : j < 18)
    (hown : w2.ownsRow base 3 1 (.slice (some ⟨g, 0, none⟩) ((st.ops j).length + 1) cap) ((st.ops j).length + 1) (intsV (st.ops j) ++ [.int .i64 x])) (hgrow : w.grownBy w2 (vO j).ownBlock) (hlies : (vO j).ownBlock = some g ∨ g = H) (hH : w.heap.size ≤ H) :
    EmR (w2.setCell ⟨p, 2 + j, none⟩ (.slice (some ⟨g, 0, none⟩) ((st.ops j).length + 1) cap)) base p L vE (fun i => if i = j then .slice (some ⟨g, 0, none⟩) ((st.ops j).length + 1) cap else vO i) vP S vs { st with ops := fun i => if i = j then st.ops i ++ [x] else st.ops i } ∧
      Below base w (w2.setCell ⟨p, 2 + j, none⟩ (.slice (some ⟨g, 0, none⟩) ((st.ops j).length + 1) cap)) := by
  have hpl := h.cel.lt
  obtain ⟨cs, hbk, _⟩ := h.cel.blk
  have hEp : (vO j).ownBlock ≠ some p := own_blk (h.ops j hj) hbk (by decide)
  have hcel : StC w2 p L vE vO vP := h.cel.keep (hgrow.block p hpl (fun e => hEp e.symm))
  have hrows : ∀ k, S k → (w2.setCell ⟨p, 2 + j, none⟩ (.slice (some ⟨g, 0, none⟩) ((st.ops j).length + 1) cap)).heap[k]? = w.heap[k]? := fun k hk => by
    obtain ⟨n1, -, n3, -⟩ := h.notS hk
    exact (Below.heap_setCell w2 ⟨p, 2 + j, none⟩ _ k n1).trans (hgrow.block k (h.fro k hk).1 (fun e => n3 j hj e.symm))
  obtain ⟨cs2, hbk2, _⟩ := hcel.blk
  have hset : ∀ {n s : Nat} {t : TypeId} {u : Value} {x' : List Value}, w2.ownsRow base t s u n x' → t ≠ 69 → (w2.setCell ⟨p, 2 + j, none⟩ (.slice (some ⟨g, 0, none⟩) ((st.ops j).length + 1) cap)).ownsRow base t s u n x' := fun ho h2 =>
    ho.kept (row := some p) ⟨rfl, rfl, rfl, by simp [World.setCell], fun k _ hk => Below.heap_setCell w2 ⟨p, 2 + j, none⟩ _ k (fun e => hk (by rw [e]))⟩ (.inr (own_blk ho hbk2 h2))
  have hkeepO : ∀ {n s : Nat} {t : TypeId} {u : Value} {x' : List Value}, w.ownsRow base t s u n x' → (u.ownBlock = none ∨ u.ownBlock ≠ (vO j).ownBlock) → t ≠ 69 → (w2.setCell ⟨p, 2 + j, none⟩ (.slice (some ⟨g, 0, none⟩) ((st.ops j).length + 1) cap)).ownsRow base t s u n x' := fun ho h1 h2 => hset (ho.kept hgrow h1) h2
  have hbg : Below base w w2 := ⟨hgrow.os, hgrow.tape, hgrow.output, hgrow.size, fun k hk => hgrow.block k (by omega) (fun e => by have := ((h.ops j hj).lt k e.symm).1; omega)⟩
  have hgw : (vO j).ownBlock = some g ∨ w.heap.size ≤ g := hlies.imp id fun e => by omega
  refine ⟨⟨h.bp, hcel.setO j hj _, hkeepO h.els (own_apart h.els (h.ops j hj) (by decide)) (by decide), h.rep.keep hrows fun _ h => h, fun i hi => ?_, hkeepO h.prs (own_apart h.prs (h.ops j hj) (by decide)) (by decide), fun i k hi hk hne => ?_, h.low, fun k hk => ⟨?_, fun hbk => ?_⟩⟩, hbg.setCell (p := ⟨p, 2 + j, none⟩) h.bp _⟩
  · by_cases hij : i = j
    · subst hij
      show World.ownsRow _ _ _ _ (if i = i then _ else vO i) (if i = i then st.ops i ++ [x] else st.ops i).length (intsV (if i = i then st.ops i ++ [x] else st.ops i))
      rw [if_pos rfl, if_pos rfl, List.length_append, List.length_singleton]
      have : intsV (st.ops i ++ [x]) = intsV (st.ops i) ++ [.int .i64 x] := by unfold intsV; simp
      rw [this]
      exact hset hown (by decide)
    · show World.ownsRow _ _ _ _ (if i = j then _ else vO i) (if i = j then st.ops i ++ [x] else st.ops i).length (intsV (if i = j then st.ops i ++ [x] else st.ops i))
      rw [if_neg hij, if_neg hij]
      exact hkeepO (h.ops i hi) (h.apart i j hi hj hij) (by decide)
  · show (if i = j then Value.slice (some ⟨g, 0, none⟩) ((st.ops j).length + 1) cap else vO i).ownBlock = none ∨ (if i = j then Value.slice (some ⟨g, 0, none⟩) ((st.ops j).length + 1) cap else vO i).ownBlock ≠ (if k = j then Value.slice (some ⟨g, 0, none⟩) ((st.ops j).length + 1) cap else vO k).ownBlock
    have hoth : ∀ q, q < 18 → q ≠ j → (vO q).ownBlock ≠ some g := fun q hq hqj e => by
      rcases hgw with hh | hh
      · rcases h.apart q j hq hj hqj with h1 | h1
        · rw [h1] at e; cases e
        · exact h1 (e.trans hh.symm)
      · have := ((h.ops q hq).lt g e).2; omega
    by_cases hij : i = j
    · rw [if_pos hij, if_neg (by omega)]
      exact .inr fun e => hoth k hk (by omega) e.symm
    · rw [if_neg hij]
      by_cases hkj : k = j
      · rw [if_pos hkj]
        exact .inr (hoth i hi hij)
      · rw [if_neg hkj]; exact h.apart i k hi hk hne
  · have := (h.fro k hk).1
    have := hgrow.size
    simp [World.setCell]; omega
  · obtain ⟨n1, n2, n3, n4⟩ := h.notS hk
    refine ⟨n1, n2, fun i hi => ?_, n4⟩
    show (if i = j then Value.slice (some ⟨g, 0, none⟩) ((st.ops j).length + 1) cap else vO i).ownBlock ≠ some k
    by_cases hij : i = j
    · rw [if_pos hij]
      intro e
      have e' : g = k := by simpa [Value.ownBlock] using e
      subst e'
      rcases hgw with hh | hh
      · exact n3 j hj hh
      · have := (h.fro g hk).1; omega
    · rw [if_neg hij]; exact n3 i hi
end
end Go.Proofs.Ytfnloonmeilhlaa
namespace Go.Proofs.Ytfnloonmeilhlaa
open Go.RowKit Go.Pub
theorem RepI.two {w : World} {S : Nat → Prop} {x0 x1 x2 x3 x4 x5 x6 x7 x8 x9 : Value} {t : InT} (h : RepI w S #[x0, x1, x2, x3, x4, x5, x6, x7, x8, x9] t) : x0 = .int .i64 t.kind ∧ x1 = .string t.text := by
  cases h; exact ⟨rfl, rfl⟩
theorem int_info : (Try.prog.info? 3).map (fun i => (i.zero, i.size, i.bytes)) = some (some (.int .i64 0), 1, 8) := by kernel_rfl
/-- What holds ahead of a piece. -/
structure MatW (base p : Nat) (L : Value) (ps : List PcT) (st : EmS) (k : Nat) (w0 wr : World) : Prop where
  ex : ∃ vE vO vP S' vs ids, EmR wr base p L vE vO vP S' vs st ∧ MatI ps k st ids
  bel : Below base w0 wr
theorem MatW.of {base p : Nat} {L vE vP : Value} {vO : Nat → Value} {S : Nat → Prop} {vs : List (Array Value)} {ps : List PcT} {st1 st2 : EmS} {k : Nat} {w0 w : World} {ids : List Nat} (h : EmR w base p L vE vO vP S vs st1) (e : st2 = st1) (hn : MatI ps k st2 ids) (hb : Below base w0 w) : MatW base p L ps st2 k w0 w :=
  ⟨⟨vE, vO, vP, S, vs, ids, by rw [e]; exact h, hn⟩, hb⟩
/-- A state in memory, and a block that stays. -/
def StB (base p : Nat) (L : Value) (xb : Nat) (cs : Array Value) (w0 : World) (st : EmS) (w : World) : Prop := ∃ vE vO vP S vs, EmR w base p L vE vO vP S vs st ∧ Blk w xb 39 cs ∧ S xb ∧ Below base w0 w
def MatPost (base p : Nat) (L : Value) (st : EmS) (w : World) (e : Ending) (w' : World) : Prop :=
  e = .returned (.pointer (some ⟨p, 0, none⟩)) ∧ Below base w w' ∧ ∃ vE vO vP S vs, EmR w' base p L vE vO vP S vs st
set_option maxRecDepth 100000 in
set_option maxHeartbeats 8000000 in
theorem e_match {L : Value} {ps : List PcT} (w : World) (hL : PcsR w (fun g => g < w.heap.size) L ps) (hlen : ps.length ≤ 30000) (hsum : sumN ps ps.length ≤ 30000) :
    Calls Try.prog 24 #[L] w (MatPost w.heap.size (w.heap.size + 1) L (matchA ps) w) := by
  obtain ⟨A0, c0, vs0, hL0, -⟩ := id hL
  subst hL0
  have HMK := Lib.hid fun W => run_elems ps.length (by omega) W
  have hst := EmR.start w (.slice A0 ps.length c0) ps.length (by omega)
  have H0 : Hid (MatW w.heap.size (w.heap.size + 1) (.slice A0 ps.length c0) ps (matchF ps 0) 0 w ((w.alloc (.cells (madeCells zElem ((ps.length + 1) * 15)) 76)).alloc (.cells (stZ (.slice A0 ps.length c0) w.heap.size ps.length) 69))) := Lib.hid ⟨⟨_, _, _, _, _, [], hst, MatI.start ps⟩, ((Below.refl _ w).alloc (Nat.le_refl _) _).alloc (by simp) _⟩
  have HL := Lib.hid hL
  clear hst hL
  unfold stZ at H0
  have hmk := HMK.out
  go_enter Try.func24, Try.ntmps24
  go_wp2_with fail
  clear hmk
  go_loopw [17] (fun v17 wr => ∃ k : Nat, k ≤ ps.length ∧ v17 = .int .i64 k ∧ Hid (MatW w.heap.size (w.heap.size + 1) (.slice A0 ps.length c0) ps (matchF ps k) k w wr)) (fun v17 _ => ps.length - (intOf v17).toNat)
  case atStart => exact ⟨0, Nat.zero_le _, rfl, H0⟩
  case round =>
    clear H0
    obtain ⟨k, hk, rfl, HI⟩ := hrel
    by_cases hlt : k < ps.length
    · obtain ⟨⟨vE, vO, vP, S', vs, ids, h1, h2⟩, hb⟩ := HI.out
      have hLw : PcsR wr (fun g => g < w.heap.size) (.slice A0 ps.length c0) ps := HL.out.keep (fun g hg => hb.block g hg) fun _ h => h
      obtain ⟨b, off, cl, hLe, hSb, hpc⟩ := hLw.opn (by omega)
      injection hLe with hA0 _ hc0
      subst hA0
      subst hc0
      obtain ⟨x0, x1, x2, x3, x4, x5, x6, x7, x8, x9, hr, hrg, h18⟩ := hpc k hlt
      have HSTEP : Hid (matchF ps (k + 1) = stepA ps (matchF ps k) k) := Lib.hid rfl
      have hnext := h2.step hlt
      have HRUN := Lib.hid fun hp => h2.run hlt hp
      have HKO : Hid (kindO (pcX ps k) = (charNum (pcX ps k).ch * 3 + (pcX ps k).n.toNat % 3) * 2 + (if (pcX ps k).clo = true then 1 else 0)) := Lib.hid rfl
      have HSR := Lib.hid fun hp => stepA_run (ps := ps) (st := matchF ps k) (k := k) hp
      have HSI := Lib.hid fun hp h => stepA_inl (ps := ps) (st := matchF ps k) (k := k) hp h
      have HSN := Lib.hid fun hp h => stepA_none (ps := ps) (st := matchF ps k) (k := k) hp h
      have HOS : Hid (∀ s c, opnS ps s k c = { s with ops := fun j => if j = kindO (pcX ps k) then s.ops j ++ [c] else s.ops j }) := Lib.hid fun _ _ => rfl
      have HRS : Hid (runS ps (matchF ps k) k = { matchF ps k with xs := insX (matchF ps k).xs { run := true, pc := k, left := (pcX ps k).n.toNat } 0 }) := Lib.hid rfl
      have HIS : Hid (inlS ps (matchF ps k) k = { matchF ps k with xs := insX (matchF ps k).xs { t := (pcX ps k).inl } 0 }) := Lib.hid rfl
      have HRP : Hid (runP (pcX ps k) = runBit (pcX ps k).kind (pcX ps k).ch (pcX ps k).n) := Lib.hid rfl
      have HPX : Hid (pcX ps k = pcX ps k) := Lib.hid rfl
      have hs1 := sumN_le ps hk
      have HSM : Hid (runP (pcX ps k) = true → (pcX ps k).n.toNat ≤ 30000) := Lib.hid fun hp => by
        have h := sumN_le ps (show k + 1 ≤ ps.length from hlt)
        rw [show sumN ps (k + 1) = sumN ps k + (if runP (pcX ps k) = true then (pcX ps k).n.toNat else 0) from rfl, if_pos hp] at h
        omega
      have hln := h2.len
      have hpn := h2.prs
      have hbnd : (matchF ps k).xs.length ≤ 70000 ∧ (matchF ps k).prs.length ≤ 30000 := by omega
      generalize hP : pcX ps k = P at *
      generalize matchF ps k = st at *
      obtain ⟨kind, inl, ch, nn, o, cc, im, bg, nd⟩ := P
      try dsimp only at hrg h18 hr
      have hki : (k : Int) < (ps.length : Int) := by omega
      have hk0 : (0 : Int) ≤ (k : Int) := by omega
      have HRG := Lib.hid hrg
      have H18 := Lib.hid h18
      have HR := Lib.hid hr
      have HPX := Lib.hid hP
      have HNX := Lib.hid hnext
      have H1 := Lib.hid h1
      have H2 := Lib.hid h2
      have HB := Lib.hid hb
      have HLW := Lib.hid hLw
      have hcr : w.heap.size ≤ wr.heap.size := hb.size
      have hbw : b < wr.heap.size := by omega
      clear hLw hpc hr hrg h18 hP hnext h1 h2 hb HI hs1 hln hpn
      go_wp2_with (first | (refine wpList_load_mid rfl 39 (.tmp 20) rfl b (off + k * 18) rfl _ _ HRG.out Try.underlying39 rfl pcE_size ?_) | (refine wpList_store_row rfl 39 (.tmp 5) (.tmp 21) rfl wr.heap.size #[.int .i64 kind, x0, x1, x2, x3, x4, x5, x6, x7, x8, x9, .string ch, .int .i64 nn, .bool o, .bool cc, .bool im, .int .i64 bg, .int .i64 nd] rfl rfl 39 _ (Blk.new _ _ _) pcE_size (by rfl) (by simpa using H18.out) ?_; rw [World.setRow_alloc_new]) | (refine wpList_load_row rfl 39 (.tmp 5) rfl wr.heap.size rfl 39 #[.int .i64 kind, x0, x1, x2, x3, x4, x5, x6, x7, x8, x9, .string ch, .int .i64 nn, .bool o, .bool cc, .bool im, .int .i64 bg, .int .i64 nd] _ _ (Blk.new _ _ _) Try.underlying39 rfl pcE_size ?_))
      have hw1 : Below wr.heap.size wr (wr.alloc (.cells #[.int .i64 kind, x0, x1, x2, x3, x4, x5, x6, x7, x8, x9, .string ch, .int .i64 nn, .bool o, .bool cc, .bool im, .int .i64 bg, .int .i64 nd] 39)) := (Below.refl _ wr).alloc (Nat.le_refl _) _
      have hk1 := Blk.new wr 39 #[.int .i64 kind, x0, x1, x2, x3, x4, x5, x6, x7, x8, x9, .string ch, .int .i64 nn, .bool o, .bool cc, .bool im, .int .i64 bg, .int .i64 nd]
      generalize wr.alloc (.cells #[.int .i64 kind, x0, x1, x2, x3, x4, x5, x6, x7, x8, x9, .string ch, .int .i64 nn, .bool o, .bool cc, .bool im, .int .i64 bg, .int .i64 nd] 39) = W1 at *
      ((with_reducible refine (e_isRun _ _ _ _ _ _ _ _ _ _ _ _ _ _ _ _ _ _ _).mono ?_))
      rintro e W2 ⟨rfl, hb2⟩
      have hw2 := hw1.trans (hb2.mono hw1.size)
      have hk2 := hk1.below hb2 hk1.lt
      have hx2 := hk2.lt
      have hE2 := H1.out.moreNew hw2 hcr
      have HW2 := Lib.hid hw2
      have HK2 := Lib.hid hk2
      have HE2 := Lib.hid hE2
      have hz2 := hw2.size
      have hp2 := hE2.cel.lt
      clear hw1 hk1 hb2 hw2 hk2 hE2
      cases hrp : runBit kind ch nn with
      | true =>
        have rp := HRP.out.trans hrp
        obtain ⟨cl1, lf1, n1, n2⟩ := HRUN.out rp
        have hm3 := HSM.out rp
        try dsimp only at n1 n2 lf1 hm3
        obtain ⟨m, rfl⟩ : ∃ m : Nat, nn = m := ⟨nn.toNat, by omega⟩
        rw [Int.toNat_natCast] at lf1 hm3
        have hst1 : runS ps st k = { st with xs := insX st.xs { run := true, pc := k, left := m } 0 } := by rw [HRS.out]; simp only [Int.toNat_natCast]
        have hem := H2.out.em
        have hbf : bf st.xs 0 ≤ st.xs.length := by
          rw [hem.ring.link.bf_]
          exact Nat.le_of_lt (hem.ring.bd0 _ (lastOf_mem _ _))
        have HINS : Hid (Calls Try.prog 32 #[.pointer (some ⟨w.heap.size + 1, 0, none⟩), .agg #[.int .i64 0, .string ⟨#[]⟩, .string ⟨#[]⟩, .string ⟨#[]⟩, .string ⟨#[]⟩, .slice none 0 0, .slice none 0 0, .slice none 0 0, .slice none 0 0, .slice none 0 0, .bool true, .int .i64 k, .int .i64 m, .int .i64 0, .int .i64 0], .int .i64 0] W2 (InsPost w.heap.size (w.heap.size + 1) (.slice (some ⟨b, off, none⟩) ps.length c0) vO vP (fun g => S' g ∨ (wr.heap.size ≤ g ∧ g < W2.heap.size)) st (runS ps st k) W2)) := Lib.hid (by
          rw [hst1]
          exact e_insert W2 HE2.out (by omega) _ _ _ _ _ _ _ _ _ _ zeroT true k m 0 0 0 (RepI.zero _ _) hem.ring.pos hbf (by omega) { run := true, pc := k, left := m } rfl)
        have HCL := Lib.hid cl1
        have HLF := Lib.hid lf1
        have HRPT := Lib.hid rp
        have hl1 : (runS ps st k).xs.length = st.xs.length + 1 := by unfold runS; rw [len_ins]
        have HL1 := Lib.hid hl1
        have k3 := HK2.out.cell 12
        have hcw : (wr.heap.size : Nat) < W2.heap.size := hx2
        have r3 : W2.cell? ⟨wr.heap.size, 12, none⟩ = some (.int .i64 m) := k3
        clear cl1 lf1 rp hst1 hem hbf hl1 k3 hrp
        go_wp2_with fail
        ((with_reducible refine HINS.out.mono ?_))
        rintro e W3 ⟨vE3, vs3, rfl, f1, f2, f3⟩
        have hk3 : Blk W3 wr.heap.size 39 #[.int .i64 kind, x0, x1, x2, x3, x4, x5, x6, x7, x8, x9, .string ch, .int .i64 m, .bool o, .bool cc, .bool im, .int .i64 bg, .int .i64 nd] := (f3 wr.heap.size (Or.inr ⟨Nat.le_refl _, hx2⟩)).trans HK2.out
        have r14 : W3.cell? ⟨wr.heap.size, 14, none⟩ = some (.bool cc) := hk3.cell 14
        have HBW3 : Hid (Below w.heap.size wr W3) := Lib.hid ((HW2.out.mono hcr).trans f2)
        have HF1 := Lib.hid f1
        have HK3 := Lib.hid hk3
        clear f1 f2 f3 hk3 r3 HINS
        go_upto_if 32 with fail
        go_cut [] (fun wx => StB w.heap.size (w.heap.size + 1) (.slice (some ⟨b, off, none⟩) ps.length c0) wr.heap.size #[.int .i64 kind, x0, x1, x2, x3, x4, x5, x6, x7, x8, x9, .string ch, .int .i64 m, .bool o, .bool cc, .bool im, .int .i64 bg, .int .i64 nd] w (if cc = true then clsA ps st.xs.length (runS ps st k) else runS ps st k) wx)
        case first =>
          cases cc with
          | false =>
            go_wp2_with fail
            go_meet
            exact ⟨_, _, _, _, _, HF1.out, HK3.out, Or.inr ⟨Nat.le_refl _, hx2⟩, HB.out.trans HBW3.out⟩
          | true =>
            have HCR := Lib.hid (e_closeRun (k := 190000) W3 HF1.out HCL.out (HLW.out.keep (fun g hg => HBW3.out.block g hg) fun _ h => h) (by have := HBW3.out.size; omega) (by rw [HL1.out, HLF.out]; omega) (by rw [HLF.out]; show st.prs.length + m ≤ _; omega) (by omega) hlt (by rw [HPX.out]; exact n1) (by rw [HPX.out]; exact n2))
            go_wp2_with fail
            ((with_reducible refine HCR.out.mono ?_))
            rintro e W4 ⟨vE4, vO4, vP4, S4, vs4, rfl, g1, g2, g3, g4⟩
            have HF := Lib.hid (show StB w.heap.size (w.heap.size + 1) (.slice (some ⟨b, off, none⟩) ps.length c0) wr.heap.size #[.int .i64 kind, x0, x1, x2, x3, x4, x5, x6, x7, x8, x9, .string ch, .int .i64 m, .bool o, .bool true, .bool im, .int .i64 bg, .int .i64 nd] w (if true = true then clsA ps st.xs.length (runS ps st k) else runS ps st k) W4 from ⟨vE4, vO4, vP4, S4, vs4, g1, (g4 wr.heap.size (Or.inr ⟨Nat.le_refl _, hx2⟩)).trans HK3.out, g2 _ (Or.inr ⟨Nat.le_refl _, hx2⟩), HB.out.trans (HBW3.out.trans g3)⟩)
            clear g1 g2 g3 g4 HCR
            go_wp2_with fail
            go_meet
            exact HF.out
        case rest =>
        obtain ⟨vE5, vO5, vP5, S5, vs5, e5, k5, s5, b5⟩ := hcut
        have hcnt : ∃ L', ClI ps k st.xs.length (if cc = true then clsA ps st.xs.length (runS ps st k) else runS ps st k) L' ∧ (if cc = true then clsA ps st.xs.length (runS ps st k) else runS ps st k).xs.length ≤ 190000 := by
          by_cases hcc : cc = true
          · rw [if_pos hcc]
            obtain ⟨L', d1, d2, d3⟩ := HCL.out.all
            rw [HL1.out] at d2
            rw [HLF.out] at d3
            have : (runS ps st k).prs.length = st.prs.length := rfl
            exact ⟨L', d1, by omega⟩
          · rw [if_neg hcc]; exact ⟨_, HCL.out, by rw [HL1.out]; omega⟩
        have hnx := HSR.out HRPT.out
        try dsimp only at hnx
        generalize (if cc = true then clsA ps st.xs.length (runS ps st k) else runS ps st k) = s2 at *
        obtain ⟨L', hc1, hc2⟩ := hcnt
        have hops : ∀ j, (s2.ops j).length ≤ 190000 := fun j => Nat.le_trans (nodup_le s2.xs.length _ ((hc1.em.oas j).imp fun h => Nat.ne_of_lt h) fun x hx => hc1.em.ring.bd x (hc1.em.ops j x hx).1) hc2
        have hcl := hc1.lt
        obtain ⟨g5, cap5, rfl, -, -, hgp5, fz5, -⟩ := e5.row (by omega)
        have m1 := e5.cel.c1
        obtain ⟨-, mc, -, -⟩ := e5.at_ st.xs.length hcl
        have mc2 : wc.cell? ⟨g5, st.xs.length * 15 + 12, none⟩ = some (.int .i64 (lfX s2.xs st.xs.length : Nat)) := mc
        have r13 : wc.cell? ⟨wr.heap.size, 13, none⟩ = some (.bool o) := k5.cell 13
        have hci : (st.xs.length : Int) < (s2.xs.length : Int) := by omega
        have hc0 : (0 : Int) ≤ (st.xs.length : Int) := by omega
        have HE5 := Lib.hid e5
        have HK5 := Lib.hid k5
        have HB5 := Lib.hid b5
        have HNXT := Lib.hid hnx
        clear mc e5 k5 s5 b5 hc1 hnx r14
        generalize lfX s2.xs st.xs.length = lf at *
        cases o with
        | false =>
          have HF : Hid (MatW w.heap.size (w.heap.size + 1) (.slice (some ⟨b, off, none⟩) ps.length c0) ps (matchF ps (k + 1)) (k + 1) w wc) := Lib.hid (by
            obtain ⟨ids', hn⟩ := HNX.out
            rw [HSTEP.out]
            refine ⟨⟨(.slice (some ⟨g5, 0, none⟩) s2.xs.length cap5), vO5, vP5, S5, vs5, ids', ?_, hn⟩, HB5.out⟩
            rw [HNXT.out]
            simpa using HE5.out)
          go_wp2_with fail
          go_roundw
          case rel => exact ⟨k + 1, by omega, by go_num, HF⟩
          case measure => simp [intOf]; omega
        | true =>
          by_cases hlf : 0 < lf
          · have d1 : decide (lf > 0) = true := decide_eq_true hlf
            have d2 : decide (0 < lf) = true := decide_eq_true hlf
            have HOL := Lib.hid (e_openersLike (w.heap.size + 1) kind (m : Int) x0 x1 x2 x3 x4 x5 x6 x7 x8 x9 ch true cc im bg nd wc n1 n2)
            rw [Int.toNat_natCast] at HOL
            have hj : (charNum ch * 3 + m % 3) * 2 + (if cc = true then 1 else 0) < 18 := by
              have := charNum_lt ch
              split <;> omega
            have hko : kindO ⟨kind, inl, ch, (m : Int), true, cc, im, bg, nd⟩ = (charNum ch * 3 + m % 3) * 2 + (if cc = true then 1 else 0) := by
              rw [HKO.out]; simp only [Int.toNat_natCast]
            have HKO2 := Lib.hid hko
            clear hko
            generalize (charNum ch * 3 + m % 3) * 2 + (if cc = true then 1 else 0) = j at *
            go_wp2_with (refine wpList_load_row rfl 39 (.tmp 5) rfl wr.heap.size rfl 39 #[.int .i64 kind, x0, x1, x2, x3, x4, x5, x6, x7, x8, x9, .string ch, .int .i64 m, .bool true, .bool cc, .bool im, .int .i64 bg, .int .i64 nd] _ _ HK5.out Try.underlying39 rfl pcE_size ?_)
            ((with_reducible refine HOL.out.mono ?_))
            rintro e W6 ⟨rfl, hb6⟩
            have e6 := HE5.out.below hb6
            obtain ⟨AO, cO, hvO, hlmO, -⟩ := own_form (e6.ops j hj)
            have hcO := e6.cel.cO j hj
            have hfO := e6.cel.frozen (2 + j)
            have hoj := hops j
            have hpO : (vO5 j).ownBlock ≠ some (w.heap.size + 1) := by
              obtain ⟨cs, hbk, _⟩ := e6.cel.blk
              exact own_blk (e6.ops j hj) hbk (by decide)
            have hown6 := e6.ops j hj
            have hcb : w.heap.size ≤ W6.heap.size := by have := HB5.out.size; have := hb6.size; omega
            have hAl : Below W6.heap.size W6 (W6.alloc (.cells #[.int .i64 st.xs.length] 3)) := (Below.refl _ W6).alloc (Nat.le_refl _) _
            have HPU := Lib.hid fun (W7 : World) (g7 cap7 : Nat) hown hgrow hlies => (e6.below hAl).pushO (w2 := W7) (x := st.xs.length) (g := g7) (cap := cap7) (H := W6.heap.size + 1) (by rw [World.size_alloc]; omega) j hj hown hgrow hlies (by rw [World.size_alloc]; exact Nat.le_refl _)
            have hp6 := e6.cel.lt
            have HNP := Lib.hid fun (W7 : World) (hgrow : (W6.alloc (.cells #[.int .i64 st.xs.length] 3)).grownBy W7 (vO5 j).ownBlock) => (show W7.cell? ⟨w.heap.size + 1, 2 + j, none⟩ = some (vO5 j) ∧ W7.frozen? ⟨w.heap.size + 1, 2 + j, none⟩ = false by
              have hb : W7.heap[w.heap.size + 1]? = W6.heap[w.heap.size + 1]? := (hgrow.block _ (by rw [World.size_alloc]; omega) (fun e => hpO e.symm)).trans (hAl.block _ hp6)
              exact ⟨(World.cell?_of_block (a := ⟨w.heap.size + 1, 2 + j, none⟩) hb).trans hcO, (World.frozen?_of_block (a := ⟨w.heap.size + 1, 2 + j, none⟩) hb).trans hfO⟩)
            have HB6 := Lib.hid (HB5.out.trans ((hb6.mono (by have := HB5.out.size; omega)).trans (hAl.mono hcb)))
            rw [hvO] at hcO HNP HPU hown6
            obtain ⟨i0, hi0, hz0, hz1, hz2'⟩ := info_parts int_info
            have HOW := Lib.hid hown6
            clear e6 hb6 hAl hvO hown6
            go_wp2_with (at_builtin; refine wpList_append_lies _ rfl _ _ 64 rfl w.heap.size 3 i0 _ 1 8 Try.underlying64 hi0 hz0 hz1 hz2' rfl (by decide) _ _ _ rfl (HOW.out.alloc _) ⟨W6.heap.size, 0, none⟩ 1 1 [.int .i64 st.xs.length] rfl rfl ?c1 ?c2 (by decide) ?c3 ?c4 ?c5 (W6.heap.size + 1) ?c6 ?_)
            case c1 => exact World.news_of_block (t := 3) (fr := (0, 0)) (heap_alloc_new W6 _)
            case c2 => simp [Value.oneCell']
            case c3 => unfold maxLen; omega
            case c4 => omega
            case c5 => simp; omega
            case c6 => simp
            intro g7 cap7 W7 hown hgrow hlies hlt7
            obtain ⟨n20, nf20⟩ := HNP.out W7 hgrow
            obtain ⟨p1, p2⟩ := HPU.out W7 g7 cap7 hown hgrow hlies
            have HF : Hid (MatW w.heap.size (w.heap.size + 1) (.slice (some ⟨b, off, none⟩) ps.length c0) ps (matchF ps (k + 1)) (k + 1) w (W7.setCell ⟨w.heap.size + 1, 2 + j, none⟩ (.slice (some ⟨g7, 0, none⟩) ((s2.ops j).length + 1) cap7))) := Lib.hid (by
              obtain ⟨ids', hn⟩ := HNX.out
              rw [HSTEP.out]
              exact MatW.of p1 (by rw [HNXT.out, if_pos (by simp [hlf]), HOS.out, HKO2.out]) hn (HB6.out.trans p2))
            clear p1 p2 hown hgrow hlies hlt7 HPU HNP
            go_wp2_with fail
            go_roundw
            case rel => exact ⟨k + 1, by omega, by go_num, HF⟩
            case measure => simp [intOf]; omega
          · have d1 : decide (lf > 0) = false := decide_eq_false hlf
            have d2 : decide (0 < lf) = false := decide_eq_false hlf
            have HF : Hid (MatW w.heap.size (w.heap.size + 1) (.slice (some ⟨b, off, none⟩) ps.length c0) ps (matchF ps (k + 1)) (k + 1) w wc) := Lib.hid (by
              obtain ⟨ids', hn⟩ := HNX.out
              rw [HSTEP.out]
              refine ⟨⟨(.slice (some ⟨g5, 0, none⟩) s2.xs.length cap5), vO5, vP5, S5, vs5, ids', ?_, hn⟩, HB5.out⟩
              rw [HNXT.out, if_neg (fun h => hlf h.2)]
              exact HE5.out)
            go_wp2_with fail
            go_roundw
            case rel => exact ⟨k + 1, by omega, by go_num, HF⟩
            case measure => simp [intOf]; omega
      | false =>
        have rp := HRP.out.trans hrp
        obtain ⟨ex0, ex1⟩ := RepI.two HR.out
        subst ex0
        subst ex1
        have HRPF := Lib.hid rp
        have r0 : W2.cell? ⟨wr.heap.size, 0, none⟩ = some (.int .i64 kind) := HK2.out.cell 0
        have r1 : W2.cell? ⟨wr.heap.size, 1, none⟩ = some (.int .i64 inl.kind) := HK2.out.cell 1
        have r2 : W2.cell? ⟨wr.heap.size, 2, none⟩ = some (.string inl.text) := HK2.out.cell 2
        have HNO : Hid (¬ (kind = 0 ∧ (inl.kind ≠ 1 ∨ inl.text.toList ≠ [])) → MatW w.heap.size (w.heap.size + 1) (.slice (some ⟨b, off, none⟩) ps.length c0) ps (matchF ps (k + 1)) (k + 1) w W2) := Lib.hid fun hn0 => by
          obtain ⟨ids', hn⟩ := HNX.out
          rw [HSTEP.out]
          exact MatW.of HE2.out (HSN.out HRPF.out hn0) hn (HB.out.trans (HW2.out.mono hcr))
        have HYES : Hid (kind = 0 ∧ (inl.kind ≠ 1 ∨ inl.text.toList ≠ []) → Calls Try.prog 32 #[.pointer (some ⟨w.heap.size + 1, 0, none⟩), .agg #[.int .i64 inl.kind, .string inl.text, x2, x3, x4, x5, x6, x7, x8, x9, .bool false, .int .i64 0, .int .i64 0, .int .i64 0, .int .i64 0], .int .i64 0] W2 fun e w' => e = .returned (.int .i64 (st.xs.length : Nat)) ∧ MatW w.heap.size (w.heap.size + 1) (.slice (some ⟨b, off, none⟩) ps.length c0) ps (matchF ps (k + 1)) (k + 1) w w') := Lib.hid fun hy => by
          have hem := H2.out.em
          have hbf : bf st.xs 0 ≤ st.xs.length := by
            rw [hem.ring.link.bf_]
            exact Nat.le_of_lt (hem.ring.bd0 _ (lastOf_mem _ _))
          have hri := HR.out.keep (fun g hg => HW2.out.block g (by omega)) fun g hg => H1.out.low g hg
          have hin := e_insert W2 HE2.out (by omega) _ _ _ _ _ _ _ _ _ _ inl false 0 0 0 0 0 (hri.keep (fun _ _ => rfl) fun g hg => Or.inl hg) hem.ring.pos hbf (by omega) { t := inl } rfl
          refine hin.mono fun e w' hP => ?_
          obtain ⟨vE3, vs3, he, f1, f2, f3⟩ := hP
          obtain ⟨ids', hn⟩ := HNX.out
          refine ⟨he, ?_⟩
          rw [HSTEP.out]
          exact MatW.of f1 ((HSI.out HRPF.out hy).trans HIS.out) hn (HB.out.trans ((HW2.out.mono hcr).trans f2))
        have HRG1 : Hid (W2.rangeAt wr.heap.size 1 [.int .i64 inl.kind, .string inl.text, x2, x3, x4, x5, x6, x7, x8, x9]) := Lib.hid fun j u hj => by
          have hj10 := (List.getElem?_eq_some_iff.1 hj).1
          simp only [List.length_cons, List.length_nil] at hj10
          rw [HK2.out.cell (1 + j), ← hj, ← Array.getElem?_toList, Nat.add_comm 1 j]
          exact (List.getElem?_append_left (l₁ := [.int .i64 inl.kind, .string inl.text, x2, x3, x4, x5, x6, x7, x8, x9]) (l₂ := [.string ch, .int .i64 nn, .bool o, .bool cc, .bool im, .int .i64 bg, .int .i64 nd]) (by simpa using hj10))
        clear rp hrp
        by_cases hk0 : kind = 0
        · have d1 : (kind == 0) = true := beq_iff_eq.2 hk0
          by_cases hik : inl.kind = 1
          · have d2 : (inl.kind != 1) = false := by rw [hik]; rfl
            by_cases ht : inl.text.toList = []
            · have d3 : inl.text.toList.isEmpty = true := by rw [ht]; rfl
              have HF := Lib.hid (HNO.out fun h => h.2.elim (fun h => h hik) fun h => h ht)
              clear HNO HYES hik
              go_wp2_with fail
              go_roundw
              case rel => exact ⟨k + 1, by omega, by go_num, HF⟩
              case measure => simp [intOf]; omega
            · have d3 : inl.text.toList.isEmpty = false := by cases h : inl.text.toList with | nil => exact absurd h ht | cons a l => rfl
              have HF := Lib.hid (HYES.out ⟨hk0, .inr ht⟩)
              clear HNO HYES hik
              go_wp2_with (refine wpList_load_mid rfl 37 (.tmp 77) rfl wr.heap.size 1 rfl _ _ HRG1.out Try.underlying37 rfl inl_size ?_)
              ((with_reducible refine HF.out.mono ?_))
              rintro e W3 ⟨rfl, hM⟩
              have HM := Lib.hid hM
              clear hM HF
              go_wp2_with fail
              go_roundw
              case rel => exact ⟨k + 1, by omega, by go_num, HM⟩
              case measure => simp [intOf]; omega
          · have d2 : (inl.kind != 1) = true := bne_iff_ne.2 hik
            have HF := Lib.hid (HYES.out ⟨hk0, .inl hik⟩)
            clear HNO HYES hik
            go_wp2_with (refine wpList_load_mid rfl 37 (.tmp 77) rfl wr.heap.size 1 rfl _ _ HRG1.out Try.underlying37 rfl inl_size ?_)
            ((with_reducible refine HF.out.mono ?_))
            rintro e W3 ⟨rfl, hM⟩
            have HM := Lib.hid hM
            clear hM HF
            go_wp2_with fail
            go_roundw
            case rel => exact ⟨k + 1, by omega, by go_num, HM⟩
            case measure => simp [intOf]; omega
        · have d1 : (kind == 0) = false := beq_eq_false_iff_ne.2 hk0
          have HF := Lib.hid (HNO.out fun h => hk0 h.1)
          clear HNO HYES
          go_wp2_with fail
          go_roundw
          case rel => exact ⟨k + 1, by omega, by go_num, HF⟩
          case measure => simp [intOf]; omega
    · obtain rfl : k = ps.length := by omega
      obtain ⟨⟨vE, vO, vP, S', vs, ids, q1, q2⟩, q3⟩ := HI.out
      have HF : Hid (MatPost w.heap.size (w.heap.size + 1) (.slice A0 ps.length c0) (matchA ps) w (.returned (.pointer (some ⟨w.heap.size + 1, 0, none⟩))) wr) := Lib.hid ⟨rfl, q3, vE, vO, vP, S', vs, q1⟩
      clear q1 q2 q3 HI
      go_wp2_with fail
      go_ret
      exact HF.out

end Go.Proofs.Ytfnloonmeilhlaa
