/-
  Texts of the proof, put together (what this law reaches): EmN, EmO.
-/
import Derived.Test.YtfnloonmeilhlaaGreatDoorT14
set_option linter.unusedVariables false
set_option linter.unusedSimpArgs false
namespace Go.Pub
def hdOr : List Nat → Nat → Nat
  | [], c => c
  | i :: _, _ => i
theorem LinkL.hd {xs : List ElL} : ∀ {l : List Nat} {a b : Nat}, LinkL xs a l b → nx xs a = hdOr l b
  | [], _, _, h => h.1
  | _ :: _, _, _, h => h.1
end Go.Pub
namespace Go.Proofs.YtfnloonmeilhlaaGreatDoor
open Go.RowKit Go.Pub
def BetPost (S : Nat → Prop) (B : Nat) (l : List InT) (w : World) (e : Ending) (w' : World) : Prop :=
  ∃ v vs, e = .returned v ∧ RepIs w' S vs l ∧ w'.ownsRow B 32 10 v l.length (vs.flatMap Array.toList) ∧ Below B w w'
/-- What holds in the loop: the first elements are done. -/
structure BtW (w : World) (B sb ob p : Nat) (S : Nat → Prop) (ps : List PcT) (xs : List ElL) (o c : Nat) (done rest : List Nat) (wr : World) : Prop where
  link : LinkL xs (lastOf o done) rest c
  sb_ : Blk wr sb 47 #[.pointer (some ⟨p, 0, none⟩)]
  row : ∃ v vs, Blk wr ob 30 #[v] ∧ RepIs wr S vs (done.map fun i => toI ps (elX xs i)) ∧ wr.ownsRow B 32 10 v done.length (vs.flatMap Array.toList)
  bel : Below B w wr
set_option maxRecDepth 100000 in
set_option maxHeartbeats 4000000 in
theorem e_between {base p g n cap : Nat} {L vP : Value} {vO : Nat → Value} {S : Nat → Prop} {vs : List (Array Value)} {st : EmS} {ps : List PcT} (w : World) (h : EmR w base p L (.slice (some ⟨g, 0, none⟩) n cap) vO vP S vs st) (hL : PcsR w S L ps)
    (o c : Nat) (m : List Nat) (ho : o < st.xs.length) (hlk : LinkL st.xs o m c) (hm : ∀ i ∈ m, i ≠ c ∧ i < st.xs.length) (hrun : ∀ i ∈ m, runX st.xs i = true → pX st.xs i < ps.length ∧ (pcX ps (pX st.xs i)).ch.size * lfX st.xs i ≤ 1000000 ∧ lfX st.xs i ≤ 1000000) (hlen : m.length ≤ 1000000) :
    Calls Tryz.prog 14 #[.pointer (some ⟨p, 0, none⟩), .int .i64 o, .int .i64 c] w (BetPost S w.heap.size (m.map fun i => toI ps (elX st.xs i)) w) := by
  have hn := own_len h.els
  subst hn
  have c1 : w.cell? ⟨p, 1, none⟩ = some (.slice (some ⟨g, 0, none⟩) st.xs.length cap) := h.cel.c1
  obtain ⟨-, -, -, co⟩ := h.at_ o ho
  have hpw := h.cel.lt
  have hgw := (h.els.lt g rfl).2
  have hoi : (o : Int) < (st.xs.length : Int) := by omega
  have hnx : nx st.xs o = hdOr m c := hlk.hd
  rw [hnx] at co
  obtain ⟨k0, hk0⟩ : ∃ k0, k0 = hdOr m c := ⟨_, rfl⟩
  rw [← hk0] at co
  have HK0 := Lib.hid hk0
  clear hk0
  have H0 : Hid (BtW w w.heap.size w.heap.size (w.heap.size + 1) p S ps st.xs o c [] m ((w.alloc (.cells #[.pointer (some ⟨p, 0, none⟩)] 47)).alloc (.cells #[.slice none 0 0] 30))) := Lib.hid ⟨hlk, (Blk.new _ _ _).alloc _, ⟨.slice none 0 0, [], by
    have := Blk.new (w.alloc (.cells #[.pointer (some ⟨p, 0, none⟩)] 47)) 30 #[.slice none 0 0]
    rw [World.size_alloc] at this
    exact this, .nil, World.ownsRow_nil _ _ _ _⟩, ((Below.refl _ w).alloc (Nat.le_refl _) _).alloc (by simp) _⟩
  have HH := Lib.hid h
  have HL := Lib.hid hL
  have HM := Lib.hid hm
  have HRUN := Lib.hid hrun
  have HSB := Lib.hid fun g hg => (h.fro g hg).1
  clear h hL hm hrun hlk hnx
  go_enter Tryz.func14, Tryz.ntmps14
  go_wp2_with fail
  go_loopw [9] (fun v9 wr => ∃ done rest : List Nat, m = done ++ rest ∧ v9 = .int .i64 (hdOr rest c : Nat) ∧ Hid (BtW w w.heap.size w.heap.size (w.heap.size + 1) p S ps st.xs o c done rest wr)) (fun _ wr => match wr.cell? ⟨w.heap.size + 1, 0, none⟩ with | some (.slice _ n _) => m.length - n | _ => 0)
  case atStart => exact ⟨[], m, rfl, by rw [HK0.out], H0⟩
  case round =>
    clear H0
    obtain ⟨done, rest, hmd, rfl, HI⟩ := hrel
    obtain ⟨b1, b2, ⟨v, vs', b3, b4, b5⟩, b6⟩ := HI.out
    obtain ⟨A, cc, hv, -, -⟩ := own_form b5
    subst hv
    have hE := HH.out.below b6
    have r1 := hE.cel.c1
    have s1 : wr.cell? ⟨w.heap.size, 0, none⟩ = some (.pointer (some ⟨p, 0, none⟩)) := b2.cell 0
    have s2 : wr.cell? ⟨w.heap.size + 1, 0, none⟩ = some (.slice A done.length cc) := b3.cell 0
    cases rest with
    | nil =>
      have d1 : ((c : Int) != (c : Int)) = false := by simp
      rw [List.append_nil] at hmd
      subst hmd
      have HF : Hid (RepIs wr S vs' (m.map fun i => toI ps (elX st.xs i)) ∧ wr.ownsRow w.heap.size 32 10 (.slice A m.length cc) m.length (vs'.flatMap Array.toList) ∧ Below w.heap.size w wr) := Lib.hid ⟨b4, b5, b6⟩
      clear b1 b2 b3 b4 b5 b6 HI hE r1
      show Code.wp _ _ _ ⟨_, _⟩ _
      simp only [hdOr]
      go_wp2_with fail
      go_ret
      obtain ⟨f1, f2, f3⟩ := HF.out
      refine ⟨.slice A m.length cc, vs', rfl, f1, ?_, f3⟩
      rw [List.length_map]; exact f2
    | cons k rest =>
      have hk := HM.out k (by rw [hmd]; simp)
      obtain ⟨x0, x1, x2, x3, x4, x5, x6, x7, x8, x9, hr, hrg, h1⟩ := hE.cells15 k hk.2
      obtain ⟨-, -, -, cn⟩ := hE.at_ k hk.2
      obtain ⟨-, -, b1'⟩ := b1
      rw [b1'.hd] at cn
      obtain ⟨kr, hkr⟩ : ∃ kr, kr = hdOr rest c := ⟨_, rfl⟩
      rw [← hkr] at cn
      have HKR := Lib.hid hkr
      clear hkr
      have hml : m.length = done.length + (rest.length + 1) := by rw [hmd]; simp
      have hkL : PcsR wr S L ps := HL.out.keep (fun g hg => b6.block g (HSB.out g hg)) fun _ h => h
      have HC : Hid (Calls Tryz.prog 25 #[.agg #[x0, x1, x2, x3, x4, x5, x6, x7, x8, x9, .bool (runX st.xs k), .int .i64 (pX st.xs k), .int .i64 (lfX st.xs k), .int .i64 (bf st.xs k), .int .i64 (nx st.xs k)], .pointer (some ⟨w.heap.size, 0, none⟩), .pointer (some ⟨w.heap.size + 1, 0, none⟩)] wr (Bet1Post w.heap.size w.heap.size (w.heap.size + 1) done.length S (vs'.flatMap Array.toList) (toI ps (elX st.xs k)) wr)) := Lib.hid (e_bet1 (B := w.heap.size) wr hkL HSB.out hpw hE.cel.c0 b2 b3 (Nat.le_refl _) (by omega) b5 (by omega) x0 x1 x2 x3 x4 x5 x6 x7 x8 x9 (elX st.xs k) hr (HRUN.out k (by rw [hmd]; simp)))
      have HG := Lib.hid hrg
      have HNX : Hid (∀ W4, Below w.heap.size wr W4 → W4.cell? ⟨p, 1, none⟩ = some (.slice (some ⟨g, 0, none⟩) st.xs.length cap) ∧ W4.cell? ⟨g, k * 15 + 14, none⟩ = some (.int .i64 (kr : Nat))) := Lib.hid fun W4 hb => ⟨(hb.cell (p := ⟨p, 1, none⟩) hpw).trans r1, (hb.cell (p := ⟨g, k * 15 + 14, none⟩) hgw).trans cn⟩
      have hki : (k : Int) < (st.xs.length : Int) := by omega
      have hk0 : (0 : Int) ≤ (k : Int) := by omega
      have d1 : ((k : Int) != (c : Int)) = true := bne_iff_ne.2 (by omega)
      have HB4 := Lib.hid b4
      have HB5 := Lib.hid b5
      have HB6 := Lib.hid b6
      have HB2 := Lib.hid b2
      have HB1 := Lib.hid b1'
      clear b1' b2 b3 b4 b5 b6 hr hrg h1 hE cn hkL HI
      simp only [hdOr]
      go_wp2_with (first | (refine wpList_load_mid rfl 67 (.tmp 36) rfl g (k * 15) rfl _ _ HG.out Tryz.underlying67 rfl elem_size ?_) | fail)
      ((with_reducible refine HC.out.mono ?_))
      rintro e W4 ⟨g2, cap2, v2, rfl, p1, p2, p3, p4, p5⟩
      obtain ⟨n1, n2⟩ := HNX.out W4 p4
      have n3 : W4.cell? ⟨w.heap.size, 0, none⟩ = some (.pointer (some ⟨p, 0, none⟩)) := (World.cell?_of_block p5).trans s1
      have n4 : W4.cell? ⟨w.heap.size + 1, 0, none⟩ = some (.slice (some ⟨g2, 0, none⟩) (done.length + 1) cap2) := p2.cell 0
      have HF : Hid (BtW w w.heap.size w.heap.size (w.heap.size + 1) p S ps st.xs o c (done ++ [k]) rest W4) := Lib.hid ⟨by rw [lastOf_snoc]; exact HB1.out, p5.trans HB2.out, ⟨_, vs' ++ [v2], p2, by
        rw [List.map_append]
        exact (HB4.out.keep (fun g hg => p4.block g (HSB.out g hg)) fun _ h => h).snoc p1, by
        rw [List.length_append, List.length_singleton, List.flatMap_append]
        simpa using p3⟩, HB6.out.trans p4⟩
      clear p1 p2 p3 p4 p5 HC HNX HB4 HB5 HB6 HB2 HB1 HG
      go_wp2_with fail
      go_roundw
      case rel => exact ⟨done ++ [k], rest, by rw [hmd]; simp, congrArg (fun x : Nat => Value.int .i64 (x : Int)) HKR.out, HF⟩
      case measure => simp [n4, s2]; omega

end Go.Proofs.YtfnloonmeilhlaaGreatDoor
namespace Go.Pub
theorem nodup_le : ∀ (n : Nat) (l : List Nat), l.Nodup → (∀ i ∈ l, i < n) → l.length ≤ n
  | 0, [], _, _ => Nat.le_refl _
  | 0, i :: l, _, h => absurd (h i (by simp)) (by omega)
  | n + 1, l, hn, h => by
    by_cases hm : n ∈ l
    · have h1 := nodup_le n (l.erase n) (hn.erase n) fun i hi => by
        have h2 := h i (List.mem_of_mem_erase hi)
        have h3 := (List.Nodup.mem_erase_iff hn).1 hi
        omega
      rw [List.length_erase_of_mem hm] at h1
      omega
    · have h1 := nodup_le n l hn fun i hi => by
        have h2 := h i hi
        have : i ≠ n := fun e => hm (e ▸ hi)
        omega
      omega
theorem betF_eq {ps : List PcT} {xs : List ElL} {c : Nat} : ∀ (m : List Nat) (a f : Nat), LinkL xs a m c → (∀ i ∈ m, i ≠ c) → m.length ≤ f → betF ps xs c f (elX xs a).next = m.map fun i => toI ps (elX xs i)
  | [], a, 0, _, _, _ => rfl
  | [], a, f + 1, h, _, _ => by
    unfold betF
    rw [if_pos (show (elX xs a).next = c from h.1)]; rfl
  | i :: m, a, 0, _, _, hf => absurd hf (by simp)
  | i :: m, a, f + 1, h, hm, hf => by
    have e : (elX xs a).next = i := h.1
    unfold betF
    rw [e, if_neg (hm i (by simp)), betF_eq m i f h.2.2 (fun j hj => hm j (List.mem_cons_of_mem _ hj)) (by simpa using hf)]
    rfl
theorem RingI.len {xs : List ElL} {ids : List Nat} (h : RingI xs ids) : ids.length + 1 ≤ xs.length := nodup_le xs.length (0 :: ids) h.nd h.bd0
theorem betA_eq {ps : List PcT} {xs : List ElL} {A B : List Nat} {o c : Nat} (h : RingI xs (A ++ o :: (B ++ [c]))) : betA ps xs o c = B.map (fun i => toI ps (elX xs i)) ∧ LinkL xs o B c ∧ (∀ i ∈ B, i ≠ c ∧ i < xs.length) := by
  have hl : LinkL xs o B c := by
    have := (LinkL.app.1 (LinkL.app.1 h.link).2).1
    exact this
  have hn := h.nd
  rw [← List.cons_append, List.nodup_append] at hn
  have hn2 := (List.nodup_cons.1 hn.2.1).2
  rw [List.nodup_append] at hn2
  have hne : ∀ i ∈ B, i ≠ c := fun i hi => hn2.2.2 i hi c (by simp)
  have hlen := h.len
  refine ⟨betF_eq B o _ hl hne (by simp at hlen; omega), hl, fun i hi => ⟨hne i hi, h.bd i (by simp [hi])⟩⟩
end Go.Pub
namespace Go.Proofs.YtfnloonmeilhlaaGreatDoor
open Go.RowKit Go.Pub
section
variable {w w' : World} {base p : Nat} {L vE vP : Value} {vO : Nat → Value} {S : Nat → Prop} {vs : List (Array Value)} {st : EmS}
theorem trips_snoc (l : List (Nat × Nat × Nat)) (x : Nat × Nat × Nat) : trips (l ++ [x]) = trips l ++ [.int .i64 x.1, .int .i64 x.2.1, .int .i64 x.2.2] := by
  unfold trips; rw [List.flatMap_append]; simp
/-- A match more. -/
theorem EmR.pushP {w2 : World} {x : Nat × Nat × Nat} {g cap H : Nat} (h : EmR w base p L vE vO vP S vs st) (hbase : base ≤ w.heap.size)
    (hown : w2.ownsRow base 42 3 (.slice (some ⟨g, 0, none⟩) (st.prs.length + 1) cap) (st.prs.length + 1) (trips st.prs ++ [.int .i64 x.1, .int .i64 x.2.1, .int .i64 x.2.2])) (hgrow : w.grownBy w2 vP.ownBlock) (hlies : vP.ownBlock = some g ∨ g = H) (hH : w.heap.size ≤ H) :
    EmR (w2.setCell ⟨p, 20, none⟩ (.slice (some ⟨g, 0, none⟩) (st.prs.length + 1) cap)) base p L vE vO (.slice (some ⟨g, 0, none⟩) (st.prs.length + 1) cap) S vs { st with prs := st.prs ++ [x] } ∧
      Below base w (w2.setCell ⟨p, 20, none⟩ (.slice (some ⟨g, 0, none⟩) (st.prs.length + 1) cap)) ∧ ∀ k, S k → (w2.setCell ⟨p, 20, none⟩ (.slice (some ⟨g, 0, none⟩) (st.prs.length + 1) cap)).heap[k]? = w.heap[k]? := by
  have hpl := h.cel.lt
  obtain ⟨cs, hbk, _⟩ := h.cel.blk
  have hEp : vP.ownBlock ≠ some p := own_blk h.prs hbk (by decide)
  have hcel : StC w2 p L vE vO vP := h.cel.keep (hgrow.block p hpl (fun e => hEp e.symm))
  have hrows : ∀ k, S k → (w2.setCell ⟨p, 20, none⟩ (.slice (some ⟨g, 0, none⟩) (st.prs.length + 1) cap)).heap[k]? = w.heap[k]? := fun k hk => by
    obtain ⟨n1, -, -, n4⟩ := h.notS hk
    exact (Below.heap_setCell w2 ⟨p, 20, none⟩ _ k n1).trans (hgrow.block k (h.fro k hk).1 (fun e => n4 e.symm))
  obtain ⟨cs2, hbk2, _⟩ := hcel.blk
  have hkeepO : ∀ {n s : Nat} {t : TypeId} {u : Value} {x' : List Value}, w.ownsRow base t s u n x' → t ≠ 42 → t ≠ 57 → (w2.setCell ⟨p, 20, none⟩ (.slice (some ⟨g, 0, none⟩) (st.prs.length + 1) cap)).ownsRow base t s u n x' := fun ho h1 h2 => by
    have a1 := ho.kept hgrow (own_apart ho h.prs h1)
    have hne := own_blk a1 hbk2 h2
    exact a1.kept (row := some p) ⟨rfl, rfl, rfl, by simp [World.setCell], fun k _ hk => Below.heap_setCell w2 ⟨p, 20, none⟩ _ k (fun e => hk (by rw [e]))⟩ (.inr hne)
  have hgp : g ≠ p := fun e => own_blk hown hbk2 (by decide) (by rw [e]; rfl)
  have hbg : Below base w w2 := ⟨hgrow.os, hgrow.tape, hgrow.output, hgrow.size, fun k hk => hgrow.block k (by omega) (fun e => by have := (h.prs.lt k e.symm).1; omega)⟩
  refine ⟨⟨h.bp, hcel.setP _, hkeepO h.els (by decide) (by decide), h.rep.keep hrows fun _ h => h, fun j hj => hkeepO (h.ops j hj) (by decide) (by decide), ?_, h.apart, h.low, fun k hk => ⟨?_, fun hbk => ?_⟩⟩, hbg.setCell (p := ⟨p, 20, none⟩) h.bp _, hrows⟩
  · show World.ownsRow _ _ _ _ _ (st.prs ++ [x]).length (trips (st.prs ++ [x]))
    rw [List.length_append, List.length_singleton, trips_snoc]
    exact hown.kept (row := some p) ⟨rfl, rfl, rfl, by simp [World.setCell], fun k _ hk => Below.heap_setCell w2 ⟨p, 20, none⟩ _ k (fun e => hk (by rw [e]))⟩ (.inr (fun e => hgp (by simpa [Value.ownBlock] using e)))
  · have := (h.fro k hk).1
    have := hgrow.size
    simp [World.setCell]; omega
  · obtain ⟨n1, n2, n3, n4⟩ := h.notS hk
    refine ⟨n1, n2, n3, fun e => ?_⟩
    have e' : g = k := by simpa [Value.ownBlock] using e
    subst e'
    rcases hlies with hl | hl
    · exact n4 hl
    · have := (h.fro g hk).1; omega
end
/-- The cells of an inline that holds others alone. -/
def inK (k : Int) (A : Option Addr) (n c : Nat) : Array Value := #[.int .i64 k, .string ⟨#[]⟩, .string ⟨#[]⟩, .string ⟨#[]⟩, .string ⟨#[]⟩, .slice none 0 0, .slice none 0 0, .slice none 0 0, .slice none 0 0, .slice A n c]
theorem inK_rep {w : World} {S : Nat → Prop} {B n c : Nat} {A : Option Addr} {vs : List (Array Value)} {l : List InT} (k : Int) (h : RepIs w S vs l) (hown : w.ownsRow B 32 10 (.slice A n c) l.length (vs.flatMap Array.toList)) : RepI w (fun g => S g ∨ (B ≤ g ∧ g < w.heap.size)) (inK k A l.length c) (kidT k l) := by
  have hr : w.ownsRow B 32 10 (.slice A l.length c) l.length (vs.flatMap Array.toList) := by
    rcases hown.2 with ⟨e, h0⟩ | ⟨g', cap', cur, e, _⟩
    · injection e with e1 e2 e3
      rw [h0] at hown ⊢
      rw [e2] at hown
      exact hown
    · injection e with e1 e2 e3
      rw [e2] at hown
      exact hown
  exact .mk k ⟨#[]⟩ ⟨#[]⟩ ⟨#[]⟩ noAt [] [] l none none none none A 0 0 0 0 c vs ReadsS.none_ ReadsS.none_ ReadsS.none_ ReadsS.none_ (h.keep (fun _ _ => rfl) fun _ h => .inl h) ((ReadsS.of_own hr).keep (fun _ _ => rfl) fun _ h => .inr h)
end Go.Proofs.YtfnloonmeilhlaaGreatDoor
