/-
  Texts of the proof, put together (what this law reaches): ScAO, ScAR, ScAS, ScRA, ScRB, ScRD, ScRE, ScRF.
-/
import Derived.Test.YtcjkgmfidkgamaaGreatDoorC09
import Derived.Deep.Onto
import Derived.Test.YtcjkgmfidkgamaaGreatDoorC06
import Derived.Test.YtcjkgmfidkgamaaGreatDoorC07
import Derived.Test.YtcjkgmfidkgamaaGreatDoorC01
import Derived.Test.YtcjkgmfidkgamaaGreatDoorC02
import Derived.Deep.DeepCutAuto
import Derived.Test.YtcjkgmfidkgamaaGreatDoorC05
import Derived.Test.YtcjkgmfidkgamaaGreatDoorC04
import Derived.Laws.Tables
set_option linter.unusedVariables false
set_option linter.unusedSimpArgs false
namespace Go.Pub
theorem covP_bg (p : PcL) : ∀ (l : List PcL) (a b : Nat), covP (l ++ [p]) a b → p.bg < b ∧ p.nd = b
  | [], a, b, h => by
    obtain ⟨h1, h2, h3⟩ := h
    have h4 : p.nd = b := h3
    omega
  | q :: l, a, b, h => covP_bg p l q.nd b h.2.2
theorem scanF_step {s : ByteArray} {f i : Nat} {j : Bool} {acc R : List PcL} {p : PcL} {pl : Bool} (h : scanF s f i j acc = R) (hf : s.size - i ≤ f) (hi : i < s.size) (hp : pieceA s i = (p, pl)) (hnd : i < p.nd) (x : List PcL) (hx : (if (pl && j) = true then joinP s acc p.nd else acc ++ [p]) = x) : ∃ f, scanF s f p.nd pl x = R ∧ s.size - p.nd ≤ f := by
  obtain ⟨g, rfl⟩ : ∃ g, f = g + 1 := ⟨f - 1, by omega⟩
  unfold scanF at h
  rw [if_pos hi] at h
  simp only [hp] at h
  exact ⟨g, by rw [← hx]; exact h, by omega⟩
end Go.Pub
namespace Go.Proofs.YtcjkgmfidkgamaaGreatDoor
open Go.RowKit Go.Pub
/-- The pieces of a string, in new memory. -/
def ScanPost (s : ByteArray) (w : World) (e : Ending) (w' : World) : Prop :=
  Below w.heap.size w w' ∧ ∃ v, e = .returned v ∧ PcOwn w' w.heap.size v (scanP s)
structure ScW (s : ByteArray) (W1 : World) (i : Nat) (j : Bool) (acc : List PcL) (v : Value) (wr : World) : Prop where
  rest : ∃ f, scanF s f i j acc = scanP s ∧ s.size - i ≤ f
  ne : j = true → acc ≠ []
  len : acc.length ≤ i
  cov : covP acc 0 i
  own : PcOwn wr W1.heap.size v acc
  bel : Below W1.heap.size W1 wr
theorem ScW.start (s : ByteArray) (W1 : World) : ScW s W1 0 false [] (.slice none 0 0) W1 := ⟨⟨s.size, rfl, by omega⟩, by simp, Nat.le_refl _, rfl, PcOwn.nil _ _, Below.refl _ _⟩
theorem ScW.more {s : ByteArray} {W1 wr W2 w3 : World} {i g cap n : Nat} {j : Bool} {acc : List PcL} {v : Value} {p : PcL} {pl : Bool} {vp : Array Value} {xs : List Value} {t2 : Obj} (h : ScW s W1 i j acc v wr) (hi : i < s.size) (hp : pieceA s i = (p, pl)) (hj : (pl && j) = false)
    (q2 : Below wr.heap.size wr W2) (hv : PcV W2 (Rg wr.heap.size W2) vp p) (hx : ∃ (S : Nat → Prop) (vs : List (Array Value)), (∀ g, S g → W1.heap.size ≤ g ∧ g < wr.heap.size ∧ v.ownBlock ≠ some g) ∧ RepP wr S vs acc ∧ xs = vs.flatMap Array.toList) (hl : ∀ k, v.ownBlock = some k → W1.heap.size ≤ k ∧ k < wr.heap.size) (hn : n = acc.length + 1)
    (hown : w3.ownsRow W1.heap.size 36 18 (.slice (some ⟨g, 0, none⟩) n cap) n (xs ++ vp.toList)) (hg : (W2.alloc t2).grownBy w3 v.ownBlock) (hlies : v.ownBlock = some g ∨ g = W2.heap.size + 1) : ScW s W1 p.nd pl (acc ++ [p]) (.slice (some ⟨g, 0, none⟩) n cap) w3 := by
  obtain ⟨⟨f, h1, h2⟩, h3, h4, h5, h6, h7⟩ := h
  obtain ⟨b1, b2, b3⟩ := pieceA_bd s i hi
  rw [hp] at b1 b2 b3
  change p.bg = i at b1
  change i < p.nd at b2
  change p.nd ≤ s.size at b3
  have hz0 := h7.size
  have hz2 := q2.size
  have hz3 := hg.size
  simp at hz3
  have hk : ∀ k, k < W2.heap.size → v.ownBlock ≠ some k → w3.heap[k]? = W2.heap[k]? := fun k hk hne => (hg.block k (by simp; omega) fun e => hne e.symm).trans (Below.heap_alloc _ _ k hk)
  refine ⟨scanF_step h1 h2 hi hp b2 _ (by rw [hj]; rfl), fun _ => by simp, by simp; omega, covP_snoc p acc 0 i h5 b1 (by omega), ?_, ?_⟩
  · exact PcOwn.push hx q2 hz0 (fun k hk => (hl k hk).2) hv hn hown hk (by omega) (by
      rcases hlies with h | h
      · exact .inl h
      · exact .inr (by omega))
  · exact ((h7.trans (q2.mono hz0)).alloc (by omega) t2).grown hg (by simp; omega) fun k hk => (hl k hk).1
theorem ScW.drew {s : ByteArray} {W1 W : World} {i : Nat} {j : Bool} {acc : List PcL} {v : Value} (h : ScW s W1 i j acc v W) : ScW s W1 i j acc v W.drew :=
  ⟨h.rest, h.ne, h.len, h.cov, h.own.below (below_drewN (Below.refl _ _) 1), below_drewN h.bel 1⟩
theorem cell_off (V : World) {g j k : Nat} (h : j ≠ k) (v : Value) : (V.setCell ⟨g, j, none⟩ v).cell? ⟨g, k, none⟩ = V.cell? ⟨g, k, none⟩ := by
  apply World.cell?_setCell_other
  intro e
  injection e with _ e2 _
  exact h e2
set_option maxRecDepth 100000 in
set_option maxHeartbeats 4000000 in
theorem s_Scan (s : ByteArray) (m : Int) (w : World) (hs : s.size ≤ 1000000) (hm : w.cell? ⟨0, 0, none⟩ = some (.int .i64 m)) : Calls Tryz.prog 11 #[.string s] w (ScanPost s w) := by
  have h0w : 0 < w.heap.size := World.block_lt_of_cell? _ _ hm
  have HPs := Lib.hid fun W => s_Pieces s W hs
  obtain ⟨i0, hi0, hz0, hz1, hz2⟩ := info_parts piece_info
  have HBD := Lib.hid fun (i : Nat) (hi : i < s.size) => pieceA_bd s i hi
  go_enter Tryz.func11, Tryz.ntmps11
  go_wp2_with fail
  ((with_reducible refine (HPs.out _).mono ?_))
  rintro e W1 ⟨g, b1, b2, rfl, hg1, hgb, hrd, hbl⟩
  have HM : Hid (∀ i, i < s.size → ∀ W, Below W1.heap.size W1 W → Calls Tryz.prog 44 #[.int .i64 i, .pointer (some ⟨g, 0, none⟩)] W (PcPost (pieceA s i).1 (pieceA s i).2 W)) := Lib.hid fun i hi W hbW => s_next s i g b1 b2 m (Rg w.heap.size W1) W hs hi (hgb.below hbW hgb.lt) (hrd.keep (fun k hk => hbW.block k hk.2) fun k hk => hk) (fun k hk => Nat.lt_of_lt_of_le hk.2 hbW.size) ((hbW.cell (p := ⟨0, 0, none⟩) (Nat.lt_of_lt_of_le h0w hbl.size)).trans ((hbl.cell (p := ⟨0, 0, none⟩) h0w).trans hm))
  have HB1 := Lib.hid hbl
  have HZ1 := Lib.hid (ScW.start s W1)
  clear hgb hrd hbl hm h0w HPs hg1
  go_wp2_with fail
  go_loopw [3, 5, 6] (fun v3 v5 v6 wr => ∃ (i : Nat) (j : Bool) (acc : List PcL), v6 = .int .i64 i ∧ v5 = .bool j ∧ i ≤ s.size ∧ Hid (ScW s W1 i j acc v3 wr)) (fun _ _ v6 _ => s.size - (intOf v6).toNat)
  case atStart => exact ⟨0, false, [], rfl, rfl, Nat.zero_le _, HZ1⟩
  case round =>
    clear HZ1
    obtain ⟨i, j, acc, rfl, rfl, hi, HS⟩ := hrel
    by_cases hl : i < s.size
    · obtain ⟨hb1, hb2, hb3⟩ := HBD.out i hl
      have HNX := Lib.hid (HM.out i hl wr HS.out.bel)
      obtain ⟨p, pl, hP⟩ : ∃ p pl, pieceA s i = (p, pl) := ⟨_, _, rfl⟩
      rw [hP] at HNX hb1 hb2 hb3
      have HPQ := Lib.hid hP
      clear hP hb1
      obtain ⟨S, vs, hS, hr, ho⟩ := HS.out.own
      have hlen := HS.out.len
      obtain ⟨A, c, rfl⟩ := own_slice ho
      go_wp2_with fail
      ((with_reducible refine (HNX.out).mono ?_))
      rintro e W2 ⟨q2, A1, c1, A2, c2, rfl, hir⟩
      have HPV : Hid (PcV W2 (Rg wr.heap.size W2) (pcC p A1 c1 A2 c2) p) := Lib.hid ⟨A1, c1, A2, c2, rfl, hir⟩
      have hlt := ho.lt
      have HXS : Hid (∃ (S : Nat → Prop) (vs' : List (Array Value)), (∀ g, S g → W1.heap.size ≤ g ∧ g < wr.heap.size ∧ (Value.slice A acc.length c).ownBlock ≠ some g) ∧ RepP wr S vs' acc ∧ vs.flatMap Array.toList = vs'.flatMap Array.toList) := Lib.hid ⟨S, vs, hS, hr, rfl⟩
      have HLT := Lib.hid hlt
      have HOW := Lib.hid ho
      have Q0 := Lib.hid q2
      clear hS hr ho hir q2 hlt HNX
      go_upto_region 7 with (refine wpList_store_row rfl 36 (.tmp 7) _ rfl _ _ rfl rfl _ _ (Blk.new W2 36 _) pc_size (by rfl) (by simp [pcC, Value.oneCell']) ?_)
      have KB : Hid (Blk ((W2.alloc (.cells #[.int .i64 0, .int .i64 0, .string ⟨#[]⟩, .string ⟨#[]⟩, .string ⟨#[]⟩, .string ⟨#[]⟩, .slice none 0 0, .slice none 0 0, .slice none 0 0, .slice none 0 0, .slice none 0 0, .string ⟨#[]⟩, .int .i64 0, .bool false, .bool false, .bool false, .int .i64 0, .int .i64 0] 36)).setRow W2.heap.size (pcC p A1 c1 A2 c2)) W2.heap.size 36 (pcC p A1 c1 A2 c2)) := Lib.hid (row_blk (Blk.new W2 36 _) _)
      have KS : Hid (((W2.alloc (.cells #[.int .i64 0, .int .i64 0, .string ⟨#[]⟩, .string ⟨#[]⟩, .string ⟨#[]⟩, .string ⟨#[]⟩, .slice none 0 0, .slice none 0 0, .slice none 0 0, .slice none 0 0, .slice none 0 0, .string ⟨#[]⟩, .int .i64 0, .bool false, .bool false, .bool false, .int .i64 0, .int .i64 0] 36)).setRow W2.heap.size (pcC p A1 c1 A2 c2)).heap.size = W2.heap.size + 1) := Lib.hid (by rw [row_size, World.size_alloc])
      have K2 : Hid (Below W2.heap.size W2 ((W2.alloc (.cells #[.int .i64 0, .int .i64 0, .string ⟨#[]⟩, .string ⟨#[]⟩, .string ⟨#[]⟩, .string ⟨#[]⟩, .slice none 0 0, .slice none 0 0, .slice none 0 0, .slice none 0 0, .slice none 0 0, .string ⟨#[]⟩, .int .i64 0, .bool false, .bool false, .bool false, .int .i64 0, .int .i64 0] 36)).setRow W2.heap.size (pcC p A1 c1 A2 c2))) := Lib.hid (row_below ((Below.refl _ W2).alloc (Nat.le_refl _) _) (Nat.le_refl _) _)
      have KG : Hid (wr.heap.size ≤ W2.heap.size) := Lib.hid Q0.out.size
      generalize ((W2.alloc (.cells #[.int .i64 0, .int .i64 0, .string ⟨#[]⟩, .string ⟨#[]⟩, .string ⟨#[]⟩, .string ⟨#[]⟩, .slice none 0 0, .slice none 0 0, .slice none 0 0, .slice none 0 0, .slice none 0 0, .string ⟨#[]⟩, .int .i64 0, .bool false, .bool false, .bool false, .int .i64 0, .int .i64 0] 36)).setRow W2.heap.size (pcC p A1 c1 A2 c2)) = X at *
      have Q2 : Hid (Below wr.heap.size wr X) := Lib.hid (Q0.out.trans (K2.out.mono KG.out))
      replace HPV : Hid (PcV X (Rg wr.heap.size X) (pcC p A1 c1 A2 c2) p) := Lib.hid (HPV.out.keep (fun g hg => K2.out.block g hg.2) fun g hg => ⟨hg.1, Nat.lt_of_lt_of_le hg.2 K2.out.size⟩)
      have ho2 := own_below HOW.out Q2.out
      clear K2 Q0 HOW
      generalize W2.heap.size = gP at *
      clear W2
      by_cases hj : (pl && j) = true
      · obtain ⟨rfl, rfl⟩ : pl = true ∧ j = true := by simpa using hj
        clear ho2
        obtain ⟨k, q, rfl⟩ := snoc_of acc (HS.out.ne rfl)
        obtain ⟨hq1, hq2⟩ := covP_bg q k 0 i HS.out.cov
        have hO2 := HS.out.own.below Q2.out
        obtain ⟨gr, cap, he, hgr1, hgr2⟩ := hO2.form
        rw [he] at hO2 ⊢
        have HO2 := Lib.hid hO2
        have hX : Hid (Below W1.heap.size W1 X) := Lib.hid (HS.out.bel.trans (Q2.out.mono HS.out.bel.size))
        have hne : gr ≠ gP := by
          have hrow := HS.out.own.form
          obtain ⟨gr', cap', he', _, hlt'⟩ := hrow
          rw [he'] at he
          injection he with he1 _ _
          injection he1 with he1
          injection he1 with he1 _ _
          have := KG.out
          omega
        have HBX := KB
        have HGR := Lib.hid hgr1
        clear hj hO2 he HLT HXS HPV hgr1 hgr2 KB KG KS
        obtain ⟨x16, x17, x2, xf⟩ := HO2.out.last
        have f17 := xf (k.length * 18 + 17)
        have HFR := Lib.hid xf
        have xnd : X.cell? ⟨gP, 17, none⟩ = some (.int .i64 p.nd) := HBX.out.cell 17
        rw [List.length_append, List.length_singleton] at hlen
        clear xf
        go_upto_region 10 with fail
        have HO3 := Lib.hid (HO2.out.join p.nd (s.extract q.bg p.nd))
        have hX3 := Lib.hid (hX.out.setCell (p := ⟨gr, k.length * 18 + 17, none⟩) HGR.out (.int .i64 p.nd))
        have y16 : (X.setCell ⟨gr, k.length * 18 + 17, none⟩ (.int .i64 p.nd)).cell? ⟨gr, k.length * 18 + 16, none⟩ = some (.int .i64 q.bg) := by
          rw [cell_off _ (by omega)]; exact x16
        have y2 : (X.setCell ⟨gr, k.length * 18 + 17, none⟩ (.int .i64 p.nd)).cell? ⟨gr, k.length * 18 + 2, none⟩ = some (.string q.inl.text) := by
          rw [cell_off _ (by omega)]; exact x2
        have ynd : (X.setCell ⟨gr, k.length * 18 + 17, none⟩ (.int .i64 p.nd)).cell? ⟨gP, 17, none⟩ = some (.int .i64 p.nd) := by
          rw [World.cell?_setCell_far _ _ _ _ hne]; exact xnd
        have yf : (X.setCell ⟨gr, k.length * 18 + 17, none⟩ (.int .i64 p.nd)).frozen? ⟨gr, k.length * 18 + 2, none⟩ = false := by
          rw [World.frozen?_setCell]; exact HFR.out _
        clear x16 x2 x17 xnd f17 HO2 HBX hX HFR
        generalize X.setCell ⟨gr, k.length * 18 + 17, none⟩ (.int .i64 p.nd) = V at *
        have hbd1 : q.bg ≤ p.nd := by omega
        have z16 : (V.setCell ⟨gr, k.length * 18 + 2, none⟩ (.string (s.extract q.bg p.nd))).cell? ⟨gr, k.length * 18 + 16, none⟩ = some (.int .i64 q.bg) := by
          rw [cell_off _ (by omega)]; exact y16
        have znd : (V.setCell ⟨gr, k.length * 18 + 2, none⟩ (.string (s.extract q.bg p.nd))).cell? ⟨gP, 17, none⟩ = some (.int .i64 p.nd) := by
          rw [World.cell?_setCell_far _ _ _ _ hne]; exact ynd
        have HN : Hid (ScW s W1 p.nd true (k ++ [{ q with nd := p.nd, inl := { q.inl with text := s.extract q.bg p.nd } }]) (.slice (some ⟨gr, 0, none⟩) (k.length + 1) cap) (V.setCell ⟨gr, k.length * 18 + 2, none⟩ (.string (s.extract q.bg p.nd)))) := Lib.hid (by
          obtain ⟨⟨f, h1, h2⟩, h3, h4, h5, h6, h7⟩ := HS.out
          exact ⟨scanF_step h1 h2 hl HPQ.out hb2 _ (by rw [show (true && true) = true from rfl, if_pos rfl, joinP_snoc]), fun _ => by simp, by simp at h4 ⊢; omega, covP_last s q p.nd k 0 i h5 (by omega), HO3.out, hX3.out.setCell (p := ⟨gr, k.length * 18 + 2, none⟩) HGR.out _⟩)
        clear HS HPQ HO3 hX3 HGR
        refine wp_region_held_drew (S := fun W' => W'.cell? ⟨gr, k.length * 18 + 16, none⟩ = some (.int .i64 q.bg) ∧ W'.cell? ⟨gP, 17, none⟩ = some (.int .i64 p.nd)) (by kernel_rfl) ⟨y16, ynd⟩ (fun hHeld => ?_)
        refine tk 0 (.pointer (some ⟨gr, k.length * 18, none⟩)) rfl hHeld (fun W' hSw => ?_) ?_
        · go_simp
        refine tk 1 (.string s) rfl hHeld (fun W' hSw => ?_) ?_
        · go_simp
        refine tk 2 (.pointer (some ⟨gr, k.length * 18, none⟩)) rfl hHeld (fun W' hSw => ?_) ?_
        · go_simp
        refine tk 3 (.pointer (some ⟨gr, k.length * 18, none⟩)) rfl hHeld (fun W' hSw => ?_) ?_
        · go_simp
        refine tk 4 (.pointer (some ⟨gr, k.length * 18 + 16, none⟩)) rfl hHeld (fun W' hSw => ?_) ?_
        · go_simp
        refine tk 5 (.int .i64 q.bg) rfl hHeld (fun W' hSw => ?_) ?_
        · obtain ⟨h16, hnd⟩ := hSw
          go_simp
        refine tk 6 (.pointer (some ⟨gP, 17, none⟩)) rfl hHeld (fun W' hSw => ?_) ?_
        · go_simp
        refine tk 7 (.int .i64 p.nd) rfl hHeld (fun W' hSw => ?_) ?_
        · obtain ⟨h16, hnd⟩ := hSw
          go_simp
        refine tk 8 (.string (s.extract q.bg p.nd)) rfl hHeld (fun W' hSw => ?_) ?_
        · go_simp
        refine tk 9 (.pointer (some ⟨gr, k.length * 18, none⟩)) rfl hHeld (fun W' hSw => ?_) ?_
        · go_simp
        refine tk 10 (.pointer (some ⟨gr, k.length * 18 + 1, none⟩)) rfl hHeld (fun W' hSw => ?_) ?_
        · go_simp
        refine tk 11 (.pointer (some ⟨gr, k.length * 18 + 2, none⟩)) rfl hHeld (fun W' hSw => ?_) ?_
        · go_simp
        refine rd1 12 rfl (fun K hK => ?_)
        go_simp
        refine hK.out _ _ ⟨z16, znd⟩ (fun hHeld => ?_)
        clear hK K
        refine wpAnyH_done (by kernel_rfl) ?_ _
        go_wp2_with fail
        go_roundw
        case rel => exact ⟨p.nd, true, _, rfl, rfl, hb3, Lib.hid HN.out.drew⟩
        case measure => simp [intOf]; omega
      · have HJ : Hid ((pl && j) = false) := Lib.hid (by simpa using hj)
        obtain ⟨c0, c1', c2', c3, c4, c5, c6, c7, c8, c9, c10, c11, c12, c13, c14, c15, c16, c17, _⟩ := pc_facts KB.out
        have hzX : W1.heap.size ≤ X.heap.size := Nat.le_trans HS.out.bel.size Q2.out.size
        cases pl <;> cases j
        case true.true => exact absurd rfl hj
        all_goals
          clear hj
          go_wp2_with (at_builtin; refine wpList_append_lies _ rfl _ _ 25 rfl W1.heap.size 36 i0 _ 18 248 Tryz.underlying25 hi0 hz0 hz1 hz2 rfl (by decide) _ _ _ rfl (ho2.alloc _) ⟨X.heap.size, 0, none⟩ 1 1 (pcC p A1 c1 A2 c2).toList rfl rfl ?c1 ?c2 (by decide) ?c3 ?c4 ?c5 (X.heap.size + 1) ?c6 ?_)
          case c1 => exact World.news_of_block (t := 36) (fr := (0, 0)) (cs := pcC p A1 c1 A2 c2) (heap_alloc_new X (.cells (pcC p A1 c1 A2 c2) 36))
          case c2 => intro u hu; simp [pcC] at hu; rcases hu with rfl | rfl | rfl | rfl | rfl | rfl | rfl | rfl | rfl | rfl | rfl | rfl | rfl | rfl | rfl | rfl | rfl | rfl <;> rfl
          case c3 => unfold maxLen; omega
          case c4 => omega
          case c5 => simp; omega
          case c6 => simp
          intro g7 cap7 w3 hown3 hgrow hlies hlt3
          have xnd : w3.cell? ⟨gP, 17, none⟩ = some (.int .i64 p.nd) := ((KB.out.alloc (.cells (pcC p A1 c1 A2 c2) 36)).grown hgrow (fun e => by have := HLT.out _ e.symm; have := KG.out; omega)).cell 17
          have HN := Lib.hid (HS.out.more hl HPQ.out HJ.out Q2.out HPV.out HXS.out HLT.out rfl hown3 hgrow hlies)
          clear hown3 hgrow hlies ho2 HPV HXS HLT Q2 HS HPQ c0 c1' c2' c3 c4 c5 c6 c7 c8 c9 c10 c11 c12 c13 c14 c15 c16 c17 KB KG KS
          go_wp2_with fail
          go_roundw
          case rel => exact ⟨p.nd, _, acc ++ [p], rfl, rfl, hb3, HN⟩
          case measure => simp [intOf]; omega
    · obtain ⟨⟨f, h1, h2⟩, h3, h4, h5, h6, h7⟩ := HS.out
      have HE : Hid (PcOwn wr W1.heap.size _ (scanP s)) := Lib.hid (by rw [← h1, scanF_end (by omega)]; exact h6)
      have HB := Lib.hid (HB1.out.trans (h7.mono HB1.out.size))
      clear h1 h2 h3 h4 h5 h6 h7 HS
      go_wp2_with fail
      go_ret
      refine ⟨HB.out, _, rfl, ?_⟩
      obtain ⟨S, vs, hS, hk, ho⟩ := HE.out
      exact ⟨S, vs, fun g hg => ⟨Nat.le_trans HB1.out.size (hS g hg).1, (hS g hg).2⟩, hk, World.ownsRow.mono ho HB1.out.size⟩

end Go.Proofs.YtcjkgmfidkgamaaGreatDoor
namespace Go.Pub
theorem len2 {α : Type} : ∀ {l : List α}, l.length = 2 → ∃ a b, l = [a, b]
  | [a, b], _ => ⟨a, b, rfl⟩
theorem len3 {α : Type} : ∀ {l : List α}, l.length = 3 → ∃ a b c, l = [a, b, c]
  | [a, b, c], _ => ⟨a, b, c, rfl⟩
theorem toNat_f {b : Bool} (h : b.toNat = 0) : b = false := by cases b <;> simp_all
theorem toNat_t {b : Bool} (h : b.toNat = 1) : b = true := by cases b <;> simp_all
theorem ex_l1 : ∃ p0 p1, scanP ⟨#[97, 42]⟩ = [p0, p1] ∧ p0.inl.text = ⟨#[97]⟩ ∧ p1.kind = 1 ∧ p1.ch = ⟨#[42]⟩ ∧ p1.n = 1 ∧ p1.opn = false ∧ p1.clo = true ∧ p1.bg = 1 ∧ p1.nd = 2 := by
  obtain ⟨h1, h2, h3⟩ := ex_s1
  have hl := congrArg List.length h1
  rw [List.length_map] at hl
  obtain ⟨p0, p1, e⟩ := len2 hl
  rw [e] at h1 h2 h3
  simp [pcNum] at h1 h2 h3
  exact ⟨p0, p1, e, h2.1, h1.2.1, h3.2, h1.2.2.2.1, toNat_f (by simpa using h1.2.2.2.2.1), toNat_t (by simpa using h1.2.2.2.2.2.1), h1.2.2.2.2.2.2.1, h1.2.2.2.2.2.2.2⟩
theorem ex_l2 : ∃ p0 p1 p2, scanP ⟨#[91, 120, 93]⟩ = [p0, p1, p2] ∧ p0.kind = 2 ∧ p2.kind = 3 := by
  have h1 := ex_s2
  have hl := congrArg List.length h1
  rw [List.length_map] at hl
  obtain ⟨p0, p1, p2, e⟩ := len3 hl
  rw [e] at h1
  simp [pcNum] at h1
  exact ⟨p0, p1, p2, e, h1.1.1, h1.2.2.1⟩
theorem ex_l3 : ∃ p0 p1 p2, scanP ⟨#[97, 32, 10, 32, 98]⟩ = [p0, p1, p2] ∧ p1.inl.kind = 2 ∧ p1.bg = 1 ∧ p1.nd = 4 := by
  have h1 := ex_s3
  have hl := congrArg List.length h1
  rw [List.length_map] at hl
  obtain ⟨p0, p1, p2, e⟩ := len3 hl
  rw [e] at h1
  simp [pcNum] at h1
  exact ⟨p0, p1, p2, e, h1.2.1.2.1, h1.2.1.2.2.2.2.2.1, h1.2.1.2.2.2.2.2.2⟩
theorem ex_l4 : ∃ p, scanP ⟨#[126, 126, 126]⟩ = [p] ∧ p.kind = 0 ∧ p.inl.kind = 1 ∧ p.inl.text = ⟨#[126, 126, 126]⟩ ∧ p.bg = 0 ∧ p.nd = 3 := by
  obtain ⟨h1, h2⟩ := ex_s4
  have hl := congrArg List.length h1
  rw [List.length_map] at hl
  obtain ⟨p, e⟩ := List.length_eq_one_iff.1 hl
  rw [e] at h1 h2
  simp [pcNum] at h1 h2
  exact ⟨p, e, h1.1, h1.2.1, h2, h1.2.2.2.2.2.1, h1.2.2.2.2.2.2⟩
theorem ex_l5 : citesI ⟨#[115, 101, 101, 32, 64, 110, 103, 44, 32, 112, 46, 32, 51, 59, 32, 45, 64, 108, 105]⟩ = some [⟨⟨#[110, 103]⟩, ⟨#[115, 101, 101]⟩, ⟨#[44, 32, 112, 46, 32, 51]⟩, false⟩, ⟨⟨#[108, 105]⟩, ⟨#[]⟩, ⟨#[]⟩, true⟩] := by
  obtain ⟨h1, h2⟩ := ex_c1
  cases hc : citesI ⟨#[115, 101, 101, 32, 64, 110, 103, 44, 32, 112, 46, 32, 51, 59, 32, 45, 64, 108, 105]⟩ with
  | none => rw [hc] at h1; simp at h1
  | some cs =>
    rw [hc] at h1 h2
    simp only [Option.map_some, Option.some.injEq] at h1 h2
    have hl := congrArg List.length h1
    rw [List.length_map] at hl
    obtain ⟨⟨k0, a0, b0, f0⟩, ⟨k1, a1, b1, f1⟩, rfl⟩ := len2 hl
    simp [citBare] at h1 h2
    obtain ⟨⟨rfl, rfl, rfl⟩, rfl, rfl, rfl⟩ := h2
    obtain rfl := toNat_f (by simpa using h1.1)
    obtain rfl := toNat_t (by simpa using h1.2)
    rfl
theorem ex_l6 : citesI ⟨#[97, 64, 98]⟩ = none := Option.isNone_iff_eq_none.1 ex_c2
end Go.Pub
namespace Go.Proofs.YtcjkgmfidkgamaaGreatDoor
open Go.RowKit Go.Pub
set_option maxRecDepth 100000 in
set_option maxHeartbeats 4000000 in
theorem l9_awake (m : Int) (w : World) (hm : w.cell? ⟨0, 0, none⟩ = some (.int .i64 m)) : Calls Tryz.prog 9 #[] w fun e w' => e = .returned (.bool true) ∧ Below w.heap.size w w' := by
  have h0 := World.block_lt_of_cell? _ _ hm
  have HS : Hid (∀ (s : ByteArray) (W : World), s.size ≤ 1000000 → Below w.heap.size w W → Calls Tryz.prog 11 #[.string s] W (ScanPost s W)) := Lib.hid fun s W hs hb => s_Scan s m W hs ((hb.cell (p := ⟨0, 0, none⟩) h0).trans hm)
  have HC1 := Lib.hid fun W => s_Cites ⟨#[115, 101, 101, 32, 64, 110, 103, 44, 32, 112, 46, 32, 51, 59, 32, 45, 64, 108, 105]⟩ W (by decide)
  have HC2 := Lib.hid fun W => s_Cites ⟨#[97, 64, 98]⟩ W (by decide)
  rw [ex_l5] at HC1
  rw [ex_l6] at HC2
  have HF1 := Lib.hid fun W => s_flank ⟨#[95]⟩ 97 98 W
  have HF2 := Lib.hid fun W => s_flank ⟨#[42]⟩ 97 98 W
  rw [ex_f1] at HF1
  rw [ex_f2] at HF2
  unfold CitesPost at HC1 HC2
  obtain ⟨p0, p1, el1, t0, k1, ch1, n1, o1, l1, bg1, nd1⟩ := ex_l1
  obtain ⟨q0, q1, q2, el2, kq0, kq2⟩ := ex_l2
  obtain ⟨r0, r1, r2, el3, ik1, bgr, ndr⟩ := ex_l3
  obtain ⟨x, el4, kx, ix, tx, bx, nx⟩ := ex_l4
  have HB0 : Hid (Below w.heap.size w w) := Lib.hid (Below.refl _ _)
  clear hm h0
  go_enter Tryz.func9, Tryz.ntmps9
  go_wp2_with fail
  ((with_reducible refine (HS.out _ _ (by decide) HB0.out).mono ?_))
  rintro e w1 ⟨b1, v1, rfl, h1⟩
  rw [el1] at h1
  obtain ⟨A1, c1, rfl⟩ := h1.shape
  have H1 := Lib.hid h1
  have HB1 := Lib.hid b1
  clear h1 b1
  go_wp2_with fail
  ((with_reducible refine (HS.out _ _ (by decide) HB1.out).mono ?_))
  rintro e w2 ⟨b2, v2, rfl, h2⟩
  rw [el2] at h2
  obtain ⟨A2, c2, rfl⟩ := h2.shape
  have H2 := Lib.hid h2
  have HB2 := Lib.hid (HB1.out.trans (b2.mono HB1.out.size))
  replace H1 := Lib.hid (H1.out.below b2)
  clear h2 b2 HB1
  go_wp2_with fail
  ((with_reducible refine (HS.out _ _ (by decide) HB2.out).mono ?_))
  rintro e w3 ⟨b3, v3, rfl, h3⟩
  rw [el3] at h3
  obtain ⟨A3, c3, rfl⟩ := h3.shape
  have H3 := Lib.hid h3
  have HB3 := Lib.hid (HB2.out.trans (b3.mono HB2.out.size))
  replace H1 := Lib.hid (H1.out.below b3)
  replace H2 := Lib.hid (H2.out.below b3)
  clear h3 b3 HB2
  go_wp2_with fail
  ((with_reducible refine (HC1.out _).mono ?_))
  rintro e w4 ⟨b4, A4, c4, rfl, h4⟩
  have H4 := Lib.hid h4
  have HB4 := Lib.hid (HB3.out.trans (b4.mono HB3.out.size))
  replace H1 := Lib.hid (H1.out.below b4)
  replace H2 := Lib.hid (H2.out.below b4)
  replace H3 := Lib.hid (H3.out.below b4)
  clear h4 b4 HB3
  go_wp2_with fail
  ((with_reducible refine (HC2.out _).mono ?_))
  rintro e w5 ⟨b5, rfl⟩
  have HB5 := Lib.hid (HB4.out.trans (b5.mono HB4.out.size))
  replace H1 := Lib.hid (H1.out.below b5)
  replace H2 := Lib.hid (H2.out.below b5)
  replace H3 := Lib.hid (H3.out.below b5)
  have H5 := Lib.hid (H4.out.keep (S' := fun _ => True) (fun g hg => b5.block g hg.2) (fun _ _ => trivial))
  clear b5 HB4 H4
  obtain ⟨g1, rfl, -, -, -, y1⟩ := H1.out.look (by simp)
  obtain ⟨g2, rfl, -, -, -, y2⟩ := H2.out.look (by simp)
  obtain ⟨g3, rfl, -, -, -, y3⟩ := H3.out.look (by simp)
  have a0 := y1 0 (by simp)
  have a1 := y1 1 (by simp)
  have d0 := y2 0 (by simp)
  have d2 := y2 2 (by simp)
  have f1 := y3 1 (by simp)
  obtain ⟨g5, o5, rfl, -, y5⟩ := H5.out.row (by decide) (by decide)
  have s0 : w5.cell? ⟨g5, o5, none⟩ = some (.string ⟨#[110, 103]⟩) := y5 0 _ rfl
  have s1 := y5 1 _ rfl
  have s2 := y5 2 _ rfl
  have s3 := y5 3 _ rfl
  have s4 := y5 4 _ rfl
  have s5 := y5 5 _ rfl
  have s6 := y5 6 _ rfl
  have s7 := y5 7 _ rfl
  have a0t := a0.text
  have a1k := a1.kind
  have a1c := a1.ch
  have a1n := a1.num
  have a1o := a1.opn
  have a1l := a1.clo
  have a1b := a1.bg
  have a1d := a1.nd
  have d0k := d0.kind
  have d2k := d2.kind
  have f1i := f1.ik
  have f1b := f1.bg
  have f1d := f1.nd
  simp only [List.getElem_cons_zero, List.getElem_cons_succ, Nat.zero_mul, Nat.one_mul, Nat.zero_add, t0, k1, ch1, n1, o1, l1, bg1, nd1, kq0, kq2, ik1, bgr, ndr] at a0t a1k a1c a1n a1o a1l a1b a1d d0k d2k f1i f1b f1d
  clear y1 y2 y3 y5 a0 a1 d0 d2 f1 H1 H2 H3 H5 t0 k1 ch1 n1 o1 l1 bg1 nd1 kq0 kq2 ik1 bgr ndr el1 el2 el3 HC1 HC2
  go_wp2_with fail
  ((with_reducible refine (HF1.out _).mono ?_))
  rintro e w6 ⟨rfl, rfl⟩
  go_wp2_with fail
  ((with_reducible refine (HF2.out _).mono ?_))
  rintro e w6 ⟨rfl, rfl⟩
  go_wp2_with fail
  ((with_reducible refine (HS.out _ _ (by decide) HB5.out).mono ?_))
  rintro e w6 ⟨b6, v6, rfl, h6⟩
  rw [el4] at h6
  have H6 := Lib.hid h6
  have HB6 := Lib.hid (HB5.out.trans (b6.mono HB5.out.size))
  have HO : Hid (Calls Tryz.prog 19 #[v6, .int .i64 1, .string ⟨#[126, 126, 126]⟩, .int .i64 3] w6 fun e w' => e = .returned (.bool true) ∧ w6 = w') := Lib.hid (s_one 1 3 ⟨#[126, 126, 126]⟩ h6 kx ix tx bx nx)
  clear h6 b6
  go_wp2_with fail
  ((with_reducible refine (HO.out).mono ?_))
  rintro e w7 ⟨rfl, rfl⟩
  go_wp2_with fail
  go_ret
  exact ⟨rfl, HB6.out⟩

end Go.Proofs.YtcjkgmfidkgamaaGreatDoor
namespace Go.Pub
end Go.Pub
namespace Go.Proofs.YtcjkgmfidkgamaaGreatDoor
open Go.RowKit Go.Pub
theorem r4_small (s : ByteArray) (w : World) : Calls Tryz.prog 8 #[.string s] w fun e w' => e = .returned (.bool (decide (s.size ≤ 800))) ∧ w = w' := by
  go_enter Tryz.func8, Tryz.ntmps8
  go_wp2_with fail
  go_ret
  exact ⟨ret_bool (by rw [Bool.eq_iff_iff]; simp; omega), rfl⟩
end Go.Proofs.YtcjkgmfidkgamaaGreatDoor
namespace Go.Pub
/-- The signs '@' ahead of i: none, one, or more. -/
def AtW (p : ByteArray) (i : Nat) (a n : Nat) : Prop :=
  (n = 0 ∧ a = 0 ∧ ∀ j, j < i → bt p j ≠ 64) ∨ (n = 1 ∧ a < i ∧ bt p a = 64 ∧ ∀ j, j < i → j ≠ a → bt p j ≠ 64) ∨ (2 ≤ n ∧ n ≤ i ∧ a < i ∧ ∃ j k, j < k ∧ k < i ∧ bt p j = 64 ∧ bt p k = 64)
theorem AtW.start (p : ByteArray) : AtW p 0 0 0 := .inl ⟨rfl, rfl, fun j h => by omega⟩
theorem AtW.skip {p : ByteArray} {i a n : Nat} (h : AtW p i a n) (hb : bt p i ≠ 64) : AtW p (i + 1) a n := by
  rcases h with ⟨h1, h2, h3⟩ | ⟨h1, h2, h3, h4⟩ | ⟨h1, h2, h3, j, k, h4⟩
  · refine .inl ⟨h1, h2, fun j hj => ?_⟩
    rcases (by omega : j < i ∨ j = i) with h | rfl
    · exact h3 j h
    · exact hb
  · refine .inr (.inl ⟨h1, by omega, h3, fun j hj hne => ?_⟩)
    rcases (by omega : j < i ∨ j = i) with h | rfl
    · exact h4 j h hne
    · exact hb
  · exact .inr (.inr ⟨h1, by omega, by omega, j, k, h4.1, by omega, h4.2.2⟩)
theorem AtW.sign {p : ByteArray} {i a n : Nat} (h : AtW p i a n) (hb : bt p i = 64) : AtW p (i + 1) i (n + 1) := by
  rcases h with ⟨h1, h2, h3⟩ | ⟨h1, h2, h3, h4⟩ | ⟨h1, h2, h3, j, k, h4⟩
  · refine .inr (.inl ⟨by omega, by omega, hb, fun j hj hne => h3 j (by omega)⟩)
  · exact .inr (.inr ⟨by omega, by omega, by omega, a, i, h2, by omega, h3, hb⟩)
  · exact .inr (.inr ⟨by omega, by omega, by omega, j, k, h4.1, by omega, h4.2.2⟩)
theorem AtW.le {p : ByteArray} {i a n : Nat} (h : AtW p i a n) : n ≤ i ∧ a ≤ i := by
  rcases h with ⟨h1, h2, h3⟩ | ⟨h1, h2, h3, h4⟩ | ⟨h1, h2, h3, _⟩ <;> omega
/-- The dash ahead of a sign. -/
def barB (p : ByteArray) (a : Nat) : Bool := decide (0 < a) && bt p (a - 1) == 45
def frA (p : ByteArray) (a : Nat) : Nat := if barB p a = true then a - 1 else a
theorem AtW.not_one {p : ByteArray} {a n : Nat} (h : AtW p p.size a n) (hn : n ≠ 1) : citedI p = none := by
  unfold citedI
  simp only []
  rw [if_neg]
  rintro ⟨h1, h2, _⟩
  have h64 : bt p (citA p) = 64 := by
    have := toE_stop p 0 (fun b => b == 64) h1
    exact beq_iff_eq.1 this
  rcases h with ⟨q1, q2, q3⟩ | ⟨q1, _⟩ | ⟨q1, q2, q3, j, k, q4, q5, q6, q7⟩
  · exact q3 _ h1 h64
  · exact hn q1
  · have hj : citA p ≤ j := by
      rcases Nat.lt_or_ge j (citA p) with hl | hl
      · have := toE_in p 0 (fun b => b == 64) j (by omega) hl
        simp [q6] at this
      · exact hl
    have := toE_in p (citA p + 1) (fun b => b == 64) k (by omega) (by omega)
    simp [q7] at this
theorem AtW.one {p : ByteArray} {a : Nat} (h : AtW p p.size a 1) : a < p.size ∧ bt p a = 64 ∧
    citedI p = if frA p a = 0 ∨ bt p (frA p a - 1) = 32 then (nmEnd p (a + 1)).map (fun k => ⟨p.extract (a + 1) k, mk (trimL (sub p 0 (frA p a))), mk (trimL (sfx p k)), barB p a⟩) else none := by
  rcases h with ⟨q1, _⟩ | ⟨_, q1, q2, q3⟩ | ⟨q1, _⟩
  · omega
  · have ea : citA p = a := toE_eq p 0 _ a (by omega) (by omega) (fun j _ hj => by simpa using q3 j (by omega) (by omega)) fun _ => by simpa using q2
    have eb : toE p (a + 1) (fun b => b == 64) = p.size := toE_eq p (a + 1) _ p.size (by omega) (Nat.le_refl _) (fun j h1 h2 => by simpa using q3 j h2 (by omega)) fun h => by omega
    refine ⟨q1, q2, ?_⟩
    unfold citedI
    simp only [ea]
    show (if a < p.size ∧ toE p (a + 1) (fun b => b == 64) ≥ p.size ∧ (frA p a = 0 ∨ bt p (frA p a - 1) = 32) then (nmEnd p (a + 1)).map (fun k => (⟨p.extract (a + 1) k, mk (trimL (sub p 0 (frA p a))), mk (trimL (sfx p k)), barB p a⟩ : CitL)) else none) = _
    by_cases hc : frA p a = 0 ∨ bt p (frA p a - 1) = 32
    · rw [if_pos hc, if_pos ⟨q1, by omega, hc⟩]
    · rw [if_neg hc, if_neg fun c => hc c.2.2]
  · omega
end Go.Pub
namespace Go.Pub
theorem sub_consA (s : ByteArray) (a i : Nat) (h : a < i) (hs : a < s.size) : sub s a i = s.get! a :: sub s (a + 1) i := by
  have h1 : sub s a i = (sfx s a).take (i - a) := rfl
  have h2 : sub s (a + 1) i = (sfx s (a + 1)).take (i - (a + 1)) := rfl
  rw [h1, h2, sfx_cons s a hs, show i - a = (i - (a + 1)) + 1 by omega, List.take_succ_cons]
theorem u59 (s : ByteArray) (a : Nat) : s.get! a = 59 ↔ bt s a = 59 := bt_u8 s a 59 (by decide)
theorem semi_seg (s : ByteArray) (i : Nat) (hi : i < s.size) (h : bt s i = 59) : ∀ n a, i - a = n → a ≤ i → (∀ j, a ≤ j → j < i → bt s j ≠ 59) → semiL (sfx s a) = sub s a i :: semiL (sfx s (i + 1))
  | 0, a, hn, ha, hj => by
    obtain rfl : a = i := by omega
    rw [sfx_cons s a hi]
    conv => lhs; unfold semiL
    rw [if_pos ((u59 s a).2 h)]
    have : sub s a a = [] := by unfold sub; simp
    rw [this]
  | n + 1, a, hn, ha, hj => by
    have hlt : a < i := by omega
    rw [sfx_cons s a (by omega), sub_consA s a i hlt (by omega)]
    conv => lhs; unfold semiL
    rw [if_neg fun e => hj a (Nat.le_refl _) hlt ((u59 s a).1 e), semi_seg s i hi h n (a + 1) (by omega) (by omega) fun j h1 h2 => hj j (by omega) h2]
theorem semi_end (s : ByteArray) : ∀ n a, s.size - a = n → (∀ j, a ≤ j → j < s.size → bt s j ≠ 59) → semiL (sfx s a) = [sfx s a]
  | 0, a, hn, hj => by rw [sfx_nil s a (by omega)]; rfl
  | n + 1, a, hn, hj => by
    have hlt : a < s.size := by omega
    rw [sfx_cons s a hlt]
    conv => lhs; unfold semiL
    rw [if_neg fun e => hj a (Nat.le_refl _) hlt ((u59 s a).1 e), semi_end s n (a + 1) (by omega) fun j h1 h2 => hj j (by omega) h2]
def badN (b : Nat) : Bool := b == 91 || b == 93 || b == 96 || b == 123 || b == 36 || b == 10
theorem badN_C (b : UInt8) : badC b = badN b.toNat := by
  unfold badC badN
  have e : ∀ (k : Nat), k < 256 → (b == UInt8.ofNat k) = (b.toNat == k) := fun k hk => by
    rw [Bool.eq_iff_iff, beq_iff_eq, beq_iff_eq]; exact u8_nat b k hk
  rw [show (b == 91) = (b.toNat == 91) from e 91 (by decide), show (b == 93) = (b.toNat == 93) from e 93 (by decide), show (b == 123) = (b.toNat == 123) from e 123 (by decide), show (b == 96) = (b.toNat == 96) from e 96 (by decide), show (b == 36) = (b.toNat == 36) from e 36 (by decide), show (b == 10) = (b.toNat == 10) from e 10 (by decide)]
  generalize (b.toNat == 91) = q1; generalize (b.toNat == 93) = q2; generalize (b.toNat == 123) = q3; generalize (b.toNat == 96) = q4; generalize (b.toNat == 36) = q5; generalize (b.toNat == 10) = q6
  revert q1 q2 q3 q4 q5 q6
  decide
theorem any_none (s : ByteArray) : ∀ n a, s.size - a = n → (∀ j, a ≤ j → j < s.size → badN (bt s j) = false) → (sfx s a).any badC = false
  | 0, a, hn, hj => by rw [sfx_nil s a (by omega)]; rfl
  | n + 1, a, hn, hj => by
    have hlt : a < s.size := by omega
    rw [sfx_cons s a hlt, List.any_cons, any_none s n (a + 1) (by omega) fun j h1 h2 => hj j (by omega) h2, badN_C]
    have := hj a (Nat.le_refl _) hlt
    unfold bt at this
    rw [this]; rfl
theorem any_some (s : ByteArray) (i : Nat) (hi : i < s.size) (h : badN (bt s i) = true) : (bytesL s).any badC = true := by
  rw [List.any_eq_true]
  refine ⟨s.get! i, ?_, by rw [badN_C]; exact h⟩
  have h2 : sfx s i = s.get! i :: sfx s (i + 1) := sfx_cons s i hi
  have h3 : s.get! i ∈ sfx s i := by rw [h2]; exact List.mem_cons_self
  exact List.mem_of_mem_drop h3
/-- The citations up to the part that begins at a: those of the whole are they and the rest's. -/
structure CitW (s : ByteArray) (i a : Nat) (cs : List CitL) : Prop where
  ai : a ≤ i
  good : ∀ j, j < i → j < s.size → badN (bt s j) = false
  part : ∀ j, a ≤ j → j < i → bt s j ≠ 59
  rest : a ≤ s.size → allC (semiL (bytesL s)) = (allC (semiL (sfx s a))).map (cs ++ ·)
theorem CitW.start (s : ByteArray) : CitW s 0 0 [] := ⟨Nat.le_refl _, fun j h => by omega, fun j _ h => by omega, fun _ => by
  show allC (semiL (bytesL s)) = (allC (semiL (sfx s 0))).map ([] ++ ·)
  have : sfx s 0 = bytesL s := rfl
  rw [this]
  cases allC (semiL (bytesL s)) <;> rfl⟩
theorem CitW.bad {s : ByteArray} {i a : Nat} {cs : List CitL} (h : CitW s i a cs) (hi : i < s.size) (hb : badN (bt s i) = true) : citesI s = none := by
  unfold citesI
  rw [if_pos (any_some s i hi hb)]
theorem CitW.step {s : ByteArray} {i a : Nat} {cs : List CitL} (h : CitW s i a cs) (hb : badN (bt s i) = false) (h59 : bt s i ≠ 59) : CitW s (i + 1) a cs :=
  ⟨Nat.le_succ_of_le h.ai, fun j h1 h2 => by
    rcases (by omega : j < i ∨ j = i) with h3 | rfl
    · exact h.good j h3 h2
    · exact hb, fun j h1 h2 => by
    rcases (by omega : j < i ∨ j = i) with h3 | rfl
    · exact h.part j h1 h3
    · exact h59, h.rest⟩
theorem CitW.seg {s : ByteArray} {i a : Nat} {cs : List CitL} (h : CitW s i a cs) (hi : i < s.size) (h59 : bt s i = 59) : allC (semiL (bytesL s)) = (citedI (s.extract a i)).bind fun c => (allC (semiL (sfx s (i + 1)))).map ((cs ++ [c]) ++ ·) := by
  have e : Go.Pub.mk (sub s a i) = s.extract a i := by rw [← bytesL_sub, mk_bytesL]
  rw [h.rest (by have := h.ai; omega), semi_seg s i hi h59 _ a rfl h.ai h.part]
  show (allC (sub s a i :: semiL (sfx s (i + 1)))).map (cs ++ ·) = _
  rw [show allC (sub s a i :: semiL (sfx s (i + 1))) = (citedI (Go.Pub.mk (sub s a i))).bind fun c => (allC (semiL (sfx s (i + 1)))).map fun cs => c :: cs from rfl, e]
  cases citedI (s.extract a i) with
  | none => rfl
  | some c =>
    show Option.map _ ((allC (semiL (sfx s (i + 1)))).map fun cs => c :: cs) = _
    cases allC (semiL (sfx s (i + 1))) <;> simp
theorem CitW.last {s : ByteArray} {a : Nat} {cs : List CitL} (h : CitW s s.size a cs) : citesI s = (citedI (s.extract a s.size)).map fun c => cs ++ [c] := by
  have e : Go.Pub.mk (sfx s a) = s.extract a s.size := by
    rw [← mk_bytesL (s.extract a s.size), bytesL_sub]
    unfold sub sfx
    rw [List.take_of_length_le (by rw [List.length_drop, bytesL_length]; exact Nat.le_refl _)]
  have hn := any_none s (s.size - 0) 0 rfl fun j _ h2 => h.good j h2 h2
  have h0 : sfx s 0 = bytesL s := rfl
  rw [h0] at hn
  unfold citesI
  rw [if_neg (by rw [hn]; simp), h.rest h.ai, semi_end s _ a rfl fun j h1 h2 => h.part j h1 h2]
  unfold allC allC
  rw [e]
  cases citedI (s.extract a s.size) <;> rfl
theorem CitW.fail {s : ByteArray} {i a : Nat} {cs : List CitL} (h : CitW s i a cs) (hi : i < s.size) (h59 : bt s i = 59) (hc : citedI (s.extract a i) = none) : citesI s = none := by
  unfold citesI
  rw [h.seg hi h59, hc]
  show (if _ then none else none) = none
  split <;> rfl
theorem CitW.next {s : ByteArray} {i a : Nat} {cs : List CitL} {c : CitL} (h : CitW s i a cs) (hi : i < s.size) (h59 : bt s i = 59) (hc : citedI (s.extract a i) = some c) : CitW s (i + 1) (i + 1) (cs ++ [c]) :=
  ⟨Nat.le_refl _, fun j h1 h2 => by
    rcases (by omega : j < i ∨ j = i) with h3 | rfl
    · exact h.good j h3 h2
    · rw [h59]; rfl, fun j h1 h2 => by omega, fun _ => by rw [h.seg hi h59, hc]; rfl⟩
end Go.Pub
namespace Go.Pub
theorem dropW_app (p : UInt8 → Bool) (b : UInt8) : ∀ l : List UInt8, (l ++ [b]).dropWhile p = if l.dropWhile p = [] then [b].dropWhile p else l.dropWhile p ++ [b]
  | [] => by simp
  | c :: l => by
    rw [List.cons_append, List.dropWhile_cons, List.dropWhile_cons]
    by_cases h : p c = true
    · rw [if_pos h, if_pos h, dropW_app p b l]
    · rw [if_neg h, if_neg h, if_neg (by simp)]; rfl
theorem trimL_head (l : List UInt8) : trimL (32 :: l) = trimL l := by
  unfold trimL Lib.trimB Lib.trimRightB Lib.trimLeftB
  rw [List.reverse_cons, dropW_app]
  by_cases h : l.reverse.dropWhile (· == 32) = []
  · rw [if_pos h, h]; rfl
  · rw [if_neg h, List.reverse_append]
    show ((32 : UInt8) :: (l.reverse.dropWhile (· == 32)).reverse).dropWhile (· == 32) = _
    rw [List.dropWhile_cons, if_pos (by decide)]
theorem trimL_last (l : List UInt8) : trimL (l ++ [32]) = trimL l := by
  unfold trimL Lib.trimB Lib.trimRightB
  rw [List.reverse_append]
  show Lib.trimLeftB (((32 : UInt8) :: l.reverse).dropWhile (· == 32)).reverse 32 = _
  rw [List.dropWhile_cons, if_pos (by decide)]
theorem trimL_stay (l : List UInt8) (h1 : l.head? ≠ some 32) (h2 : l.getLast? ≠ some 32) : trimL l = l := by
  have e : l.reverse.dropWhile (· == 32) = l.reverse := by
    cases hr : l.reverse with
    | nil => rfl
    | cons b r =>
      rw [List.dropWhile_cons, if_neg]
      intro hb
      have hb : b = 32 := by simpa using hb
      apply h2
      rw [← List.head?_reverse, hr, hb]; rfl
  unfold trimL Lib.trimB Lib.trimRightB
  rw [e, List.reverse_reverse]
  unfold Lib.trimLeftB
  cases l with
  | nil => rfl
  | cons b r =>
    rw [List.dropWhile_cons, if_neg]
    intro hb
    have hb : b = 32 := by simpa using hb
    exact h1 (by rw [hb]; rfl)
theorem trim_first {s : ByteArray} (h : 0 < s.size) (hb : bt s 0 = 32) : trimL (bytesL (s.extract 1 s.size)) = trimL (bytesL s) := by
  have h0 : bytesL s = sfx s 0 := rfl
  have e : bytesL s = 32 :: sfx s 1 := by rw [h0, sfx_cons s 0 h, (bt_u8 s 0 32 (by decide)).2 hb]; rfl
  rw [e, trimL_head, suffix_bytes]
theorem trim_final {s : ByteArray} (h : 0 < s.size) (hb : bt s (s.size - 1) = 32) : trimL (bytesL (s.extract 0 (s.size - 1))) = trimL (bytesL s) := by
  have e : bytesL s = bytesL (s.extract 0 (s.size - 1)) ++ [32] := by
    rw [bytesL_sub]
    have h1 := sub_snocA s 0 (s.size - 1) (by omega) (by omega)
    rw [show s.size - 1 + 1 = s.size by omega, (bt_u8 s (s.size - 1) 32 (by decide)).2 hb] at h1
    show bytesL s = sub s 0 (s.size - 1) ++ [UInt8.ofNat 32]
    rw [← h1]
    unfold sub
    rw [List.drop_zero, List.take_of_length_le (by rw [bytesL_length]; omega)]
  rw [e, trimL_last]
theorem trim_done {s : ByteArray} (h1 : s.size = 0 ∨ bt s 0 ≠ 32) (h2 : s.size = 0 ∨ bt s (s.size - 1) ≠ 32) : s = mk (trimL (bytesL s)) := by
  rcases Nat.eq_zero_or_pos s.size with h | h
  · have e : bytesL s = [] := by
      apply List.eq_nil_of_length_eq_zero; rw [bytesL_length, h]
    have e2 : mk (bytesL s) = s := mk_bytesL s
    rw [e] at e2 ⊢
    exact e2.symm
  · have h0 : bytesL s = sfx s 0 := rfl
    have a1 : (bytesL s).head? ≠ some 32 := by
      rw [h0, sfx_cons s 0 h]
      intro c
      injection c with c
      exact absurd ((bt_u8 s 0 32 (by decide)).1 c) (by omega)
    have a2 : (bytesL s).getLast? ≠ some 32 := by
      intro c
      rw [List.getLast?_eq_getElem?, bytesL_length] at c
      have h3 : (sfx s (s.size - 1))[0]? = (bytesL s)[s.size - 1]? := by unfold sfx; rw [List.getElem?_drop, Nat.add_zero]
      rw [← h3, sfx_cons s _ (by omega)] at c
      injection c with c
      exact absurd ((bt_u8 s _ 32 (by decide)).1 c) (by omega)
    rw [trimL_stay _ a1 a2, mk_bytesL]
end Go.Pub
namespace Go.Proofs.YtcjkgmfidkgamaaGreatDoor
open Go.RowKit Go.Pub
def szV : Value → Nat | .string s => s.size | _ => 0
theorem str_ne {x : ByteArray} (h : 0 < x.size) : x.toList ≠ [] := (cons_list x fun e => by have := (size_nil x).2 e; omega).1
theorem str_nil {x : ByteArray} (h : x.size = 0) : x.toList = [] := (nil_list x ((size_nil x).1 h)).1
set_option maxRecDepth 100000 in
set_option maxHeartbeats 1000000 in
theorem r9_trim (s : ByteArray) (w : World) (hs : s.size ≤ 1000000) : Calls Tryz.prog 68 #[.string s] w fun e w' => e = .returned (.string (mk (trimL (bytesL s)))) ∧ w = w' := by
  obtain ⟨R, hR⟩ : ∃ R, R = trimL (bytesL s) := ⟨_, rfl⟩
  rw [← hR]
  have HR : Hid (trimL (bytesL s) = R) := Lib.hid hR.symm
  clear hR
  go_enter Tryz.func68, Tryz.ntmps68
  go_wp2_with fail
  go_loop [0] (fun v => ∃ x : ByteArray, v = .string x ∧ x.size ≤ 1000000 ∧ Hid (trimL (bytesL x) = R)) (fun v => szV v)
  case atStart => exact ⟨s, rfl, hs, HR⟩
  case round =>
    clear HR
    obtain ⟨x, rfl, hx, HX⟩ := hrel
    obtain ⟨q, hq⟩ : ∃ q, q = (decide (0 < x.size) && bt x 0 == 32) := ⟨_, rfl⟩
    have HQ := Lib.hid hq
    clear hq
    go_upto_region 1 with fail
    go_cut [9] from 3 to 11 (fun s9 wx => s9 = .bool q ∧ w = wx)
    case first =>
      by_cases h0 : 0 < x.size
      · have hg := get_bt x 0 h0
        have y1 := str_ne h0
        have y2 : x.toList.isEmpty = false := by rw [List.isEmpty_eq_false_iff]; exact y1
        have y3 : (x.toList != ([] : List UInt8)) = true := bne_iff_ne.2 y1
        by_cases hb : bt x 0 = 32
        · have HQ2 : Hid (q = true) := Lib.hid (by rw [HQ.out, decide_eq_true h0, hb]; rfl)
          rw [hb] at hg
          clear hb HQ
          go_wp2_with fail
          go_meet
          case rel => exact ⟨by rw [HQ2.out], rfl⟩
        · have HQ2 : Hid (q = false) := Lib.hid (by rw [HQ.out, decide_eq_true h0, Bool.true_and]; exact beq_eq_false_iff_ne.2 hb)
          have n1 : ((bt x 0 : Int) == 32) = false := beq_eq_false_iff_ne.2 (by omega)
          clear hb HQ
          generalize bt x 0 = b at *
          go_wp2_with fail
          go_meet
          case rel => exact ⟨by rw [HQ2.out], rfl⟩
      · have HQ2 : Hid (q = false) := Lib.hid (by rw [HQ.out, decide_eq_false h0]; rfl)
        have y1 := str_nil (x := x) (by omega)
        have y2 : x.toList.isEmpty = true := by rw [y1]; rfl
        have y3 : (x.toList != ([] : List UInt8)) = false := by rw [y1]; rfl
        clear HQ
        go_wp2_with fail
        go_meet
        case rel => exact ⟨by rw [HQ2.out], rfl⟩
    case rest =>
    obtain ⟨rfl, rfl⟩ := hcut
    cases q
    · have HH : Hid (x.size = 0 ∨ bt x 0 ≠ 32) := Lib.hid (by
        have := HQ.out
        simp at this
        rcases Nat.eq_zero_or_pos x.size with h | h
        · exact .inl h
        · exact .inr (this h))
      clear HQ
      go_wp2_with fail
      go_loop [0] (fun v => ∃ y : ByteArray, v = .string y ∧ y.size ≤ 1000000 ∧ Hid (trimL (bytesL y) = R) ∧ Hid (y.size = 0 ∨ bt y 0 ≠ 32)) (fun v => szV v)
      case atStart => exact ⟨x, rfl, hx, HX, HH⟩
      case round =>
        clear HX HH hx
        obtain ⟨y, rfl, hy, HX, HH⟩ := hrel
        obtain ⟨q, hq⟩ : ∃ q, q = (decide (0 < y.size) && bt y (y.size - 1) == 32) := ⟨_, rfl⟩
        have HQ := Lib.hid hq
        clear hq
        have e1 : 0 < y.size → (y.size : Int) - 1 = ((y.size - 1 : Nat) : Int) := fun h => by omega
        have e2 : 0 < y.size → ((y.size : Int) - 1).toNat = y.size - 1 := fun h => by omega
        go_upto_region 3 with fail
        go_cut [21] from 12 to 26 (fun s21 wx => s21 = .bool q ∧ w = wx)
        case first =>
          by_cases h0 : 0 < y.size
          · have hg := get_bt y (y.size - 1) (by omega)
            have f1 := e1 h0
            have f2 := e2 h0
            have y1 := str_ne h0
            have y2 : y.toList.isEmpty = false := by rw [List.isEmpty_eq_false_iff]; exact y1
            have y3 : (y.toList != ([] : List UInt8)) = true := bne_iff_ne.2 y1
            by_cases hb : bt y (y.size - 1) = 32
            · have HQ2 : Hid (q = true) := Lib.hid (by rw [HQ.out, decide_eq_true h0, hb]; rfl)
              rw [hb] at hg
              clear hb HQ e1 e2
              go_wp2_with fail
              go_meet
              case rel => exact ⟨by rw [HQ2.out], rfl⟩
            · have HQ2 : Hid (q = false) := Lib.hid (by rw [HQ.out, decide_eq_true h0, Bool.true_and]; exact beq_eq_false_iff_ne.2 hb)
              have n1 : ((bt y (y.size - 1) : Int) == 32) = false := beq_eq_false_iff_ne.2 (by omega)
              clear hb HQ e1 e2
              generalize bt y (y.size - 1) = b at *
              go_wp2_with fail
              go_meet
              case rel => exact ⟨by rw [HQ2.out], rfl⟩
          · have HQ2 : Hid (q = false) := Lib.hid (by rw [HQ.out, decide_eq_false h0]; rfl)
            have y1 := str_nil (x := y) (by omega)
            have y2 : y.toList.isEmpty = true := by rw [y1]; rfl
            have y3 : (y.toList != ([] : List UInt8)) = false := by rw [y1]; rfl
            clear HQ e1 e2
            go_wp2_with fail
            go_meet
            case rel => exact ⟨by rw [HQ2.out], rfl⟩
        case rest =>
        obtain ⟨rfl, rfl⟩ := hcut
        cases q
        · have HE : Hid (y = mk R) := Lib.hid (by
            rw [← HX.out]
            refine trim_done HH.out ?_
            have := HQ.out
            simp at this
            rcases Nat.eq_zero_or_pos y.size with h | h
            · exact .inl h
            · exact .inr (this h))
          clear HX HH HQ e1 e2
          go_wp2_with fail
          go_ret
          exact ⟨ret_str HE.out, rfl⟩
        · obtain ⟨h0, hb⟩ : 0 < y.size ∧ bt y (y.size - 1) = 32 := by
            have := HQ.out.symm
            simpa using this
          have f1 := e1 h0
          have f2 := e2 h0
          have HN : Hid (trimL (bytesL (y.extract 0 (y.size - 1))) = R) := Lib.hid ((trim_final h0 hb).trans HX.out)
          have hz : (y.extract 0 (y.size - 1)).size = y.size - 1 := by rw [ByteArray.size_extract]; omega
          have HN2 : Hid ((y.extract 0 (y.size - 1)).size = 0 ∨ bt (y.extract 0 (y.size - 1)) 0 ≠ 32) := Lib.hid (by
            rcases (by omega : y.size = 1 ∨ 2 ≤ y.size) with h | h
            · exact .inl (by omega)
            · refine .inr ?_
              rw [extract_bt y 0 (y.size - 1) (by omega) 0 (by omega), Nat.zero_add]
              exact HH.out.resolve_left (by omega))
          clear HX HH HQ e1 e2 hb
          go_wp2_with fail
          go_round
          case rel => exact ⟨_, rfl, by omega, HN, HN2⟩
          case measure => simp only [szV]; omega
    · obtain ⟨h0, hb⟩ : 0 < x.size ∧ bt x 0 = 32 := by
        have := HQ.out.symm
        simpa using this
      have HN : Hid (trimL (bytesL (x.extract 1 x.size)) = R) := Lib.hid ((trim_first h0 hb).trans HX.out)
      have hz : (x.extract 1 x.size).size = x.size - 1 := by rw [ByteArray.size_extract]; omega
      clear HQ HX hb
      go_wp2_with fail
      go_round
      case rel => exact ⟨_, rfl, by omega, HN⟩
      case measure => simp only [szV]; omega

end Go.Proofs.YtcjkgmfidkgamaaGreatDoor
namespace Go.Proofs.YtcjkgmfidkgamaaGreatDoor
open Go.RowKit Go.Pub
set_option maxRecDepth 100000 in
set_option maxHeartbeats 1000000 in
theorem r9_letter (b : Nat) (hb : b < 256) (w : World) : Calls Tryz.prog 90 #[.int .u8 (b : Nat)] w fun e w' => e = .returned (.bool (letterN b)) ∧ w = w' := by
  have HR : Hid (letterN b = ((decide (97 ≤ b) && decide (b ≤ 122)) || (decide (65 ≤ b) && decide (b ≤ 90)))) := Lib.hid rfl
  generalize letterN b = R at *
  have hcase : (decide (97 ≤ (b : Int)) = true ∧ decide (97 ≤ b) = true ∧ ((decide ((b : Int) ≤ 122) = true ∧ decide (b ≤ 122) = true ∧ Hid (R = true)) ∨ (decide ((b : Int) ≤ 122) = false ∧ decide (b ≤ 122) = false ∧ decide (65 ≤ (b : Int)) = true ∧ decide (65 ≤ b) = true ∧ decide ((b : Int) ≤ 90) = false ∧ decide (b ≤ 90) = false ∧ Hid (R = false)))) ∨
      (decide (97 ≤ (b : Int)) = false ∧ decide (97 ≤ b) = false ∧ ((decide (65 ≤ (b : Int)) = false ∧ decide (65 ≤ b) = false ∧ Hid (R = false)) ∨ (decide (65 ≤ (b : Int)) = true ∧ decide (65 ≤ b) = true ∧ ((decide ((b : Int) ≤ 90) = true ∧ decide (b ≤ 90) = true ∧ Hid (R = true)) ∨ (decide ((b : Int) ≤ 90) = false ∧ decide (b ≤ 90) = false ∧ Hid (R = false)))))) := by
    by_cases a1 : 97 ≤ b
    · left
      refine ⟨decide_eq_true (by omega), decide_eq_true a1, ?_⟩
      by_cases a2 : b ≤ 122
      · left; exact ⟨decide_eq_true (by omega), decide_eq_true a2, Lib.hid (by rw [HR.out, decide_eq_true a1, decide_eq_true a2]; rfl)⟩
      · right; exact ⟨decide_eq_false (by omega), decide_eq_false a2, decide_eq_true (by omega), decide_eq_true (by omega), decide_eq_false (by omega), decide_eq_false (by omega), Lib.hid (by rw [HR.out, decide_eq_true a1, decide_eq_false a2, decide_eq_false (show ¬ b ≤ 90 by omega)]; simp)⟩
    · right
      refine ⟨decide_eq_false (by omega), decide_eq_false a1, ?_⟩
      by_cases a3 : 65 ≤ b
      · right
        refine ⟨decide_eq_true (by omega), decide_eq_true a3, ?_⟩
        by_cases a4 : b ≤ 90
        · left; exact ⟨decide_eq_true (by omega), decide_eq_true a4, Lib.hid (by rw [HR.out, decide_eq_true a3, decide_eq_true a4]; simp)⟩
        · right; exact ⟨decide_eq_false (by omega), decide_eq_false a4, Lib.hid (by rw [HR.out, decide_eq_false a1, decide_eq_false a4]; simp)⟩
      · left; exact ⟨decide_eq_false (by omega), decide_eq_false a3, Lib.hid (by rw [HR.out, decide_eq_false a1, decide_eq_false a3]; simp)⟩
  clear HR
  rcases hcase with ⟨a1, a1', ⟨a2, a2', HF⟩ | ⟨a2, a2', a3, a3', a4, a4', HF⟩⟩ | ⟨a1, a1', ⟨a3, a3', HF⟩ | ⟨a3, a3', ⟨a4, a4', HF⟩ | ⟨a4, a4', HF⟩⟩⟩
  all_goals
    go_enter Tryz.func90, Tryz.ntmps90
    go_wp2_with fail
    go_ret
    exact ⟨ret_bool HF.out.symm, rfl⟩

set_option maxRecDepth 100000 in
set_option maxHeartbeats 1000000 in
theorem r9_digit (b : Nat) (w : World) : Calls Tryz.prog 88 #[.int .u8 (b : Nat)] w fun e w' => e = .returned (.bool (dgN b)) ∧ w = w' := by
  by_cases h1 : 48 ≤ b
  · by_cases h2 : b ≤ 57
    · have HR : Hid (dgN b = true) := Lib.hid (by unfold dgN; rw [decide_eq_true h1, decide_eq_true h2]; rfl)
      have a1 : decide (48 ≤ (b : Int)) = true := decide_eq_true (by omega)
      have a2 : decide ((b : Int) ≤ 57) = true := decide_eq_true (by omega)
      generalize dgN b = R at *
      go_enter Tryz.func88, Tryz.ntmps88
      go_wp2_with fail
      go_ret
      exact ⟨ret_bool HR.out.symm, rfl⟩
    · have HR : Hid (dgN b = false) := Lib.hid (by unfold dgN; rw [decide_eq_false h2, Bool.and_false])
      have a1 : decide (48 ≤ (b : Int)) = true := decide_eq_true (by omega)
      have a2 : decide ((b : Int) ≤ 57) = false := decide_eq_false (by omega)
      generalize dgN b = R at *
      go_enter Tryz.func88, Tryz.ntmps88
      go_wp2_with fail
      go_ret
      exact ⟨ret_bool HR.out.symm, rfl⟩
  · have HR : Hid (dgN b = false) := Lib.hid (by unfold dgN; rw [decide_eq_false h1]; rfl)
    have a1 : decide (48 ≤ (b : Int)) = false := decide_eq_false (by omega)
    generalize dgN b = R at *
    go_enter Tryz.func88, Tryz.ntmps88
    go_wp2_with fail
    go_ret
    exact ⟨ret_bool HR.out.symm, rfl⟩

set_option maxRecDepth 100000 in
set_option maxHeartbeats 2000000 in
theorem r9_nb (b : Nat) (hb : b < 256) (w : World) : Calls Tryz.prog 118 #[.int .u8 (b : Nat)] w fun e w' => e = .returned (.bool (partN b)) ∧ w = w' := by
  have HL := Lib.hid fun W => r9_letter b hb W
  have HD := Lib.hid fun W => r9_digit b W
  have HP : Hid (partN b = (letterN b || dgN b || b == 45 || b == 95 || b == 46 || b == 58)) := Lib.hid rfl
  generalize partN b = p at *
  generalize letterN b = L at *
  generalize dgN b = D at *
  cases L
  · cases D
    · by_cases hx : b = 45 ∨ b = 95 ∨ b = 46 ∨ b = 58
      · have HT : Hid (p = true) := Lib.hid (by rw [HP.out]; rcases hx with rfl | rfl | rfl | rfl <;> rfl)
        clear HP hb
        rcases hx with rfl | rfl | rfl | rfl
        all_goals
          go_enter Tryz.func118, Tryz.ntmps118
          go_wp2_with fail
          (refine (HL.out _).mono ?_)
          rintro e w1 ⟨rfl, rfl⟩
          go_wp2_with fail
          (refine (HD.out _).mono ?_)
          rintro e w1 ⟨rfl, rfl⟩
          go_wp2_with fail
          go_ret
          exact ⟨ret_bool HT.out.symm, rfl⟩
      · have n1 : ((b : Int) == 45) = false := beq_eq_false_iff_ne.2 (by omega)
        have n2 : ((b : Int) == 95) = false := beq_eq_false_iff_ne.2 (by omega)
        have n3 : ((b : Int) == 46) = false := beq_eq_false_iff_ne.2 (by omega)
        have n4 : ((b : Int) == 58) = false := beq_eq_false_iff_ne.2 (by omega)
        have HT : Hid (p = false) := Lib.hid (by
          rw [HP.out, beq_eq_false_iff_ne.2 (show b ≠ 45 by omega), beq_eq_false_iff_ne.2 (show b ≠ 95 by omega), beq_eq_false_iff_ne.2 (show b ≠ 46 by omega), beq_eq_false_iff_ne.2 (show b ≠ 58 by omega)]
          rfl)
        clear HP hx
        go_enter Tryz.func118, Tryz.ntmps118
        go_wp2_with fail
        ((with_reducible refine (HL.out _).mono ?_))
        rintro e w1 ⟨rfl, rfl⟩
        go_wp2_with fail
        ((with_reducible refine (HD.out _).mono ?_))
        rintro e w1 ⟨rfl, rfl⟩
        go_wp2_with fail
        go_ret
        exact ⟨ret_bool HT.out.symm, rfl⟩
    · have HT : Hid (p = true) := Lib.hid (by rw [HP.out]; rfl)
      clear HP
      go_enter Tryz.func118, Tryz.ntmps118
      go_wp2_with fail
      ((with_reducible refine (HL.out _).mono ?_))
      rintro e w1 ⟨rfl, rfl⟩
      go_wp2_with fail
      ((with_reducible refine (HD.out _).mono ?_))
      rintro e w1 ⟨rfl, rfl⟩
      go_wp2_with fail
      go_ret
      exact ⟨ret_bool HT.out.symm, rfl⟩
  · have HT : Hid (p = true) := Lib.hid (by rw [HP.out]; rfl)
    clear HP
    go_enter Tryz.func118, Tryz.ntmps118
    go_wp2_with fail
    ((with_reducible refine (HL.out _).mono ?_))
    rintro e w1 ⟨rfl, rfl⟩
    go_wp2_with fail
    go_ret
    exact ⟨ret_bool HT.out.symm, rfl⟩

def endV (o : Option Nat) : Int := match o with | some k => k | none => -1
set_option maxRecDepth 100000 in
set_option maxHeartbeats 2000000 in
theorem r9_name (s : ByteArray) (i : Nat) (w : World) (hs : s.size ≤ 1000000) (hi : i ≤ s.size) : Calls Tryz.prog 67 #[.string s, .int .i64 i] w fun e w' => e = .returned (.int .i64 (endV (nmEnd s i))) ∧ w = w' := by
  have HW : Hid (wEnd s (s.size - i) i = wordAt s i) := Lib.hid rfl
  have hb1 := (wordAt_bd s i).1
  have hb2 := (wordAt_bd s i).2 hi
  have HN := Lib.hid fun W => rname_any (s.extract i (wordAt s i)) W (by rw [ByteArray.size_extract]; omega)
  have HE : Hid (nmEnd s i = if nameB (s.extract i (wordAt s i)) = true then some (wordAt s i) else none) := Lib.hid rfl
  generalize nmEnd s i = E at *
  generalize wordAt s i = R at *
  generalize nameB (s.extract i R) = nb at *
  have HC := Lib.hid fun (b : Nat) (hb : b < 256) W => r9_nb b hb W
  go_enter Tryz.func67, Tryz.ntmps67
  go_wp2_with fail
  go_loop [5] (fun v => ∃ k f : Nat, v = .int .i64 k ∧ Hid (wEnd s f k = R) ∧ s.size - k ≤ f) (fun v => s.size - (intOf v).toNat)
  case atStart => exact ⟨i, s.size - i, rfl, HW, Nat.le_refl _⟩
  case round =>
    clear HW
    obtain ⟨k, f, rfl, HR, hf⟩ := hrel
    obtain ⟨q, hq⟩ : ∃ q, q = (decide (k < s.size) && partN (bt s k)) := ⟨_, rfl⟩
    have HQ := Lib.hid hq
    clear hq
    have hst := Lib.hid fun hk => wEnd_step s f k hk
    have hsp := Lib.hid (wEnd_stop s f k)
    go_upto_region 2 with fail
    go_cut [16] from 7 to 18 (fun s16 wx => s16 = .bool q ∧ w = wx)
    case first =>
      by_cases hk : k < s.size
      · have hg := get_bt s k hk
        have HCk := Lib.hid (HC.out (bt s k) (bt_lt s k))
        have HQ2 : Hid (q = partN (bt s k)) := Lib.hid (by rw [HQ.out, decide_eq_true hk, Bool.true_and])
        clear HQ HC hst hsp
        generalize partN (bt s k) = p at *
        generalize bt s k = b at *
        go_wp2_with fail
        ((with_reducible refine (HCk.out _).mono ?_))
        rintro e w1 ⟨rfl, rfl⟩
        cases p
        all_goals
          go_wp2_with fail
          go_meet
          case rel => exact ⟨by rw [HQ2.out], rfl⟩
      · have HQ2 : Hid (q = false) := Lib.hid (by rw [HQ.out, decide_eq_false hk]; rfl)
        clear HQ HC hst hsp
        go_wp2_with fail
        go_meet
        case rel => exact ⟨by rw [HQ2.out], rfl⟩
    case rest =>
    obtain ⟨rfl, rfl⟩ := hcut
    cases q
    · have HK : Hid (k = R) := Lib.hid (by
        rw [← HR.out, hsp.out]
        rintro ⟨h1, h2⟩
        have := HQ.out
        rw [decide_eq_true h1, h2] at this
        cases this)
      obtain rfl := HK.out
      clear HQ hst hsp HR HK
      go_wp2_with fail
      ((with_reducible refine (HN.out _).mono ?_))
      rintro e w1 ⟨rfl, rfl⟩
      cases nb
      · have HF : Hid (E = none) := Lib.hid (by rw [HE.out]; rfl)
        clear HE HN
        go_wp2_with fail
        go_ret
        exact ⟨by rw [HF.out]; rfl, rfl⟩
      · have HF : Hid (E = some k) := Lib.hid (by rw [HE.out]; rfl)
        clear HE HN
        go_wp2_with fail
        go_ret
        exact ⟨by rw [HF.out]; rfl, rfl⟩
    · obtain ⟨h1, h2⟩ : k < s.size ∧ partN (bt s k) = true := by
        have := HQ.out.symm
        simpa using this
      have HR2 : Hid (wEnd s (f - 1) (k + 1) = R) := Lib.hid (by rw [← HR.out, hst.out h1 h2 hf])
      clear HQ hst hsp HR h2
      go_wp2_with fail
      go_round
      case rel => exact ⟨k + 1, f - 1, by go_num, HR2, by omega⟩
      case measure => simp [intOf]; omega

end Go.Proofs.YtcjkgmfidkgamaaGreatDoor
