/-
  Texts of the proof, put together (what this law reaches): ScAO.
-/
import Derived.Test.YtcjkgmfidkgamaaGreatDoorE21
import Derived.Test.YtcjkgmfidkgamaaGreatDoorE04
import Derived.Deep.Onto
set_option linter.unusedVariables false
set_option linter.unusedSimpArgs false
namespace Go.Pub
theorem covP_bg (p : PcL) : ∀ (l : List PcL) (a b : Nat), covP (l ++ [p]) a b → p.bg < b ∧ p.nd = b
  | [], a, b, h => by
    obtain ⟨h1, h2, h3⟩ := h
    have h4 : p.nd = b := h3
    omega
  | q :: l, a, b, h => covP_bg p l q.nd b h.2.2
theorem scanF_step {s : ByteArray} {f i : Nat} {j : Bool} {acc R : List PcL} {p : PcL} {pl : Bool} (h : scanF s f i j acc = R) (hf : s.size - i ≤ f) (hi : i < s.size) (hp : pieceA s i = (p, pl)) (hnd : i < p.nd) (x : List PcL) (hx : (if (pl && j) = true then joinP s acc p.nd else acc ++ [p]) = x) : ∃ f, scanF s f p.nd pl x = R ∧ s.size - p.nd ≤ f := by
  obtain ⟨g, rfl⟩ : ∃ g, f = g + 1 := ⟨f - 1, by omega⟩
  unfold scanF at h
  rw [if_pos hi] at h
  simp only [hp] at h
  exact ⟨g, by rw [← hx]; exact h, by omega⟩
end Go.Pub
namespace Go.Proofs.YtcjkgmfidkgamaaGreatDoor
open Go.RowKit Go.Pub
/-- The pieces of a string, in new memory. -/
def ScanPost (s : ByteArray) (w : World) (e : Ending) (w' : World) : Prop :=
  Below w.heap.size w w' ∧ ∃ v, e = .returned v ∧ PcOwn w' w.heap.size v (scanP s)
structure ScW (s : ByteArray) (W1 : World) (i : Nat) (j : Bool) (acc : List PcL) (v : Value) (wr : World) : Prop where
  rest : ∃ f, scanF s f i j acc = scanP s ∧ s.size - i ≤ f
  ne : j = true → acc ≠ []
  len : acc.length ≤ i
  cov : covP acc 0 i
  own : PcOwn wr W1.heap.size v acc
  bel : Below W1.heap.size W1 wr
theorem ScW.start (s : ByteArray) (W1 : World) : ScW s W1 0 false [] (.slice none 0 0) W1 := ⟨⟨s.size, rfl, by omega⟩, by simp, Nat.le_refl _, rfl, PcOwn.nil _ _, Below.refl _ _⟩
theorem ScW.more {s : ByteArray} {W1 wr W2 w3 : World} {i g cap n : Nat} {j : Bool} {acc : List PcL} {v : Value} {p : PcL} {pl : Bool} {vp : Array Value} {xs : List Value} {t2 : Obj} (h : ScW s W1 i j acc v wr) (hi : i < s.size) (hp : pieceA s i = (p, pl)) (hj : (pl && j) = false)
    (q2 : Below wr.heap.size wr W2) (hv : PcV W2 (Rg wr.heap.size W2) vp p) (hx : ∃ (S : Nat → Prop) (vs : List (Array Value)), (∀ g, S g → W1.heap.size ≤ g ∧ g < wr.heap.size ∧ v.ownBlock ≠ some g) ∧ RepP wr S vs acc ∧ xs = vs.flatMap Array.toList) (hl : ∀ k, v.ownBlock = some k → W1.heap.size ≤ k ∧ k < wr.heap.size) (hn : n = acc.length + 1)
    (hown : w3.ownsRow W1.heap.size 36 18 (.slice (some ⟨g, 0, none⟩) n cap) n (xs ++ vp.toList)) (hg : (W2.alloc t2).grownBy w3 v.ownBlock) (hlies : v.ownBlock = some g ∨ g = W2.heap.size + 1) : ScW s W1 p.nd pl (acc ++ [p]) (.slice (some ⟨g, 0, none⟩) n cap) w3 := by
  obtain ⟨⟨f, h1, h2⟩, h3, h4, h5, h6, h7⟩ := h
  obtain ⟨b1, b2, b3⟩ := pieceA_bd s i hi
  rw [hp] at b1 b2 b3
  change p.bg = i at b1
  change i < p.nd at b2
  change p.nd ≤ s.size at b3
  have hz0 := h7.size
  have hz2 := q2.size
  have hz3 := hg.size
  simp at hz3
  have hk : ∀ k, k < W2.heap.size → v.ownBlock ≠ some k → w3.heap[k]? = W2.heap[k]? := fun k hk hne => (hg.block k (by simp; omega) fun e => hne e.symm).trans (Below.heap_alloc _ _ k hk)
  refine ⟨scanF_step h1 h2 hi hp b2 _ (by rw [hj]; rfl), fun _ => by simp, by simp; omega, covP_snoc p acc 0 i h5 b1 (by omega), ?_, ?_⟩
  · exact PcOwn.push hx q2 hz0 (fun k hk => (hl k hk).2) hv hn hown hk (by omega) (by
      rcases hlies with h | h
      · exact .inl h
      · exact .inr (by omega))
  · exact ((h7.trans (q2.mono hz0)).alloc (by omega) t2).grown hg (by simp; omega) fun k hk => (hl k hk).1
theorem ScW.drew {s : ByteArray} {W1 W : World} {i : Nat} {j : Bool} {acc : List PcL} {v : Value} (h : ScW s W1 i j acc v W) : ScW s W1 i j acc v W.drew :=
  ⟨h.rest, h.ne, h.len, h.cov, h.own.below (below_drewN (Below.refl _ _) 1), below_drewN h.bel 1⟩
theorem cell_off (V : World) {g j k : Nat} (h : j ≠ k) (v : Value) : (V.setCell ⟨g, j, none⟩ v).cell? ⟨g, k, none⟩ = V.cell? ⟨g, k, none⟩ := by
  apply World.cell?_setCell_other
  intro e
  injection e with _ e2 _
  exact h e2
set_option maxRecDepth 100000 in
set_option maxHeartbeats 4000000 in
theorem s_Scan (s : ByteArray) (m : Int) (w : World) (hs : s.size ≤ 1000000) (hm : w.cell? ⟨0, 0, none⟩ = some (.int .i64 m)) : Calls Tryz.prog 11 #[.string s] w (ScanPost s w) := by
  have h0w : 0 < w.heap.size := World.block_lt_of_cell? _ _ hm
  have HPs := Lib.hid fun W => s_Pieces s W hs
  obtain ⟨i0, hi0, hz0, hz1, hz2⟩ := info_parts piece_info
  have HBD := Lib.hid fun (i : Nat) (hi : i < s.size) => pieceA_bd s i hi
  go_enter Tryz.func11, Tryz.ntmps11
  go_wp2_with fail
  ((with_reducible refine (HPs.out _).mono ?_))
  rintro e W1 ⟨g, b1, b2, rfl, hg1, hgb, hrd, hbl⟩
  have HM : Hid (∀ i, i < s.size → ∀ W, Below W1.heap.size W1 W → Calls Tryz.prog 44 #[.int .i64 i, .pointer (some ⟨g, 0, none⟩)] W (PcPost (pieceA s i).1 (pieceA s i).2 W)) := Lib.hid fun i hi W hbW => s_next s i g b1 b2 m (Rg w.heap.size W1) W hs hi (hgb.below hbW hgb.lt) (hrd.keep (fun k hk => hbW.block k hk.2) fun k hk => hk) (fun k hk => Nat.lt_of_lt_of_le hk.2 hbW.size) ((hbW.cell (p := ⟨0, 0, none⟩) (Nat.lt_of_lt_of_le h0w hbl.size)).trans ((hbl.cell (p := ⟨0, 0, none⟩) h0w).trans hm))
  have HB1 := Lib.hid hbl
  have HZ1 := Lib.hid (ScW.start s W1)
  clear hgb hrd hbl hm h0w HPs hg1
  go_wp2_with fail
  go_loopw [3, 5, 6] (fun v3 v5 v6 wr => ∃ (i : Nat) (j : Bool) (acc : List PcL), v6 = .int .i64 i ∧ v5 = .bool j ∧ i ≤ s.size ∧ Hid (ScW s W1 i j acc v3 wr)) (fun _ _ v6 _ => s.size - (intOf v6).toNat)
  case atStart => exact ⟨0, false, [], rfl, rfl, Nat.zero_le _, HZ1⟩
  case round =>
    clear HZ1
    obtain ⟨i, j, acc, rfl, rfl, hi, HS⟩ := hrel
    by_cases hl : i < s.size
    · obtain ⟨hb1, hb2, hb3⟩ := HBD.out i hl
      have HNX := Lib.hid (HM.out i hl wr HS.out.bel)
      obtain ⟨p, pl, hP⟩ : ∃ p pl, pieceA s i = (p, pl) := ⟨_, _, rfl⟩
      rw [hP] at HNX hb1 hb2 hb3
      have HPQ := Lib.hid hP
      clear hP hb1
      obtain ⟨S, vs, hS, hr, ho⟩ := HS.out.own
      have hlen := HS.out.len
      obtain ⟨A, c, rfl⟩ := own_slice ho
      go_wp2_with fail
      ((with_reducible refine (HNX.out).mono ?_))
      rintro e W2 ⟨q2, A1, c1, A2, c2, rfl, hir⟩
      have HPV : Hid (PcV W2 (Rg wr.heap.size W2) (pcC p A1 c1 A2 c2) p) := Lib.hid ⟨A1, c1, A2, c2, rfl, hir⟩
      have hlt := ho.lt
      have HXS : Hid (∃ (S : Nat → Prop) (vs' : List (Array Value)), (∀ g, S g → W1.heap.size ≤ g ∧ g < wr.heap.size ∧ (Value.slice A acc.length c).ownBlock ≠ some g) ∧ RepP wr S vs' acc ∧ vs.flatMap Array.toList = vs'.flatMap Array.toList) := Lib.hid ⟨S, vs, hS, hr, rfl⟩
      have HLT := Lib.hid hlt
      have HOW := Lib.hid ho
      have Q0 := Lib.hid q2
      clear hS hr ho hir q2 hlt HNX
      go_upto_region 7 with (refine wpList_store_row rfl 36 (.tmp 7) _ rfl _ _ rfl rfl _ _ (Blk.new W2 36 _) pc_size (by rfl) (by simp [pcC, Value.oneCell']) ?_)
      have KB : Hid (Blk ((W2.alloc (.cells #[.int .i64 0, .int .i64 0, .string ⟨#[]⟩, .string ⟨#[]⟩, .string ⟨#[]⟩, .string ⟨#[]⟩, .slice none 0 0, .slice none 0 0, .slice none 0 0, .slice none 0 0, .slice none 0 0, .string ⟨#[]⟩, .int .i64 0, .bool false, .bool false, .bool false, .int .i64 0, .int .i64 0] 36)).setRow W2.heap.size (pcC p A1 c1 A2 c2)) W2.heap.size 36 (pcC p A1 c1 A2 c2)) := Lib.hid (row_blk (Blk.new W2 36 _) _)
      have KS : Hid (((W2.alloc (.cells #[.int .i64 0, .int .i64 0, .string ⟨#[]⟩, .string ⟨#[]⟩, .string ⟨#[]⟩, .string ⟨#[]⟩, .slice none 0 0, .slice none 0 0, .slice none 0 0, .slice none 0 0, .slice none 0 0, .string ⟨#[]⟩, .int .i64 0, .bool false, .bool false, .bool false, .int .i64 0, .int .i64 0] 36)).setRow W2.heap.size (pcC p A1 c1 A2 c2)).heap.size = W2.heap.size + 1) := Lib.hid (by rw [row_size, World.size_alloc])
      have K2 : Hid (Below W2.heap.size W2 ((W2.alloc (.cells #[.int .i64 0, .int .i64 0, .string ⟨#[]⟩, .string ⟨#[]⟩, .string ⟨#[]⟩, .string ⟨#[]⟩, .slice none 0 0, .slice none 0 0, .slice none 0 0, .slice none 0 0, .slice none 0 0, .string ⟨#[]⟩, .int .i64 0, .bool false, .bool false, .bool false, .int .i64 0, .int .i64 0] 36)).setRow W2.heap.size (pcC p A1 c1 A2 c2))) := Lib.hid (row_below ((Below.refl _ W2).alloc (Nat.le_refl _) _) (Nat.le_refl _) _)
      have KG : Hid (wr.heap.size ≤ W2.heap.size) := Lib.hid Q0.out.size
      generalize ((W2.alloc (.cells #[.int .i64 0, .int .i64 0, .string ⟨#[]⟩, .string ⟨#[]⟩, .string ⟨#[]⟩, .string ⟨#[]⟩, .slice none 0 0, .slice none 0 0, .slice none 0 0, .slice none 0 0, .slice none 0 0, .string ⟨#[]⟩, .int .i64 0, .bool false, .bool false, .bool false, .int .i64 0, .int .i64 0] 36)).setRow W2.heap.size (pcC p A1 c1 A2 c2)) = X at *
      have Q2 : Hid (Below wr.heap.size wr X) := Lib.hid (Q0.out.trans (K2.out.mono KG.out))
      replace HPV : Hid (PcV X (Rg wr.heap.size X) (pcC p A1 c1 A2 c2) p) := Lib.hid (HPV.out.keep (fun g hg => K2.out.block g hg.2) fun g hg => ⟨hg.1, Nat.lt_of_lt_of_le hg.2 K2.out.size⟩)
      have ho2 := own_below HOW.out Q2.out
      clear K2 Q0 HOW
      generalize W2.heap.size = gP at *
      clear W2
      by_cases hj : (pl && j) = true
      · obtain ⟨rfl, rfl⟩ : pl = true ∧ j = true := by simpa using hj
        clear ho2
        obtain ⟨k, q, rfl⟩ := snoc_of acc (HS.out.ne rfl)
        obtain ⟨hq1, hq2⟩ := covP_bg q k 0 i HS.out.cov
        have hO2 := HS.out.own.below Q2.out
        obtain ⟨gr, cap, he, hgr1, hgr2⟩ := hO2.form
        rw [he] at hO2 ⊢
        have HO2 := Lib.hid hO2
        have hX : Hid (Below W1.heap.size W1 X) := Lib.hid (HS.out.bel.trans (Q2.out.mono HS.out.bel.size))
        have hne : gr ≠ gP := by
          have hrow := HS.out.own.form
          obtain ⟨gr', cap', he', _, hlt'⟩ := hrow
          rw [he'] at he
          injection he with he1 _ _
          injection he1 with he1
          injection he1 with he1 _ _
          have := KG.out
          omega
        have HBX := KB
        have HGR := Lib.hid hgr1
        clear hj hO2 he HLT HXS HPV hgr1 hgr2 KB KG KS
        obtain ⟨x16, x17, x2, xf⟩ := HO2.out.last
        have f17 := xf (k.length * 18 + 17)
        have HFR := Lib.hid xf
        have xnd : X.cell? ⟨gP, 17, none⟩ = some (.int .i64 p.nd) := HBX.out.cell 17
        rw [List.length_append, List.length_singleton] at hlen
        clear xf
        go_upto_region 10 with fail
        have HO3 := Lib.hid (HO2.out.join p.nd (s.extract q.bg p.nd))
        have hX3 := Lib.hid (hX.out.setCell (p := ⟨gr, k.length * 18 + 17, none⟩) HGR.out (.int .i64 p.nd))
        have y16 : (X.setCell ⟨gr, k.length * 18 + 17, none⟩ (.int .i64 p.nd)).cell? ⟨gr, k.length * 18 + 16, none⟩ = some (.int .i64 q.bg) := by
          rw [cell_off _ (by omega)]; exact x16
        have y2 : (X.setCell ⟨gr, k.length * 18 + 17, none⟩ (.int .i64 p.nd)).cell? ⟨gr, k.length * 18 + 2, none⟩ = some (.string q.inl.text) := by
          rw [cell_off _ (by omega)]; exact x2
        have ynd : (X.setCell ⟨gr, k.length * 18 + 17, none⟩ (.int .i64 p.nd)).cell? ⟨gP, 17, none⟩ = some (.int .i64 p.nd) := by
          rw [World.cell?_setCell_far _ _ _ _ hne]; exact xnd
        have yf : (X.setCell ⟨gr, k.length * 18 + 17, none⟩ (.int .i64 p.nd)).frozen? ⟨gr, k.length * 18 + 2, none⟩ = false := by
          rw [World.frozen?_setCell]; exact HFR.out _
        clear x16 x2 x17 xnd f17 HO2 HBX hX HFR
        generalize X.setCell ⟨gr, k.length * 18 + 17, none⟩ (.int .i64 p.nd) = V at *
        have hbd1 : q.bg ≤ p.nd := by omega
        have z16 : (V.setCell ⟨gr, k.length * 18 + 2, none⟩ (.string (s.extract q.bg p.nd))).cell? ⟨gr, k.length * 18 + 16, none⟩ = some (.int .i64 q.bg) := by
          rw [cell_off _ (by omega)]; exact y16
        have znd : (V.setCell ⟨gr, k.length * 18 + 2, none⟩ (.string (s.extract q.bg p.nd))).cell? ⟨gP, 17, none⟩ = some (.int .i64 p.nd) := by
          rw [World.cell?_setCell_far _ _ _ _ hne]; exact ynd
        have HN : Hid (ScW s W1 p.nd true (k ++ [{ q with nd := p.nd, inl := { q.inl with text := s.extract q.bg p.nd } }]) (.slice (some ⟨gr, 0, none⟩) (k.length + 1) cap) (V.setCell ⟨gr, k.length * 18 + 2, none⟩ (.string (s.extract q.bg p.nd)))) := Lib.hid (by
          obtain ⟨⟨f, h1, h2⟩, h3, h4, h5, h6, h7⟩ := HS.out
          exact ⟨scanF_step h1 h2 hl HPQ.out hb2 _ (by rw [show (true && true) = true from rfl, if_pos rfl, joinP_snoc]), fun _ => by simp, by simp at h4 ⊢; omega, covP_last s q p.nd k 0 i h5 (by omega), HO3.out, hX3.out.setCell (p := ⟨gr, k.length * 18 + 2, none⟩) HGR.out _⟩)
        clear HS HPQ HO3 hX3 HGR
        refine wp_region_held_drew (S := fun W' => W'.cell? ⟨gr, k.length * 18 + 16, none⟩ = some (.int .i64 q.bg) ∧ W'.cell? ⟨gP, 17, none⟩ = some (.int .i64 p.nd)) (by kernel_rfl) ⟨y16, ynd⟩ (fun hHeld => ?_)
        refine tk 0 (.pointer (some ⟨gr, k.length * 18, none⟩)) rfl hHeld (fun W' hSw => ?_) ?_
        · go_simp
        refine tk 1 (.string s) rfl hHeld (fun W' hSw => ?_) ?_
        · go_simp
        refine tk 2 (.pointer (some ⟨gr, k.length * 18, none⟩)) rfl hHeld (fun W' hSw => ?_) ?_
        · go_simp
        refine tk 3 (.pointer (some ⟨gr, k.length * 18, none⟩)) rfl hHeld (fun W' hSw => ?_) ?_
        · go_simp
        refine tk 4 (.pointer (some ⟨gr, k.length * 18 + 16, none⟩)) rfl hHeld (fun W' hSw => ?_) ?_
        · go_simp
        refine tk 5 (.int .i64 q.bg) rfl hHeld (fun W' hSw => ?_) ?_
        · obtain ⟨h16, hnd⟩ := hSw
          go_simp
        refine tk 6 (.pointer (some ⟨gP, 17, none⟩)) rfl hHeld (fun W' hSw => ?_) ?_
        · go_simp
        refine tk 7 (.int .i64 p.nd) rfl hHeld (fun W' hSw => ?_) ?_
        · obtain ⟨h16, hnd⟩ := hSw
          go_simp
        refine tk 8 (.string (s.extract q.bg p.nd)) rfl hHeld (fun W' hSw => ?_) ?_
        · go_simp
        refine tk 9 (.pointer (some ⟨gr, k.length * 18, none⟩)) rfl hHeld (fun W' hSw => ?_) ?_
        · go_simp
        refine tk 10 (.pointer (some ⟨gr, k.length * 18 + 1, none⟩)) rfl hHeld (fun W' hSw => ?_) ?_
        · go_simp
        refine tk 11 (.pointer (some ⟨gr, k.length * 18 + 2, none⟩)) rfl hHeld (fun W' hSw => ?_) ?_
        · go_simp
        refine rd1 12 rfl (fun K hK => ?_)
        go_simp
        refine hK.out _ _ ⟨z16, znd⟩ (fun hHeld => ?_)
        clear hK K
        refine wpAnyH_done (by kernel_rfl) ?_ _
        go_wp2_with fail
        go_roundw
        case rel => exact ⟨p.nd, true, _, rfl, rfl, hb3, Lib.hid HN.out.drew⟩
        case measure => simp [intOf]; omega
      · have HJ : Hid ((pl && j) = false) := Lib.hid (by simpa using hj)
        obtain ⟨c0, c1', c2', c3, c4, c5, c6, c7, c8, c9, c10, c11, c12, c13, c14, c15, c16, c17, _⟩ := pc_facts KB.out
        have hzX : W1.heap.size ≤ X.heap.size := Nat.le_trans HS.out.bel.size Q2.out.size
        cases pl <;> cases j
        case true.true => exact absurd rfl hj
        all_goals
          clear hj
          go_wp2_with (at_builtin; refine wpList_append_lies _ rfl _ _ 25 rfl W1.heap.size 36 i0 _ 18 248 Tryz.underlying25 hi0 hz0 hz1 hz2 rfl (by decide) _ _ _ rfl (ho2.alloc _) ⟨X.heap.size, 0, none⟩ 1 1 (pcC p A1 c1 A2 c2).toList rfl rfl ?c1 ?c2 (by decide) ?c3 ?c4 ?c5 (X.heap.size + 1) ?c6 ?_)
          case c1 => exact World.news_of_block (t := 36) (fr := (0, 0)) (cs := pcC p A1 c1 A2 c2) (heap_alloc_new X (.cells (pcC p A1 c1 A2 c2) 36))
          case c2 => intro u hu; simp [pcC] at hu; rcases hu with rfl | rfl | rfl | rfl | rfl | rfl | rfl | rfl | rfl | rfl | rfl | rfl | rfl | rfl | rfl | rfl | rfl | rfl <;> rfl
          case c3 => unfold maxLen; omega
          case c4 => omega
          case c5 => simp; omega
          case c6 => simp
          intro g7 cap7 w3 hown3 hgrow hlies hlt3
          have xnd : w3.cell? ⟨gP, 17, none⟩ = some (.int .i64 p.nd) := ((KB.out.alloc (.cells (pcC p A1 c1 A2 c2) 36)).grown hgrow (fun e => by have := HLT.out _ e.symm; have := KG.out; omega)).cell 17
          have HN := Lib.hid (HS.out.more hl HPQ.out HJ.out Q2.out HPV.out HXS.out HLT.out rfl hown3 hgrow hlies)
          clear hown3 hgrow hlies ho2 HPV HXS HLT Q2 HS HPQ c0 c1' c2' c3 c4 c5 c6 c7 c8 c9 c10 c11 c12 c13 c14 c15 c16 c17 KB KG KS
          go_wp2_with fail
          go_roundw
          case rel => exact ⟨p.nd, _, acc ++ [p], rfl, rfl, hb3, HN⟩
          case measure => simp [intOf]; omega
    · obtain ⟨⟨f, h1, h2⟩, h3, h4, h5, h6, h7⟩ := HS.out
      have HE : Hid (PcOwn wr W1.heap.size _ (scanP s)) := Lib.hid (by rw [← h1, scanF_end (by omega)]; exact h6)
      have HB := Lib.hid (HB1.out.trans (h7.mono HB1.out.size))
      clear h1 h2 h3 h4 h5 h6 h7 HS
      go_wp2_with fail
      go_ret
      refine ⟨HB.out, _, rfl, ?_⟩
      obtain ⟨S, vs, hS, hk, ho⟩ := HE.out
      exact ⟨S, vs, fun g hg => ⟨Nat.le_trans HB1.out.size (hS g hg).1, (hS g hg).2⟩, hk, World.ownsRow.mono ho HB1.out.size⟩

end Go.Proofs.YtcjkgmfidkgamaaGreatDoor
