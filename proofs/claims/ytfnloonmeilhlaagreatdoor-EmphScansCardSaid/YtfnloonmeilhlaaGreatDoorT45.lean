/-
  Texts of the proof, put together (what this law reaches): EmSB, EmPC, EmND, EmNE.
-/
import Derived.Test.YtfnloonmeilhlaaGreatDoorT11
import Derived.Test.YtfnloonmeilhlaaGreatDoorT44
import Derived.ChangeArms
import Derived.Deep.Slices
import Derived.DataReads
import Derived.OpenShut
import Derived.KernelRfl
import Derived.ProofKit
import Derived.Test.YtfnloonmeilhlaaGreatDoorT17
import Derived.Test.YtfnloonmeilhlaaGreatDoorT19
import Derived.Test.YtfnloonmeilhlaaGreatDoorT04
import Derived.Test.YtfnloonmeilhlaaGreatDoorT18
import Derived.Test.YtfnloonmeilhlaaGreatDoorT12
import Derived.Test.YtfnloonmeilhlaaGreatDoorT25
import Derived.BigQuiet
import Derived.Test.YtfnloonmeilhlaaGreatDoorT20
import Derived.Great.BuildSlice
set_option linter.unusedVariables false
set_option linter.unusedSimpArgs false
namespace Go.Pub
open Go.RowKit
def BoolP (b : Bool) (w : World) (e : Ending) (w' : World) : Prop := e = .returned (.bool b) ∧ Below w.heap.size w w'
end Go.Pub
namespace Go.Proofs.YtfnloonmeilhlaaGreatDoor
open Go.RowKit Go.Pub
end Go.Proofs.YtfnloonmeilhlaaGreatDoor
namespace Go.Pub
open Go.RowKit
theorem sizeI_set (x : InT) (s : List UInt8) : sizeI (setTxt x s) + x.text.toList.length = sizeI x + s.length := by
  obtain ⟨k, t, d, ti, a, ar, c, ks⟩ := x
  show sizeI (.mk k ⟨s.toArray⟩ d ti a ar c ks) + t.toList.length = _
  rw [sizeI, sizeI]
  have h1 : (⟨s.toArray⟩ : ByteArray).size = s.length := by show s.toArray.size = _; simp
  have h2 : t.toList.length = t.size := by rw [Lib.toList_data]; exact Array.length_toList
  omega
theorem sizeI_text (x : InT) : 1 + x.text.toList.length ≤ sizeI x := by
  obtain ⟨k, t, d, ti, a, ar, c, ks⟩ := x
  rw [sizeI]
  have h2 : t.toList.length = t.size := by rw [Lib.toList_data]; exact Array.length_toList
  show 1 + t.toList.length ≤ _
  omega
theorem sizeL_cons (x : InT) (l : List InT) : sizeL (x :: l) = sizeI x + sizeL l := by rw [sizeL]
theorem sizeL_join : ∀ l : List InT, sizeL (joinT l) ≤ sizeL l
  | [] => Nat.le_refl _
  | x :: l => by
    have ih := sizeL_join l
    rw [sizeL_cons]
    by_cases hk : x.kind = 1
    · by_cases ht : x.text.toList = []
      · rw [joinT_empty hk ht]; omega
      · rw [joinT_cons, if_neg (by simp [hk]), if_neg ht]
        cases hj : joinT l with
        | nil => dsimp only; rw [sizeL_cons]; show sizeI x + sizeL [] ≤ _; rw [sizeL]; omega
        | cons y r =>
          rw [hj, sizeL_cons] at ih
          dsimp only
          split
          · rw [sizeL_cons]
            have h1 := sizeI_set x (x.text.toList ++ y.text.toList)
            rw [List.length_append] at h1
            have h2 := sizeI_text y
            omega
          · rw [sizeL_cons, sizeL_cons]; omega
    · rw [joinT_no hk, sizeL_cons]; omega
mutual
theorem sizeI_merge : ∀ x : InT, sizeI (mergeI x) ≤ sizeI x
  | .mk k t d ti a ar c kids => by
    rw [mergeI, sizeI, sizeI]
    have h1 := sizeL_join (mapI kids)
    have h2 := sizeL_map kids
    omega
theorem sizeL_map : ∀ l : List InT, sizeL (mapI l) ≤ sizeL l
  | [] => by rw [mapI]; exact Nat.le_refl _
  | x :: l => by
    rw [mapI, sizeL_cons, sizeL_cons]
    have h1 := sizeI_merge x
    have h2 := sizeL_map l
    omega
end

end Go.Pub
namespace Go.Proofs.YtfnloonmeilhlaaGreatDoor
open Go.RowKit Go.Pub
end Go.Proofs.YtfnloonmeilhlaaGreatDoor
namespace Go.Pub
open Go.RowKit
def convI (x : InL) : InT := .mk (x.kind : Int) x.text x.dest x.title noAt x.args x.cites []
/-- A piece of scan as a piece of emph. -/
def conv (p : PcL) : PcT := ⟨(p.kind : Int), convI p.inl, p.ch, (p.n : Int), p.opn, p.clo, p.img, (p.bg : Int), (p.nd : Int)⟩
def kpP (p : PcL) : Bool := decide (p.kind = 0) || decide (p.kind = 1)
def keepL (l : List PcL) : List PcT := (l.filter kpP).map conv
theorem keepL_snoc (l : List PcL) (i : Nat) (h : i < l.length) : keepL (l.take (i + 1)) = keepL (l.take i) ++ if kpP l[i] = true then [conv l[i]] else [] := by
  unfold keepL
  rw [List.take_succ_eq_append_getElem h, List.filter_append, List.map_append]
  congr 1
  rw [List.filter_cons]
  split <;> rfl
theorem keepL_len (l : List PcL) : (keepL l).length ≤ l.length := by
  unfold keepL; rw [List.length_map]; exact List.length_filter_le _ _
def nS (l : List PcT) : Nat := (l.map fun p => p.n.toNat).sum
theorem nS_app (a b : List PcT) : nS (a ++ b) = nS a + nS b := by unfold nS; rw [List.map_append, List.sum_append]
theorem take_pc (ps : List PcT) (k : Nat) (h : k < ps.length) : ps.take (k + 1) = ps.take k ++ [pcX ps k] := by
  rw [List.take_succ_eq_append_getElem h]
  unfold pcX
  rw [List.getD_eq_getElem?_getD, List.getElem?_eq_getElem h]; rfl
theorem sumN_nS (ps : List PcT) : ∀ k, k ≤ ps.length → sumN ps k ≤ nS (ps.take k)
  | 0, _ => Nat.zero_le _
  | k + 1, h => by
    have ih := sumN_nS ps k (by omega)
    rw [take_pc ps k (by omega), nS_app]
    have : nS [pcX ps k] = (pcX ps k).n.toNat := by unfold nS; simp
    show sumN ps k + (if runP (pcX ps k) = true then _ else 0) ≤ _
    split <;> omega
theorem sumZ_le (ps : List PcT) (B : Nat) (h : ∀ i, i < ps.length → pcZ (pcX ps i) ≤ B) : ∀ k, k ≤ ps.length → sumZ ps k ≤ k * B
  | 0, _ => Nat.zero_le _
  | k + 1, hk => by
    have ih := sumZ_le ps B h k (by omega)
    have := h k (by omega)
    show sumZ ps k + pcZ (pcX ps k) ≤ _
    rw [Nat.add_mul]; omega
theorem nS_cov (s : ByteArray) : ∀ (l : List PcL) (a b : Nat), covP l a b → (∀ p ∈ l, PcB s p) → nS (keepL l) + a ≤ b
  | [], a, b, h, _ => by
    have h : a = b := h
    show 0 + a ≤ b
    omega
  | p :: l, a, b, h, hp => by
    have ih := nS_cov s l p.nd b h.2.2 fun q hq => hp q (List.mem_cons_of_mem _ hq)
    have h1 := (hp p (by simp)).2
    have h2 := h.1
    have h3 := h.2.1
    have h4 : nS (keepL (p :: l)) ≤ p.n + nS (keepL l) := by
      unfold keepL
      rw [List.filter_cons]
      split
      · rw [List.map_cons]
        show ((conv p).n.toNat :: _).sum ≤ _
        rw [List.sum_cons]
        exact Nat.le_refl _
      · omega
    omega
theorem pcX_keep {s : ByteArray} {i : Nat} (h : i < (keepL (scanP s)).length) : ∃ p, p ∈ scanP s ∧ pcX (keepL (scanP s)) i = conv p ∧ kpP p = true := by
  have e : pcX (keepL (scanP s)) i = (keepL (scanP s))[i] := by
    unfold pcX; rw [List.getD_eq_getElem?_getD, List.getElem?_eq_getElem h]; rfl
  have hm : (keepL (scanP s))[i] ∈ keepL (scanP s) := List.getElem_mem h
  rw [← e] at hm
  unfold keepL at hm
  obtain ⟨p, hp, he⟩ := List.mem_map.1 hm
  obtain ⟨h1, h2⟩ := List.mem_filter.1 hp
  exact ⟨p, h1, he.symm, h2⟩
theorem scan_sums {s : ByteArray} (hs : s.size ≤ 300) : (keepL (scanP s)).length ≤ 300 ∧ sumN (keepL (scanP s)) (keepL (scanP s)).length ≤ 300 ∧ sumZ (keepL (scanP s)) (keepL (scanP s)).length ≤ 300000 ∧ ∀ i, i < (keepL (scanP s)).length → (pcX (keepL (scanP s)) i).kind = 0 → GdI (pcX (keepL (scanP s)) i).inl := by
  have hc := scanP_cov s
  have hb := scanP_pb s
  have h1 := cov_len _ _ _ hc
  have h2 := keepL_len (scanP s)
  have h3 := nS_cov s _ _ _ hc hb
  have h4 := sumN_nS (keepL (scanP s)) _ (Nat.le_refl _)
  rw [List.take_length] at h4
  refine ⟨by omega, by omega, ?_, fun i hi hk => ?_⟩
  · have h5 := sumZ_le (keepL (scanP s)) 1000 (fun i hi => by
      obtain ⟨p, hp, he, -⟩ := pcX_keep hi
      obtain ⟨⟨-, g1, g2, g3⟩, g4⟩ := hb p hp
      have g5 : p.nd ≤ s.size := by
        have : ∀ (l : List PcL) (a b : Nat), covP l a b → ∀ p ∈ l, p.nd ≤ b := by
          intro l
          induction l with
          | nil => intro a b _ p hp; cases hp
          | cons q l ih =>
            intro a b h p hp
            rcases List.mem_cons.1 hp with rfl | hp
            · have := cov_len _ _ _ h.2.2; omega
            · exact ih _ _ h.2.2 p hp
        exact this _ _ _ hc p hp
      rw [he]
      unfold pcZ
      show sizeI (convI p.inl) + 1 + p.n ≤ _
      unfold convI
      rw [sizeI, sizeL]
      show 1 + p.inl.text.size + 0 + 0 + p.inl.args.length + p.inl.cites.length + 0 + 1 + p.n ≤ _
      omega) _ (Nat.le_refl _)
    omega
  · obtain ⟨p, hp, he, -⟩ := pcX_keep hi
    obtain ⟨⟨⟨k6, k7, k8⟩, -⟩, -⟩ := hb p hp
    rw [he]
    show GdI (.mk (p.inl.kind : Int) _ _ _ _ _ _ [])
    rw [GdI, GdA]
    exact ⟨fun h => by omega, trivial⟩
theorem nestA_size (ps : List PcT) : sizeL (nestA ps) ≤ sumZ ps ps.length := by
  obtain ⟨ids, hM, hP⟩ := size_match ps ps.length (Nat.le_refl _)
  have hM : MatI ps ps.length (matchA ps) ids := hM
  have hR := hM.em.ring
  have he : betA ps (matchA ps).xs 0 0 = inlsA ps (matchA ps) ids := betF_eq ids 0 _ hR.link (fun i hi e => (List.nodup_cons.1 hR.nd).1 (e ▸ hi)) (by have := hR.len; omega)
  unfold nestA
  rw [he]
  refine Nat.le_trans ?_ hP
  unfold mergeL
  exact Nat.le_trans (sizeL_join _) (sizeL_map _)
end Go.Pub
namespace Go.Proofs.YtfnloonmeilhlaaGreatDoor
open Go.RowKit Go.Pub
theorem pc_fill2 (y0 y1 y2 y3 y4 y5 y6 y7 y8 y9 y10 y11 y12 y13 y14 y15 y16 y17 : Value) : Instr.fill (fun i => some (i * 18, 18)) ((Array.range (1 * 18)).map ((Value.agg (plC zP)).cells[· % (Value.agg (plC zP)).cells.size]!)) [(0, .agg #[y0, y1, y2, y3, y4, y5, y6, y7, y8, y9, y10, y11, y12, y13, y14, y15, y16, y17])] = some #[y0, y1, y2, y3, y4, y5, y6, y7, y8, y9, y10, y11, y12, y13, y14, y15, y16, y17] := by kernel_rfl
theorem wpList_pcS2 {ops : Array Oper} {rest : List Oper} {o : Oper} {a : Act} {w : World} {Q : Exit → Act → World → Prop} (hg : o.guard = none) (x : Operand) (ho : o.op = .buildSlice 23 1 #[(0, x)]) (y0 y1 y2 y3 y4 y5 y6 y7 y8 y9 y10 y11 y12 y13 y14 y15 y16 y17 : Value) (hx : a.eval x = .agg #[y0, y1, y2, y3, y4, y5, y6, y7, y8, y9, y10, y11, y12, y13, y14, y15, y16, y17])
    (h : wpList Tryz.prog ops Q rest (a.put o.dst (.slice (some ⟨w.heap.size, 0, none⟩) 1 1)) (w.alloc (.cells #[y0, y1, y2, y3, y4, y5, y6, y7, y8, y9, y10, y11, y12, y13, y14, y15, y16, y17] 34))) : wpList Tryz.prog ops Q (o :: rest) a w := by
  obtain ⟨i0, hi0, hz0, hz1, hz2⟩ := info_parts pc_info
  refine wpList_buildSlice hg 23 34 1 _ ho _ i0 _ Tryz.underlying23 hi0 hz0 (by rw [hz1]; decide) (by rw [hz1]; decide) ?_ h
  rw [hz1]
  have e : (#[((0 : Nat), x)].map fun (q : Nat × Operand) => (q.1, a.eval q.2)).toList = [(0, a.eval x)] := by simp
  rw [hx] at e
  show Instr.fill _ _ (#[((0 : Nat), x)].map fun (q : Nat × Operand) => (q.1, a.eval q.2)).toList = _
  rw [e]
  exact pc_fill2 y0 y1 y2 y3 y4 y5 y6 y7 y8 y9 y10 y11 y12 y13 y14 y15 y16 y17
theorem made_all : ∀ N, N ≤ 1000000 → MdH N := fun N => by
  induction N using Nat.strongRecOn with
  | ind N ih =>
    intro hN
    refine t_made N hN fun x hx => ih (sizeL x.kids) ?_ ?_
    · obtain ⟨k, t, d, ti, a, ar, c, ks⟩ := x
      rw [sizeI] at hx
      show sizeL ks < N
      omega
    · obtain ⟨k, t, d, ti, a, ar, c, ks⟩ := x
      rw [sizeI] at hx
      show sizeL ks ≤ _
      omega
/-- The pieces so far, in a row of the call's own. -/
def OwC (w : World) (l : List PcT) (v : Value) (wr : World) : Prop := ∃ vs : List (Array Value), (vs.length = l.length ∧ ∀ j, j < l.length → RepPc w (fun g => g < w.heap.size) (vs.getD j #[]) (pcX l j)) ∧ wr.ownsRow w.heap.size 34 18 v l.length (vs.flatMap Array.toList)
section
variable {w wr W : World} {l : List PcT} {v : Value}
theorem OwC.snoc {vs : List (Array Value)} {v0 : Array Value} {p : PcT} (h1 : vs.length = l.length) (h2 : ∀ j, j < l.length → RepPc w (fun g => g < w.heap.size) (vs.getD j #[]) (pcX l j)) (hr : RepPc w (fun g => g < w.heap.size) v0 p) (h3 : W.ownsRow w.heap.size 34 18 v (l.length + 1) (vs.flatMap Array.toList ++ v0.toList)) : OwC w (l ++ [p]) v W := by
  refine ⟨vs ++ [v0], ⟨by simp [h1], fun j hj => ?_⟩, by rw [List.flatMap_append, List.flatMap_singleton, List.length_append]; exact h3⟩
  rw [List.length_append] at hj
  rcases Nat.lt_or_ge j l.length with h | h
  · have e1 : (vs ++ [v0]).getD j #[] = vs.getD j #[] := by rw [List.getD_eq_getElem?_getD, List.getElem?_append_left (by omega), ← List.getD_eq_getElem?_getD]
    have e2 : pcX (l ++ [p]) j = pcX l j := by unfold pcX; rw [List.getD_eq_getElem?_getD, List.getElem?_append_left h, ← List.getD_eq_getElem?_getD]
    rw [e1, e2]; exact h2 j h
  · obtain rfl : j = l.length := by simp at hj; omega
    have e1 : (vs ++ [v0]).getD l.length #[] = v0 := by rw [List.getD_eq_getElem?_getD, List.getElem?_append_right (by omega), h1, Nat.sub_self]; rfl
    have e2 : pcX (l ++ [p]) l.length = p := by unfold pcX; rw [List.getD_eq_getElem?_getD, List.getElem?_append_right (Nat.le_refl _), Nat.sub_self]; rfl
    rw [e1, e2]; exact hr
theorem OwC.pcs (h : OwC w l v wr) (hb : Below w.heap.size w wr) : PcsR wr (fun g => g < wr.heap.size) v l := by
  obtain ⟨vs, ⟨h1, h2⟩, h3⟩ := h
  obtain ⟨A, c, e, -, -⟩ := own_form h3
  subst e
  exact ⟨A, c, vs, rfl, h1, fun j hj => by
    obtain ⟨r, hr, e⟩ := h2 j hj
    exact ⟨r, hr.keep (fun g hg => hb.block g hg) fun g hg => Nat.lt_of_lt_of_le hg hb.size, e⟩, (ReadsS.of_own h3).keep (fun _ _ => rfl) fun g hg => hg.2⟩
theorem pcv_rep {S : Nat → Prop} {A1 A2 : Option Addr} {c1 c2 : Nat} {p : PcL} (h : InR w S p.inl A1 A2) : RepPc w S (pcC p A1 c1 A2 c2) (conv p) := by
  obtain ⟨kd, ⟨ik, tx, de, ti, ar, ci⟩, ch, n, op, cl, im, bg, nd⟩ := p
  obtain ⟨h1, h2⟩ := h
  have e : ∀ l : List CitL, citCs l = citVT l := fun l => by
    induction l with
    | nil => rfl
    | cons c l ih =>
      show citC c ++ citCs l = [.string c.key, .string c.pre, .string c.suf, .bool c.bare] ++ citVT l
      rw [ih]; rfl
  have h1 : ReadsS w S 1 A1 ar.length (strs ar) := h1
  have h2 : ReadsS w S 4 A2 ci.length (citCs ci) := h2
  rw [e] at h2
  exact ⟨#[.int .i64 ik, .string tx, .string de, .string ti, .string ⟨#[]⟩, .slice none 0 0, .slice none 0 0, .slice A1 ar.length c1, .slice A2 ci.length c2, .slice none 0 0], RepI.mk (ik : Int) tx de ti noAt ar ci [] none none A1 A2 none 0 0 c1 c2 0 [] ReadsS.none_ ReadsS.none_ h1 h2 .nil ReadsS.none_, by kernel_rfl⟩
theorem RepPc.keep' {S S' : Nat → Prop} {v : Array Value} {p : PcT} (h : RepPc w S v p) (hk : ∀ g, S g → W.heap[g]? = w.heap[g]?) (hS : ∀ g, S g → S' g) : RepPc W S' v p := by
  obtain ⟨r, hr, e⟩ := h
  exact ⟨r, hr.keep hk hS, e⟩
end
set_option maxHeartbeats 8000000 in
set_option maxRecDepth 100000 in
theorem law10_scans (s : ByteArray) (m : Int) (w : World) (hm : w.cell? ⟨0, 0, none⟩ = some (.int .i64 m)) : Calls Tryz.prog 3 #[.string s] w (BoolP true w) := by
  by_cases hs : s.size ≤ 300
  · have d1 : decide ((s.size : Int) > 300) = false := decide_eq_false (by omega)
    have d2 : decide (300 < s.size) = false := decide_eq_false (by omega)
    have HSC := Lib.hid (s_Scan s m w (by omega) hm)
    obtain ⟨u1, u2, u3, u4⟩ := scan_sums hs
    have hLN : (scanP s).length ≤ 300 := by have := cov_len _ _ _ (scanP_cov s); omega
    obtain ⟨n1, n2⟩ := made_nest (keepL (scanP s)) u4
    have HMD := Lib.hid fun (S : Nat → Prop) (W : World) (A : Option Addr) (c : Nat) (vs : List (Array Value)) => made_all 1000000 (Nat.le_refl _) (nestA (keepL (scanP s))) (Nat.le_trans (nestA_size _) (by omega)) n1 n2 S W A c vs
    have HNE := Lib.hid fun (W : World) (v : Value) (h : PcsR W (fun g => g < W.heap.size) v (keepL (scanP s))) => e_NestB W h (by omega) (by omega) (by omega)
    have HST0 := Lib.hid fun i h => keepL_snoc (scanP s) i h
    have HKL : Hid (∀ i, (keepL ((scanP s).take i)).length ≤ i) := Lib.hid fun i => Nat.le_trans (keepL_len _) (by rw [List.length_take]; omega)
    obtain ⟨i0, hi0, hz0, hz1, hz2⟩ := info_parts pc_info
    clear u1 u2 u3 u4 n1 n2 hm
    go_enter Tryz.func3, Tryz.ntmps3
    go_wp2_with fail
    ((with_reducible refine HSC.out.mono ?_))
    rintro e w1 ⟨b1, v, rfl, ho⟩
    obtain ⟨S, vsP, hS, hrp, hown⟩ := ho
    obtain ⟨AP, cP, hv, -, -⟩ := own_form hown
    subst hv
    have HB1 := Lib.hid b1
    have HSP := Lib.hid hS
    have HRPP := Lib.hid hrp
    have HOWN := Lib.hid hown
    generalize scanP s = L at *
    have H0 : Hid (OwC w1 (keepL (L.take 0)) (.slice none 0 0) w1) := Lib.hid ⟨[], ⟨rfl, fun j hj => absurd hj (Nat.not_lt_zero _)⟩, World.ownsRow_nil _ _ _ _⟩
    clear b1 hS hrp hown HSC d1 d2
    go_wp2_with fail
    go_loopw [3, 5] (fun v3 v5 wr => ∃ i : Nat, i ≤ L.length ∧ v5 = .int .i64 i ∧ Hid (OwC w1 (keepL (L.take i)) v3 wr) ∧ Hid (Below w1.heap.size w1 wr)) (fun _ v5 _ => L.length - (intOf v5).toNat)
    case atStart => exact ⟨0, Nat.zero_le _, rfl, H0, Lib.hid (Below.refl _ _)⟩
    case round =>
      clear H0
      obtain ⟨i, hi, rfl, HO, HBw⟩ := hrel
      obtain ⟨vsO, o1, o2⟩ := HO.out
      obtain ⟨AO, cO, hvO, -, -⟩ := own_form o2
      subst hvO
      by_cases hlt : i < L.length
      · obtain ⟨g, cap, e, hg1, hg2⟩ := HOWN.out.form (show 0 < L.length by omega)
        injection e with e1 e2 e3
        subst e1
        subst e3
        obtain ⟨vp, ⟨A1, c1, A2, c2, rfl, hir⟩, hat⟩ := HRPP.out.at_ i hlt
        have HST := Lib.hid (HST0.out i hlt)
        have hkl := HKL.out i
        have HRP := Lib.hid (RepPc.keep' (pcv_rep (c1 := c1) (c2 := c2) hir) (W := w1) (S' := fun g => g < w1.heap.size) (fun _ _ => rfl) fun g hg => (HSP.out g hg).2.1)
        have HRG : Hid (∀ q, q < 18 → w1.cell? ⟨g, i * 18 + q, none⟩ = (pcC L[i] A1 c1 A2 c2)[q]?) := Lib.hid fun q hq => (HOWN.out.cellAt _ (by omega)).trans (hat q hq)
        have HO1 := Lib.hid o1
        have HOo := Lib.hid o2
        clear hir hat o1 o2 HO
        generalize keepL (L.take i) = fu at *
        generalize L[i] = PP at *
        obtain ⟨kd, ⟨ik, tx, de, ti, ar, ci⟩, ch, n, op, cl, im, bg, nd⟩ := PP
        have HRGw : Hid (wr.rangeAt g (i * 18) [.int .i64 (kd : Nat), .int .i64 (ik : Nat), .string tx, .string de, .string ti, .string ⟨#[]⟩, .slice none 0 0, .slice none 0 0, .slice A1 ar.length c1, .slice A2 ci.length c2, .slice none 0 0, .string ch, .int .i64 (n : Nat), .bool op, .bool cl, .bool im, .int .i64 (bg : Nat), .int .i64 (nd : Nat)]) := Lib.hid fun q u hq => (HBw.out.cell (p := ⟨g, i * 18 + q, none⟩) hg2).trans ((HRG.out q (by have := (List.getElem?_eq_some_iff.1 hq).1; simpa using this)).trans (by rw [← hq, ← Array.getElem?_toList]; rfl))
        have k0 : wr.cell? ⟨g, i * 18, none⟩ = some (.int .i64 (kd : Nat)) := HRGw.out 0 _ rfl
        have hii : (i : Int) < (L.length : Int) := by omega
        have hi00 : (0 : Int) ≤ (i : Int) := by omega
        have hwz : w1.heap.size ≤ wr.heap.size := HBw.out.size
        clear HRG
        by_cases hk : kd = 0
        · subst hk
          have HEQ : Hid (keepL (L.take (i + 1)) = fu ++ [conv ⟨0, ⟨ik, tx, de, ti, ar, ci⟩, ch, n, op, cl, im, bg, nd⟩]) := Lib.hid (by rw [HST.out, if_pos (show kpP ⟨0, ⟨ik, tx, de, ti, ar, ci⟩, ch, n, op, cl, im, bg, nd⟩ = true from rfl)])
          have HB1 : Below wr.heap.size wr (wr.alloc (.cells #[.int .i64 0, .int .i64 (ik : Nat), .string tx, .string de, .string ti, .string ⟨#[]⟩, .slice none 0 0, .slice none 0 0, .slice A1 ar.length c1, .slice A2 ci.length c2, .slice none 0 0, .string ch, .int .i64 (n : Nat), .bool op, .bool cl, .bool im, .int .i64 (bg : Nat), .int .i64 (nd : Nat)] 34)) := (Below.refl _ wr).alloc (Nat.le_refl _) _
          have HOW := Lib.hid (own_below HOo.out HB1)
          have HP : Hid (∀ (W7 : World) (g7 cap7 : Nat), W7.ownsRow w1.heap.size 34 18 (.slice (some ⟨g7, 0, none⟩) (fu.length + 1) cap7) (fu.length + 1) (vsO.flatMap Array.toList ++ [.int .i64 0, .int .i64 (ik : Nat), .string tx, .string de, .string ti, .string ⟨#[]⟩, .slice none 0 0, .slice none 0 0, .slice A1 ar.length c1, .slice A2 ci.length c2, .slice none 0 0, .string ch, .int .i64 (n : Nat), .bool op, .bool cl, .bool im, .int .i64 (bg : Nat), .int .i64 (nd : Nat)]) → (wr.alloc (.cells #[.int .i64 0, .int .i64 (ik : Nat), .string tx, .string de, .string ti, .string ⟨#[]⟩, .slice none 0 0, .slice none 0 0, .slice A1 ar.length c1, .slice A2 ci.length c2, .slice none 0 0, .string ch, .int .i64 (n : Nat), .bool op, .bool cl, .bool im, .int .i64 (bg : Nat), .int .i64 (nd : Nat)] 34)).grownBy W7 (Value.slice AO fu.length cO).ownBlock → OwC w1 (keepL (L.take (i + 1))) (.slice (some ⟨g7, 0, none⟩) (fu.length + 1) cap7) W7 ∧ Below w1.heap.size w1 W7) := Lib.hid fun W7 g7 cap7 h8 hg8 => by
            refine ⟨?_, (HBw.out.trans (HB1.mono HBw.out.size)).grown hg8 (Nat.le_trans HBw.out.size HB1.size) fun k hk => (HOW.out.lt k hk).1⟩
            rw [HEQ.out]
            exact OwC.snoc HO1.out.1 HO1.out.2 (v0 := #[.int .i64 0, .int .i64 (ik : Nat), .string tx, .string de, .string ti, .string ⟨#[]⟩, .slice none 0 0, .slice none 0 0, .slice A1 ar.length c1, .slice A2 ci.length c2, .slice none 0 0, .string ch, .int .i64 (n : Nat), .bool op, .bool cl, .bool im, .int .i64 (bg : Nat), .int .i64 (nd : Nat)]) HRP.out h8
          clear HB1 HEQ HST
          go_wp2_with (first | (refine wpList_load_mid rfl 34 (.tmp 35) rfl g (i * 18) rfl _ _ HRGw.out Tryz.underlying34 rfl pc18 ?_) | (refine wpList_pcS2 rfl (.tmp 36) rfl (.int .i64 0) (.int .i64 (ik : Nat)) (.string tx) (.string de) (.string ti) (.string ⟨#[]⟩) (.slice none 0 0) (.slice none 0 0) (.slice A1 ar.length c1) (.slice A2 ci.length c2) (.slice none 0 0) (.string ch) (.int .i64 (n : Nat)) (.bool op) (.bool cl) (.bool im) (.int .i64 (bg : Nat)) (.int .i64 (nd : Nat)) rfl ?_) | (at_builtin; refine wpList_append_lies _ rfl _ _ 23 rfl w1.heap.size 34 i0 _ 18 248 Tryz.underlying23 hi0 hz0 hz1 hz2 rfl (by decide) _ _ _ rfl HOW.out ⟨wr.heap.size, 0, none⟩ 1 1 [.int .i64 0, .int .i64 (ik : Nat), .string tx, .string de, .string ti, .string ⟨#[]⟩, .slice none 0 0, .slice none 0 0, .slice A1 ar.length c1, .slice A2 ci.length c2, .slice none 0 0, .string ch, .int .i64 (n : Nat), .bool op, .bool cl, .bool im, .int .i64 (bg : Nat), .int .i64 (nd : Nat)] rfl rfl ?c1 ?c2 (by decide) ?c3 ?c4 ?c5 (wr.heap.size + 1) ?c6 ?_))
          try case c1 => exact World.news_of_block (t := 34) (fr := (0, 0)) (heap_alloc_new wr _)
          try case c2 => simp [Value.oneCell']
          try case c3 => unfold maxLen; omega
          try case c4 => omega
          try case c5 => first | omega | (simp; omega)
          try case c6 => simp
          intro g7 cap7 W7 hown7 hgrow hlies hlt7
          obtain ⟨p1, p2⟩ := HP.out W7 g7 cap7 hown7 hgrow
          have HO7 := Lib.hid p1
          have HB7 := Lib.hid p2
          clear hown7 hgrow hlies hlt7 p1 p2 HP HOW
          go_wp2_with fail
          go_roundw
          case rel => exact ⟨i + 1, by omega, by go_num, HO7, HB7⟩
          case measure => simp [intOf]; omega
        · have z0 : ((kd : Int) == 0) = false := beq_eq_false_iff_ne.2 (by omega)
          by_cases hk1 : kd = 1
          · have hk := hk1
            subst hk
            have HEQ : Hid (keepL (L.take (i + 1)) = fu ++ [conv ⟨1, ⟨ik, tx, de, ti, ar, ci⟩, ch, n, op, cl, im, bg, nd⟩]) := Lib.hid (by rw [HST.out, if_pos (show kpP ⟨1, ⟨ik, tx, de, ti, ar, ci⟩, ch, n, op, cl, im, bg, nd⟩ = true from rfl)])
            have HB1 : Below wr.heap.size wr (wr.alloc (.cells #[.int .i64 1, .int .i64 (ik : Nat), .string tx, .string de, .string ti, .string ⟨#[]⟩, .slice none 0 0, .slice none 0 0, .slice A1 ar.length c1, .slice A2 ci.length c2, .slice none 0 0, .string ch, .int .i64 (n : Nat), .bool op, .bool cl, .bool im, .int .i64 (bg : Nat), .int .i64 (nd : Nat)] 34)) := (Below.refl _ wr).alloc (Nat.le_refl _) _
            have HOW := Lib.hid (own_below HOo.out HB1)
            have HP : Hid (∀ (W7 : World) (g7 cap7 : Nat), W7.ownsRow w1.heap.size 34 18 (.slice (some ⟨g7, 0, none⟩) (fu.length + 1) cap7) (fu.length + 1) (vsO.flatMap Array.toList ++ [.int .i64 1, .int .i64 (ik : Nat), .string tx, .string de, .string ti, .string ⟨#[]⟩, .slice none 0 0, .slice none 0 0, .slice A1 ar.length c1, .slice A2 ci.length c2, .slice none 0 0, .string ch, .int .i64 (n : Nat), .bool op, .bool cl, .bool im, .int .i64 (bg : Nat), .int .i64 (nd : Nat)]) → (wr.alloc (.cells #[.int .i64 1, .int .i64 (ik : Nat), .string tx, .string de, .string ti, .string ⟨#[]⟩, .slice none 0 0, .slice none 0 0, .slice A1 ar.length c1, .slice A2 ci.length c2, .slice none 0 0, .string ch, .int .i64 (n : Nat), .bool op, .bool cl, .bool im, .int .i64 (bg : Nat), .int .i64 (nd : Nat)] 34)).grownBy W7 (Value.slice AO fu.length cO).ownBlock → OwC w1 (keepL (L.take (i + 1))) (.slice (some ⟨g7, 0, none⟩) (fu.length + 1) cap7) W7 ∧ Below w1.heap.size w1 W7) := Lib.hid fun W7 g7 cap7 h8 hg8 => by
              refine ⟨?_, (HBw.out.trans (HB1.mono HBw.out.size)).grown hg8 (Nat.le_trans HBw.out.size HB1.size) fun k hk => (HOW.out.lt k hk).1⟩
              rw [HEQ.out]
              exact OwC.snoc HO1.out.1 HO1.out.2 (v0 := #[.int .i64 1, .int .i64 (ik : Nat), .string tx, .string de, .string ti, .string ⟨#[]⟩, .slice none 0 0, .slice none 0 0, .slice A1 ar.length c1, .slice A2 ci.length c2, .slice none 0 0, .string ch, .int .i64 (n : Nat), .bool op, .bool cl, .bool im, .int .i64 (bg : Nat), .int .i64 (nd : Nat)]) HRP.out h8
            clear HB1 HEQ HST
            go_wp2_with (first | (refine wpList_load_mid rfl 34 (.tmp 35) rfl g (i * 18) rfl _ _ HRGw.out Tryz.underlying34 rfl pc18 ?_) | (refine wpList_pcS2 rfl (.tmp 36) rfl (.int .i64 1) (.int .i64 (ik : Nat)) (.string tx) (.string de) (.string ti) (.string ⟨#[]⟩) (.slice none 0 0) (.slice none 0 0) (.slice A1 ar.length c1) (.slice A2 ci.length c2) (.slice none 0 0) (.string ch) (.int .i64 (n : Nat)) (.bool op) (.bool cl) (.bool im) (.int .i64 (bg : Nat)) (.int .i64 (nd : Nat)) rfl ?_) | (at_builtin; refine wpList_append_lies _ rfl _ _ 23 rfl w1.heap.size 34 i0 _ 18 248 Tryz.underlying23 hi0 hz0 hz1 hz2 rfl (by decide) _ _ _ rfl HOW.out ⟨wr.heap.size, 0, none⟩ 1 1 [.int .i64 1, .int .i64 (ik : Nat), .string tx, .string de, .string ti, .string ⟨#[]⟩, .slice none 0 0, .slice none 0 0, .slice A1 ar.length c1, .slice A2 ci.length c2, .slice none 0 0, .string ch, .int .i64 (n : Nat), .bool op, .bool cl, .bool im, .int .i64 (bg : Nat), .int .i64 (nd : Nat)] rfl rfl ?d1 ?d2 (by decide) ?d3 ?d4 ?d5 (wr.heap.size + 1) ?d6 ?_))
            try case d1 => exact World.news_of_block (t := 34) (fr := (0, 0)) (heap_alloc_new wr _)
            try case d2 => simp [Value.oneCell']
            try case d3 => unfold maxLen; omega
            try case d4 => omega
            try case d5 => first | omega | (simp; omega)
            try case d6 => simp
            intro g7 cap7 W7 hown7 hgrow hlies hlt7
            obtain ⟨p1, p2⟩ := HP.out W7 g7 cap7 hown7 hgrow
            have HO7 := Lib.hid p1
            have HB7 := Lib.hid p2
            clear hown7 hgrow hlies hlt7 p1 p2 HP HOW
            go_wp2_with fail
            go_roundw
            case rel => exact ⟨i + 1, by omega, by go_num, HO7, HB7⟩
            case measure => simp [intOf]; omega
          · have z1 : ((kd : Int) == 1) = false := beq_eq_false_iff_ne.2 (by omega)
            have HO7 : Hid (OwC w1 (keepL (L.take (i + 1))) (.slice AO fu.length cO) wr) := Lib.hid (by
              rw [HST.out, if_neg (by show ¬ (decide (kd = 0) || decide (kd = 1)) = true; simp [hk, hk1]), List.append_nil]
              exact ⟨vsO, HO1.out, HOo.out⟩)
            clear hk hk1
            go_wp2_with fail
            go_roundw
            case rel => exact ⟨i + 1, by omega, by go_num, HO7, HBw⟩
            case measure => simp [intOf]; omega
      · obtain rfl : i = L.length := by omega
        have eT : L.take L.length = L := List.take_length
        rw [eT] at HO ⊢
        have HCN : Hid (Calls Tryz.prog 7 #[.slice AO (keepL L).length cO] wr (NstP (nestA (keepL L)) wr)) := Lib.hid (HNE.out wr _ (HO.out.pcs HBw.out))
        clear o1 o2 eT
        generalize nestA (keepL L) = NA at *
        go_wp2_with fail
        ((with_reducible refine HCN.out.mono ?_))
        rintro e w2 ⟨AN, cN, vsN, rfl, rN, mN, bN⟩
        have HB2 := Lib.hid ((HB1.out.trans (HBw.out.mono HB1.out.size)).trans (bN.mono (Nat.le_trans HB1.out.size HBw.out.size)))
        have HM2 := Lib.hid (HMD.out _ w2 AN cN vsN rN mN)
        clear rN mN bN HCN
        go_wp2_with fail
        ((with_reducible refine HM2.out.mono ?_))
        rintro e w3 ⟨rfl, rfl⟩
        go_wp2_with fail
        ((with_reducible refine (l_awake _).mono ?_))
        rintro e w4 ⟨rfl, b4⟩
        have HB4 := Lib.hid (HB2.out.trans (b4.mono HB2.out.size))
        clear b4
        go_wp2_with fail
        go_ret
        exact ⟨rfl, HB4.out⟩
  · have d1 : decide ((s.size : Int) > 300) = true := decide_eq_true (by omega)
    have d2 : decide (300 < s.size) = true := decide_eq_true (by omega)
    have d3 : 300 < s.size := by omega
    go_enter Tryz.func3, Tryz.ntmps3
    go_wp2_with fail
    ((with_reducible refine (l_awake w).mono ?_))
    rintro e w2 ⟨rfl, b2⟩
    have HB2 := Lib.hid b2
    clear b2
    go_wp2_with fail
    go_ret
    exact ⟨rfl, HB2.out⟩

end Go.Proofs.YtfnloonmeilhlaaGreatDoor
