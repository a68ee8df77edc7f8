/-
  Texts of the proof, put together (what this law reaches): EmZ, EmMA, EmMB, EmTD, EmMD, EmME, EmMC.
-/
import Derived.Test.YtfnloonmeilhlaaV05
import Derived.Test.YtfnloonmeilhlaaV02
import Derived.Test.YtfnloonmeilhlaaV01
set_option linter.unusedVariables false
set_option linter.unusedSimpArgs false
namespace Go.Proofs.Ytfnloonmeilhlaa
open Go.RowKit Go.Pub
def zIn : Array Value := #[.int .i64 0, .string ⟨#[]⟩, .string ⟨#[]⟩, .string ⟨#[]⟩, .string ⟨#[]⟩, .slice none 0 0, .slice none 0 0, .slice none 0 0, .slice none 0 0, .slice none 0 0]
/-- Merged inlines in new memory. -/
def MrgP (l : List InT) (w : World) (e : Ending) (w' : World) : Prop :=
  ∃ A c vs, e = .returned (.slice A (mergeL l).length c) ∧ RepIs w' (NewG w w') vs (mergeL l) ∧ w'.ownsRow w.heap.size 37 10 (.slice A (mergeL l).length c) (mergeL l).length (vs.flatMap Array.toList) ∧ Below w.heap.size w w'
/-- Merge is right on inlines up to a size. -/
def MrgH (N : Nat) : Prop := ∀ l : List InT, sizeL l ≤ N → ∀ (S : Nat → Prop) (w : World) (A : Option Addr) (c : Nat) (vs : List (Array Value)), RepIs w S vs l → ReadsS w S 10 A l.length (vs.flatMap Array.toList) → (∀ g, S g → g < w.heap.size) → Calls Try.prog 25 #[.slice A l.length c] w (MrgP l w)
def MgdP (x : InT) (w : World) (e : Ending) (w' : World) : Prop := ∃ v, e = .returned (.agg v) ∧ RepI w' (NewG w w') v (mergeI x) ∧ Below w.heap.size w w'
def N2 (w W : World) (g : Nat) : Prop := w.heap.size + 2 ≤ g ∧ g < W.heap.size
structure MgW (w W : World) (cs : Array Value) : Prop where
  b1 : Blk W w.heap.size 37 cs
  b2 : Blk W (w.heap.size + 1) 37 zIn
  bel : Below w.heap.size w W
section
variable {w W W' : World} {cs : Array Value}
theorem MgW.call (h : MgW w W cs) (hb : Below W.heap.size W W') : MgW w W' cs := ⟨h.b1.below hb h.b1.lt, h.b2.below hb h.b2.lt, h.bel.trans (hb.mono h.bel.size)⟩
theorem MgW.set (h : MgW w W cs) (i : Nat) (u : Value) : MgW w (W.setCell ⟨w.heap.size, i, none⟩ u) (cs.setIfInBounds i u) :=
  ⟨h.b1.set_ i u, h.b2.far (p := ⟨w.heap.size, i, none⟩) (by show w.heap.size + 1 ≠ w.heap.size; omega) u, h.bel.setCell (p := ⟨w.heap.size, i, none⟩) (Nat.le_refl _) u⟩
theorem MgW.sz (h : MgW w W cs) : w.heap.size + 2 ≤ W.heap.size := by have := h.b2.lt; omega
/-- What is new in W stays in W'. -/
def KpN (w W W' : World) : Prop := ∀ g, N2 w W g → W'.heap[g]? = W.heap[g]? ∧ N2 w W' g
theorem KpN.call (hb : Below W.heap.size W W') : KpN w W W' := fun g hg => ⟨hb.block g hg.2, hg.1, Nat.lt_of_lt_of_le hg.2 hb.size⟩
theorem KpN.set (i : Nat) (u : Value) : KpN w W (W.setCell ⟨w.heap.size, i, none⟩ u) := fun g hg => ⟨Below.heap_setCell W ⟨w.heap.size, i, none⟩ u g (by have := hg.1; show g ≠ w.heap.size; omega), hg.1, by simpa [World.setCell] using hg.2⟩
theorem KpN.trans {W'' : World} (h : KpN w W W') (k : KpN w W' W'') : KpN w W W'' := fun g hg => ⟨(k g (h g hg).2).1.trans (h g hg).1, (k g (h g hg).2).2⟩
theorem KpN.rd {z n : Nat} {A : Option Addr} {xs : List Value} (h : ReadsS W (N2 w W) z A n xs) (k : KpN w W W') : ReadsS W' (N2 w W') z A n xs := h.keep (fun g hg => (k g hg).1) fun g hg => (k g hg).2
end
set_option maxHeartbeats 8000000 in
set_option maxRecDepth 100000 in
theorem t_merged {N : Nat} {S : Nat → Prop} {x0 x1 x2 x3 x4 x5 x6 x7 x8 x9 : Value} {x : InT} (w : World) (hM : MrgH N) (h : RepI w S #[x0, x1, x2, x3, x4, x5, x6, x7, x8, x9] x) (hS : ∀ g, S g → g < w.heap.size) (hx : sizeI x ≤ 1000000) (hN : sizeL x.kids ≤ N) :
    Calls Try.prog 35 #[.agg #[x0, x1, x2, x3, x4, x5, x6, x7, x8, x9]] w (MgdP x w) := by
  cases h with
  | mk kind text dest title att args cites kids A1 A2 A3 A4 A5 c1 c2 c3 c4 c5 vs h1 h2 h3 h4 h5 h6 =>
  have hn : att.cl.length ≤ 1000000 ∧ att.pr.length ≤ 1000000 ∧ args.length ≤ 1000000 ∧ cites.length ≤ 1000000 := by
    unfold sizeI at hx
    omega
  obtain ⟨n1, n2, n3, n4⟩ := hn
  have hN' : sizeL kids ≤ N := hN
  obtain ⟨id, cl, pr⟩ := att
  have H1 := Lib.hid h1
  have H2 := Lib.hid h2
  have H3 := Lib.hid h3
  have H4 := Lib.hid h4
  have H5 := Lib.hid h5
  have H6 := Lib.hid h6
  have HS := Lib.hid hS
  unfold MrgH at hM
  have HM := Lib.hid (hM kids hN' S)
  have HX : Hid (mergeI (.mk kind text dest title ⟨id, cl, pr⟩ args cites kids) = .mk kind text dest title ⟨id, cl, pr⟩ args cites (mergeL kids)) := Lib.hid (by unfold mergeL; rw [mergeI])
  clear h1 h2 h3 h4 h5 h6 hS hM hx hN
  go_enter Try.func35, Try.ntmps35
  go_wp2_with fail
  have q : MgW w ((w.alloc (.cells #[.int .i64 kind, .string text, .string dest, .string title, .string id, .slice A1 cl.length c1, .slice A2 pr.length c2, .slice A3 args.length c3, .slice A4 cites.length c4, .slice A5 kids.length c5] 37)).alloc (.cells zIn 37)) #[.int .i64 kind, .string text, .string dest, .string title, .string id, .slice A1 cl.length c1, .slice A2 pr.length c2, .slice A3 args.length c3, .slice A4 cites.length c4, .slice A5 kids.length c5] := ⟨(Blk.new _ _ _).alloc _, by
    have := Blk.new (w.alloc (.cells #[.int .i64 kind, .string text, .string dest, .string title, .string id, .slice A1 cl.length c1, .slice A2 pr.length c2, .slice A3 args.length c3, .slice A4 cites.length c4, .slice A5 kids.length c5] 37)) 37 zIn
    rw [World.size_alloc] at this
    exact this, ((Below.refl _ w).alloc (Nat.le_refl _) _).alloc (by simp) _⟩
  unfold zIn at q
  generalize (w.alloc (.cells #[.int .i64 kind, .string text, .string dest, .string title, .string id, .slice A1 cl.length c1, .slice A2 pr.length c2, .slice A3 args.length c3, .slice A4 cites.length c4, .slice A5 kids.length c5] 37)).alloc (.cells #[.int .i64 0, .string ⟨#[]⟩, .string ⟨#[]⟩, .string ⟨#[]⟩, .string ⟨#[]⟩, .slice none 0 0, .slice none 0 0, .slice none 0 0, .slice none 0 0, .slice none 0 0] 37) = W1 at *
  have hlt := q.b1.lt
  ((with_reducible refine (t_copyAttr W1 (H1.out.keep (fun g hg => q.bel.block g (HS.out g hg)) fun _ h => h) (H2.out.keep (fun g hg => q.bel.block g (HS.out g hg)) fun _ h => h) (fun g hg => Nat.lt_of_lt_of_le (HS.out g hg) q.bel.size) n1 n2).mono ?_))
  rintro e W2 ⟨B1, d1, B2, d2, rfl, r1, r2, p⟩
  have z := q.sz
  have r1 : ReadsS W2 (N2 w W2) 1 B1 cl.length (strs cl) := r1.keep (fun _ _ => rfl) fun g hg => ⟨Nat.le_trans z hg.1, hg.2⟩
  have r2 : ReadsS W2 (N2 w W2) 2 B2 pr.length (prs pr) := r2.keep (fun _ _ => rfl) fun g hg => ⟨Nat.le_trans z hg.1, hg.2⟩
  have q := q.call p
  clear p z
  have y4 : W2.cell? ⟨w.heap.size, 4, none⟩ = some (.string id) := q.b1.cell 4
  have y5 : W2.cell? ⟨w.heap.size, 5, none⟩ = some (.slice A1 cl.length c1) := q.b1.cell 5
  have y6 : W2.cell? ⟨w.heap.size, 6, none⟩ = some (.slice A2 pr.length c2) := q.b1.cell 6
  have y7 : W2.cell? ⟨w.heap.size, 7, none⟩ = some (.slice A3 args.length c3) := q.b1.cell 7
  have yf := q.b1.frozen
  have Q := Lib.hid (((q.set 4 (.string id)).set 5 (.slice B1 cl.length d1)).set 6 (.slice B2 pr.length d2))
  have KK : KpN w W2 (((W2.setCell ⟨w.heap.size, 4, none⟩ (.string id)).setCell ⟨w.heap.size, 5, none⟩ (.slice B1 cl.length d1)).setCell ⟨w.heap.size, 6, none⟩ (.slice B2 pr.length d2)) := (KpN.set 4 _).trans ((KpN.set 5 _).trans (KpN.set 6 _))
  have R1 := Lib.hid (KpN.rd r1 KK)
  have R2 := Lib.hid (KpN.rd r2 KK)
  clear q r1 r2 KK
  go_wp2_with fail
  generalize ((W2.setCell ⟨w.heap.size, 4, none⟩ (.string id)).setCell ⟨w.heap.size, 5, none⟩ (.slice B1 cl.length d1)).setCell ⟨w.heap.size, 6, none⟩ (.slice B2 pr.length d2) = W3 at *
  clear y4 y5 y6 y7 yf
  have q := Q.out
  ((with_reducible refine (clone_str W3 (H3.out.keep (fun g hg => q.bel.block g (HS.out g hg)) fun _ h => h) (strs_one args) n3).mono ?_))
  rintro e W4 ⟨B3, d3, rfl, r3, p⟩
  have z := q.sz
  have r3 : ReadsS W4 (N2 w W4) 1 B3 args.length (strs args) := r3.keep (fun _ _ => rfl) fun g hg => ⟨Nat.le_trans z hg.1, hg.2⟩
  have q := q.call p
  have R1' := KpN.rd R1.out (KpN.call p)
  have R2' := KpN.rd R2.out (KpN.call p)
  have hlt := q.b1.lt
  clear p z Q R1 R2
  have y7 : W4.cell? ⟨w.heap.size, 7, none⟩ = some (.slice A3 args.length c3) := q.b1.cell 7
  have y8 : W4.cell? ⟨w.heap.size, 8, none⟩ = some (.slice A4 cites.length c4) := q.b1.cell 8
  have yf := q.b1.frozen
  have Q := Lib.hid (q.set 7 (.slice B3 args.length d3))
  have KK : KpN w W4 (W4.setCell ⟨w.heap.size, 7, none⟩ (.slice B3 args.length d3)) := KpN.set 7 _
  have R1 := Lib.hid (KpN.rd R1' KK)
  have R2 := Lib.hid (KpN.rd R2' KK)
  have R3 := Lib.hid (KpN.rd r3 KK)
  clear q r3 R1' R2' KK
  go_wp2_with fail
  generalize W4.setCell ⟨w.heap.size, 7, none⟩ (.slice B3 args.length d3) = W5 at *
  clear y7 y8 yf
  have q := Q.out
  ((with_reducible refine (clone_cited W5 (H4.out.keep (fun g hg => q.bel.block g (HS.out g hg)) fun _ h => h) (citVT_one cites) n4).mono ?_))
  rintro e W6 ⟨B4, d4, rfl, r4, p⟩
  have z := q.sz
  have r4 : ReadsS W6 (N2 w W6) 4 B4 cites.length (citVT cites) := r4.keep (fun _ _ => rfl) fun g hg => ⟨Nat.le_trans z hg.1, hg.2⟩
  have q := q.call p
  have R1' := KpN.rd R1.out (KpN.call p)
  have R2' := KpN.rd R2.out (KpN.call p)
  have R3' := KpN.rd R3.out (KpN.call p)
  have hlt := q.b1.lt
  clear p z Q R1 R2 R3
  have y8 : W6.cell? ⟨w.heap.size, 8, none⟩ = some (.slice A4 cites.length c4) := q.b1.cell 8
  have y9 : W6.cell? ⟨w.heap.size, 9, none⟩ = some (.slice A5 kids.length c5) := q.b1.cell 9
  have yf := q.b1.frozen
  have Q := Lib.hid (q.set 8 (.slice B4 cites.length d4))
  have KK : KpN w W6 (W6.setCell ⟨w.heap.size, 8, none⟩ (.slice B4 cites.length d4)) := KpN.set 8 _
  have R1 := Lib.hid (KpN.rd R1' KK)
  have R2 := Lib.hid (KpN.rd R2' KK)
  have R3 := Lib.hid (KpN.rd R3' KK)
  have R4 := Lib.hid (KpN.rd r4 KK)
  clear q r4 R1' R2' R3' KK
  go_wp2_with fail
  generalize W6.setCell ⟨w.heap.size, 8, none⟩ (.slice B4 cites.length d4) = W7 at *
  clear y8 y9 yf
  have q := Q.out
  ((with_reducible refine (HM.out W7 A5 c5 vs (H5.out.keep (fun g hg => q.bel.block g (HS.out g hg)) fun _ h => h) (H6.out.keep (fun g hg => q.bel.block g (HS.out g hg)) fun _ h => h) (fun g hg => Nat.lt_of_lt_of_le (HS.out g hg) q.bel.size)).mono ?_))
  rintro e W8 ⟨B5, d5, vs', rfl, r5, r6, p⟩
  have z := q.sz
  have r6' : ReadsS W8 (N2 w W8) 10 B5 (mergeL kids).length (vs'.flatMap Array.toList) := (ReadsS.of_own r6).keep (fun _ _ => rfl) fun g hg => ⟨Nat.le_trans z hg.1, hg.2⟩
  have r5' : RepIs W8 (N2 w W8) vs' (mergeL kids) := r5.keep (fun _ _ => rfl) fun g hg => ⟨Nat.le_trans z hg.1, hg.2⟩
  have q := q.call p
  have R1' := KpN.rd R1.out (KpN.call p)
  have R2' := KpN.rd R2.out (KpN.call p)
  have R3' := KpN.rd R3.out (KpN.call p)
  have R4' := KpN.rd R4.out (KpN.call p)
  have hlt := q.b1.lt
  clear p z Q R1 R2 R3 R4 r5 r6
  have y9 : W8.cell? ⟨w.heap.size, 9, none⟩ = some (.slice A5 kids.length c5) := q.b1.cell 9
  have yf := q.b1.frozen
  have hq9 := q.set 9 (.slice B5 (mergeL kids).length d5)
  have KK : KpN w W8 (W8.setCell ⟨w.heap.size, 9, none⟩ (.slice B5 (mergeL kids).length d5)) := KpN.set 9 _
  have hR : RepI (W8.setCell ⟨w.heap.size, 9, none⟩ (.slice B5 (mergeL kids).length d5)) (N2 w (W8.setCell ⟨w.heap.size, 9, none⟩ (.slice B5 (mergeL kids).length d5))) #[.int .i64 kind, .string text, .string dest, .string title, .string id, .slice B1 cl.length d1, .slice B2 pr.length d2, .slice B3 args.length d3, .slice B4 cites.length d4, .slice B5 (mergeL kids).length d5] (.mk kind text dest title ⟨id, cl, pr⟩ args cites (mergeL kids)) :=
    .mk kind text dest title ⟨id, cl, pr⟩ args cites (mergeL kids) B1 B2 B3 B4 B5 d1 d2 d3 d4 d5 vs' (KpN.rd R1' KK) (KpN.rd R2' KK) (KpN.rd R3' KK) (KpN.rd R4' KK) (r5'.keep (fun g hg => (KK g hg).1) fun g hg => (KK g hg).2) (KpN.rd r6' KK)
  have HQ : Hid (MgW w (W8.setCell ⟨w.heap.size, 9, none⟩ (.slice B5 (mergeL kids).length d5)) #[.int .i64 kind, .string text, .string dest, .string title, .string id, .slice B1 cl.length d1, .slice B2 pr.length d2, .slice B3 args.length d3, .slice B4 cites.length d4, .slice B5 (mergeL kids).length d5]) := Lib.hid hq9
  have HR := Lib.hid hR
  clear q r5' r6' R1' R2' R3' R4' KK hR hq9
  go_wp2_with (first | (refine wpList_load_row rfl 37 (.tmp 1) rfl w.heap.size rfl 37 #[.int .i64 kind, .string text, .string dest, .string title, .string id, .slice B1 cl.length d1, .slice B2 pr.length d2, .slice B3 args.length d3, .slice B4 cites.length d4, .slice B5 (mergeL kids).length d5] _ _ HQ.out.b1 Try.underlying37 rfl inl_size ?_) | (refine wpList_store_row rfl 37 (.tmp 2) (.tmp 19) rfl (w.heap.size + 1) #[.int .i64 kind, .string text, .string dest, .string title, .string id, .slice B1 cl.length d1, .slice B2 pr.length d2, .slice B3 args.length d3, .slice B4 cites.length d4, .slice B5 (mergeL kids).length d5] rfl rfl 37 _ HQ.out.b2 inl_size (by rfl) (by simp [Value.oneCell']) ?_))
  have HL := Lib.hid (run_loadVar_row (P := Try.prog) _ (w.heap.size + 1) 37 37 #[.int .i64 kind, .string text, .string dest, .string title, .string id, .slice B1 cl.length d1, .slice B2 pr.length d2, .slice B3 args.length d3, .slice B4 cites.length d4, .slice B5 (mergeL kids).length d5] (0, 0) _ (setRow_heap _ _ _ _ _ _ HQ.out.b2) Try.underlying37 rfl inl_size)
  have HF : Hid (MgdP (.mk kind text dest title ⟨id, cl, pr⟩ args cites kids) w (.returned (.agg #[.int .i64 kind, .string text, .string dest, .string title, .string id, .slice B1 cl.length d1, .slice B2 pr.length d2, .slice B3 args.length d3, .slice B4 cites.length d4, .slice B5 (mergeL kids).length d5])) ((W8.setCell ⟨w.heap.size, 9, none⟩ (.slice B5 (mergeL kids).length d5)).setRow (w.heap.size + 1) #[.int .i64 kind, .string text, .string dest, .string title, .string id, .slice B1 cl.length d1, .slice B2 pr.length d2, .slice B3 args.length d3, .slice B4 cites.length d4, .slice B5 (mergeL kids).length d5])) := Lib.hid ⟨_, rfl, by
    rw [HX.out]
    exact HR.out.keep (fun g hg => setRow_other _ _ _ _ (by have := hg.1; show g ≠ w.heap.size + 1; omega)) fun g hg => ⟨by have := hg.1; omega, by rw [setRow_size]; exact hg.2⟩, below_setRow HQ.out.bel (by omega) _⟩
  refine row_ret Try.results35 HL.out ?_ ?_ HF.out
  · rfl
  · rfl

end Go.Proofs.Ytfnloonmeilhlaa
namespace Go.Pub
def setTxt : InT → List UInt8 → InT
  | .mk k t d ti a ar c ks, s => .mk k ⟨s.toArray⟩ d ti a ar c ks
def catT (l : List InT) : List UInt8 := l.flatMap fun x => x.text.toList
/-- The first text that is not empty. -/
def firstT : List InT → Option InT
  | [] => none
  | x :: l => if x.text.toList = [] then firstT l else some x
def runOut (l : List InT) : List InT := match firstT l with
  | none => []
  | some x => [setTxt x (catT l)]
theorem ofList_toList (t : ByteArray) : (⟨t.toList.toArray⟩ : ByteArray) = t := by
  rw [Lib.toList_data]
theorem toList_ofList (s : List UInt8) : (⟨s.toArray⟩ : ByteArray).toList = s := by
  rw [Lib.toList_data]
theorem setTxt_self (x : InT) : setTxt x x.text.toList = x := by
  obtain ⟨k, t, d, ti, a, ar, c, ks⟩ := x
  show InT.mk k ⟨t.toList.toArray⟩ d ti a ar c ks = _
  rw [ofList_toList]
theorem firstT_none : ∀ (l : List InT), firstT l = none → catT l = []
  | [], _ => rfl
  | x :: l, h => by
    unfold firstT at h
    by_cases hx : x.text.toList = []
    · rw [if_pos hx] at h
      show x.text.toList ++ catT l = []
      rw [hx, firstT_none l h]; rfl
    · rw [if_neg hx] at h; cases h
theorem firstT_mem : ∀ (l : List InT) (x : InT), firstT l = some x → x ∈ l ∧ x.text.toList ≠ []
  | [], x, h => by cases h
  | y :: l, x, h => by
    unfold firstT at h
    by_cases hx : y.text.toList = []
    · rw [if_pos hx] at h
      obtain ⟨h1, h2⟩ := firstT_mem l x h
      exact ⟨List.mem_cons_of_mem _ h1, h2⟩
    · rw [if_neg hx] at h
      injection h with h
      subst h
      exact ⟨by simp, hx⟩
theorem setTxt_kind (x : InT) (s : List UInt8) : (setTxt x s).kind = x.kind := by obtain ⟨k, t, d, ti, a, ar, c, ks⟩ := x; rfl
theorem setTxt_text (x : InT) (s : List UInt8) : (setTxt x s).text.toList = s := by
  obtain ⟨k, t, d, ti, a, ar, c, ks⟩ := x
  exact toList_ofList s
/-- What is not a text begins a new part. -/
def NoTxt (l : List InT) : Prop := ∀ x r, l = x :: r → x.kind ≠ 1
theorem joinT_cons (x : InT) (l : List InT) : joinT (x :: l) = if x.kind ≠ 1 then x :: joinT l else if x.text.toList = [] then joinT l else match joinT l with
    | [] => [x]
    | y :: r => if y.kind = 1 then setTxt x (x.text.toList ++ y.text.toList) :: r else x :: y :: r := by
  obtain ⟨k, t, d, ti, a, ar, c, ks⟩ := x
  rw [joinT.eq_def]
  dsimp only
  split
  · rfl
  · split
    · rfl
    · cases joinT l <;> rfl
theorem joinT_no {x : InT} {l : List InT} (h : x.kind ≠ 1) : joinT (x :: l) = x :: joinT l := by
  rw [joinT_cons, if_pos h]
theorem joinT_empty {x : InT} {l : List InT} (h : x.kind = 1) (h2 : x.text.toList = []) : joinT (x :: l) = joinT l := by
  rw [joinT_cons, if_neg (by simp [h]), if_pos h2]
theorem joinT_txt0 {x : InT} {l : List InT} (h : x.kind = 1) (h2 : x.text.toList ≠ []) (h3 : NoTxt (joinT l)) : joinT (x :: l) = x :: joinT l := by
  rw [joinT_cons, if_neg (by simp [h]), if_neg h2]
  cases hj : joinT l with
  | nil => rfl
  | cons y r =>
    have := h3 y r hj
    simp only [if_neg this]
theorem joinT_txt1 {x y : InT} {l r : List InT} (h : x.kind = 1) (h2 : x.text.toList ≠ []) (h3 : joinT l = y :: r) (h4 : y.kind = 1) : joinT (x :: l) = setTxt x (x.text.toList ++ y.text.toList) :: r := by
  rw [joinT_cons, if_neg (by simp [h]), if_neg h2, h3]
  simp only [if_pos h4]
theorem NoTxt.join {l : List InT} (h : NoTxt l) : NoTxt (joinT l) := by
  cases l with
  | nil => intro x r e; cases e
  | cons y l =>
    have hy := h y l rfl
    rw [joinT_no hy]
    intro x r e
    injection e with e1 e2
    rw [← e1]; exact hy
/-- A run of texts is one text, or none. -/
theorem joinT_run : ∀ (ts rest : List InT), (∀ x ∈ ts, x.kind = 1) → NoTxt rest → joinT (ts ++ rest) = runOut ts ++ joinT rest
  | [], rest, _, _ => rfl
  | x :: ts, rest, h, hr => by
    have hx := h x (by simp)
    have ih := joinT_run ts rest (fun y hy => h y (List.mem_cons_of_mem _ hy)) hr
    rw [List.cons_append]
    by_cases he : x.text.toList = []
    · rw [joinT_empty hx he, ih]
      congr 1
      unfold runOut
      rw [show firstT (x :: ts) = firstT ts by rw [firstT, if_pos he], show catT (x :: ts) = catT ts by show x.text.toList ++ catT ts = _; rw [he]; rfl]
    · have hf : firstT (x :: ts) = some x := by rw [firstT, if_neg he]
      have ho : runOut (x :: ts) = [setTxt x (x.text.toList ++ catT ts)] := by unfold runOut; rw [hf]; rfl
      rw [ho]
      cases hz : firstT ts with
      | none =>
        have hc := firstT_none ts hz
        have hro : runOut ts = [] := by unfold runOut; rw [hz]
        rw [hro, List.nil_append] at ih
        rw [joinT_txt0 hx he (by rw [ih]; exact hr.join), ih, hc, List.append_nil, setTxt_self]
        rfl
      | some z =>
        obtain ⟨hz1, -⟩ := firstT_mem ts z hz
        have hro : runOut ts = [setTxt z (catT ts)] := by unfold runOut; rw [hz]
        rw [hro] at ih
        rw [joinT_txt1 hx he ih (by rw [setTxt_kind]; exact h z (List.mem_cons_of_mem _ hz1)), setTxt_text]
        rfl
theorem mergeI_kind (x : InT) : (mergeI x).kind = x.kind ∧ (mergeI x).text = x.text := by
  obtain ⟨k, t, d, ti, a, ar, c, ks⟩ := x
  rw [mergeI]
  exact ⟨rfl, rfl⟩
theorem mapI_eq : ∀ (l : List InT), mapI l = l.map mergeI
  | [] => by rw [mapI]; rfl
  | x :: l => by rw [mapI, mapI_eq l]; rfl
theorem catT_map (l : List InT) : catT (l.map mergeI) = catT l := by
  unfold catT
  rw [List.flatMap_map]
  congr 1
  funext x
  show (mergeI x).text.toList = x.text.toList
  rw [(mergeI_kind x).2]
theorem firstT_map : ∀ (l : List InT), firstT (l.map mergeI) = (firstT l).map mergeI
  | [] => rfl
  | x :: l => by
    rw [List.map_cons, firstT, (mergeI_kind x).2, firstT_map l, firstT]
    split <;> rfl
theorem mergeL_no {x : InT} {l : List InT} (h : x.kind ≠ 1) : mergeL (x :: l) = mergeI x :: mergeL l := by
  unfold mergeL
  rw [mapI, joinT_no (by rw [(mergeI_kind x).1]; exact h)]
theorem mergeL_run {ts rest : List InT} (h : ∀ x ∈ ts, x.kind = 1) (hr : NoTxt rest) : mergeL (ts ++ rest) = (match firstT ts with | none => [] | some x => [setTxt (mergeI x) (catT ts)]) ++ mergeL rest := by
  unfold mergeL
  rw [mapI_eq, mapI_eq, List.map_append, joinT_run (ts.map mergeI) (rest.map mergeI) (fun y hy => by
    obtain ⟨x, hx, rfl⟩ := List.mem_map.1 hy
    rw [(mergeI_kind x).1]; exact h x hx) (fun y r e => by
    cases rest with
    | nil => cases e
    | cons z rest =>
      injection e with e1 e2
      rw [← e1, (mergeI_kind z).1]; exact hr z rest rfl)]
  congr 1
  unfold runOut
  rw [firstT_map, catT_map]
  cases firstT ts <;> rfl
theorem firstT_snoc (x : InT) : ∀ (l : List InT), firstT (l ++ [x]) = match firstT l with
    | some y => some y
    | none => if x.text.toList = [] then none else some x
  | [] => by
    show firstT [x] = _
    rw [firstT]; rfl
  | y :: l => by
    rw [List.cons_append, firstT, firstT_snoc x l, firstT]
    by_cases h : y.text.toList = []
    · rw [if_pos h, if_pos h]
    · rw [if_neg h, if_neg h]
theorem catT_snoc (x : InT) (l : List InT) : catT (l ++ [x]) = catT l ++ x.text.toList := by
  unfold catT; rw [List.flatMap_append]; simp
/-- The elements from i up to j. -/
def segL (l : List InT) (i j : Nat) : List InT := (l.drop i).take (j - i)
theorem segL_snoc {l : List InT} {i j : Nat} (hij : i ≤ j) (h : j < l.length) : segL l i (j + 1) = segL l i j ++ [l[j]] := by
  unfold segL
  have h1 : j - i < (l.drop i).length := by rw [List.length_drop]; omega
  rw [show j + 1 - i = (j - i) + 1 by omega, List.take_succ_eq_append_getElem h1, List.getElem_drop]
  congr 3
  omega
theorem segL_nil (l : List InT) (i : Nat) : segL l i i = [] := by unfold segL; rw [Nat.sub_self, List.take_zero]
theorem segL_mem {l : List InT} {i j : Nat} {x : InT} (hj : j ≤ l.length) (h : x ∈ segL l i j) : ∃ (q : Nat) (hq : q < l.length), i ≤ q ∧ q < j ∧ x = l[q] := by
  unfold segL at h
  obtain ⟨k, hk, e⟩ := List.mem_iff_getElem.1 h
  rw [List.length_take, List.length_drop] at hk
  refine ⟨i + k, by omega, by omega, by omega, ?_⟩
  rw [← e, List.getElem_take, List.getElem_drop]
theorem seg_end {l : List InT} {i j : Nat} (hij : i ≤ j) (hj : j ≤ l.length) (hk : ∀ (q : Nat) (hq : q < l.length), i ≤ q → q < j → l[q].kind = 1) (he : ∀ (h : j < l.length), l[j].kind ≠ 1) :
    mergeL (l.drop i) = (match firstT (segL l i j) with | none => [] | some x => [setTxt (mergeI x) (catT (segL l i j))]) ++ mergeL (l.drop j) := by
  have hs : l.drop i = segL l i j ++ l.drop j := by
    unfold segL
    conv => lhs; rw [← List.take_append_drop (j - i) (l.drop i)]
    rw [List.drop_drop, show i + (j - i) = j by omega]
  rw [hs]
  refine mergeL_run (fun x hx => ?_) fun x r e => ?_
  · obtain ⟨q, hq, h1, h2, rfl⟩ := segL_mem hj hx
    exact hk q hq h1 h2
  · have hlt : j < l.length := by
      rcases Nat.lt_or_ge j l.length with h | h
      · exact h
      · rw [List.drop_eq_nil_of_le h] at e; cases e
    rw [List.drop_eq_getElem_cons hlt] at e
    injection e with e1 e2
    rw [← e1]; exact he hlt
end Go.Pub
namespace Go.Proofs.Ytfnloonmeilhlaa
open Go.RowKit Go.Pub
theorem wpList_inSlice {ops : Array Oper} {rest : List Oper} {o : Oper} {a : Act} {w : World} {Q : Exit → Act → World → Prop} (hgd : o.guard = none) (x : Operand) (ho : o.op = .buildSlice 26 1 #[(0, x)])
    (x0 x1 x2 x3 x4 x5 x6 x7 x8 x9 : Value) (hx : a.eval x = .agg #[x0, x1, x2, x3, x4, x5, x6, x7, x8, x9])
    (h : wpList Try.prog ops Q rest (a.put o.dst (.slice (some ⟨w.heap.size, 0, none⟩) 1 1)) (w.alloc (.cells #[x0, x1, x2, x3, x4, x5, x6, x7, x8, x9] 37))) : wpList Try.prog ops Q (o :: rest) a w := by
  obtain ⟨i0, hi0, hz0, hz1, hz2⟩ := info_parts inl_info
  refine wpList_buildSlice hgd 26 37 1 _ ho _ i0 _ Try.underlying26 hi0 hz0 (by rw [hz1]; decide) (by rw [hz1]; decide) ?_ h
  rw [hz1]
  have e : (#[((0 : Nat), x)].map fun (q : Nat × Operand) => (q.1, a.eval q.2)).toList = [(0, a.eval x)] := by simp
  rw [hx] at e
  show Instr.fill _ _ (#[((0 : Nat), x)].map fun (q : Nat × Operand) => (q.1, a.eval q.2)).toList = _
  rw [e]
  exact inl_fill x0 x1 x2 x3 x4 x5 x6 x7 x8 x9
/-- What is done of a list lies in a row of the call's own, none of what it reads in that row. -/
structure MrW (w : World) (l done : List InT) (i : Nat) (v : Value) (wr : World) : Prop where
  eq : mergeL l = done ++ mergeL (l.drop i)
  row : ∃ (S : Nat → Prop) (vs : List (Array Value)), (∀ g, S g → NewG w wr g ∧ v.ownBlock ≠ some g) ∧ RepIs wr S vs done ∧ wr.ownsRow w.heap.size 37 10 v done.length (vs.flatMap Array.toList)
  bel : Below w.heap.size w wr
section
variable {w wr W W7 : World} {l done : List InT} {i : Nat} {v : Value}
theorem MrW.start (w : World) (l : List InT) : MrW w l [] 0 (.slice none 0 0) w :=
  ⟨rfl, ⟨fun _ => False, [], fun _ h => h.elim, .nil, World.ownsRow_nil _ _ _ _⟩, Below.refl _ _⟩
theorem MrW.call (h : MrW w l done i v wr) (hb : Below wr.heap.size wr W) : MrW w l done i v W := by
  obtain ⟨S, vs, h1, h2, h3⟩ := h.row
  exact ⟨h.eq, ⟨S, vs, fun g hg => ⟨⟨(h1 g hg).1.1, Nat.lt_of_lt_of_le (h1 g hg).1.2 hb.size⟩, (h1 g hg).2⟩, h2.keep (fun g hg => hb.block g (h1 g hg).1.2) fun _ h => h, own_below h3 hb⟩, h.bel.trans (hb.mono h.bel.size)⟩
/-- An inline more. -/
theorem MrW.push {j g cap H : Nat} {x : InT} {u : Array Value} {o : Obj} {S2 S : Nat → Prop} {vs : List (Array Value)} (h : MrW w l done i v wr) (h1 : ∀ g, S g → NewG w wr g ∧ v.ownBlock ≠ some g) (h2 : RepIs wr S vs done) (h3 : wr.ownsRow w.heap.size 37 10 v done.length (vs.flatMap Array.toList)) (hb : Below wr.heap.size wr W) (hx : RepI W S2 u x) (hS2 : ∀ g, S2 g → wr.heap.size ≤ g ∧ g < W.heap.size)
    (hown : W7.ownsRow w.heap.size 37 10 (.slice (some ⟨g, 0, none⟩) (done.length + 1) cap) (done.length + 1) (vs.flatMap Array.toList ++ u.toList))
    (hgrow : (W.alloc o).grownBy W7 v.ownBlock) (hlies : v.ownBlock = some g ∨ g = H) (hH : W.heap.size ≤ H) (he : mergeL (l.drop i) = x :: mergeL (l.drop j)) :
    MrW w l (done ++ [x]) j (.slice (some ⟨g, 0, none⟩) (done.length + 1) cap) W7 := by
  have hlt := h3.lt
  have hzb := h.bel.size
  have hzW := hb.size
  have hz7 := hgrow.size
  rw [World.size_alloc] at hz7
  have hk : ∀ k, k < W.heap.size → v.ownBlock ≠ some k → W7.heap[k]? = W.heap[k]? := fun k hk hne => (hgrow.block k (by rw [World.size_alloc]; omega) fun e => hne e.symm).trans (Below.heap_alloc W o k hk)
  refine ⟨by rw [h.eq, he]; simp, ⟨fun k => S k ∨ S2 k, vs ++ [u], fun k hk => ?_, ?_, ?_⟩, ?_⟩
  · rcases hk with hk | hk
    · obtain ⟨⟨a1, a2⟩, a3⟩ := h1 k hk
      refine ⟨⟨a1, by omega⟩, fun e => ?_⟩
      have e' : g = k := by simpa [Value.ownBlock] using e
      subst e'
      rcases hlies with hl | hl
      · exact a3 hl
      · omega
    · obtain ⟨a1, a2⟩ := hS2 k hk
      refine ⟨⟨by omega, by omega⟩, fun e => ?_⟩
      have e' : g = k := by simpa [Value.ownBlock] using e
      subst e'
      rcases hlies with hl | hl
      · have := (hlt g hl).2; omega
      · omega
  · refine RepIs.snoc (h2.keep (fun k hk' => ?_) fun _ h => Or.inl h) (hx.keep (fun k hk' => ?_) fun _ h => Or.inr h)
    · obtain ⟨⟨a1, a2⟩, a3⟩ := h1 k hk'
      exact (hk k (by omega) a3).trans (hb.block k a2)
    · obtain ⟨a1, a2⟩ := hS2 k hk'
      exact hk k a2 fun e => by have := (hlt k e).2; omega
  · rw [List.length_append, List.length_singleton, List.flatMap_append, List.flatMap_singleton]
    exact hown
  · refine ⟨hgrow.os.trans (hb.os.trans h.bel.os), hgrow.tape.trans (hb.tape.trans h.bel.tape), hgrow.output.trans (hb.output.trans h.bel.output), by omega, fun k hk' => ?_⟩
    exact (hk k (by omega) fun e => by have := (hlt k e).1; omega).trans ((hb.block k (by omega)).trans (h.bel.block k hk'))
/-- Nothing more: the rest gives nothing. -/
theorem MrW.skip {j : Nat} (h : MrW w l done i v wr) (he : mergeL (l.drop i) = mergeL (l.drop j)) : MrW w l done j v wr := ⟨by rw [h.eq, he], h.row, h.bel⟩
end
end Go.Proofs.Ytfnloonmeilhlaa
namespace Go.Pub
/-- An inline more behind what is joined. -/
def stepJ (out : List InT) (x : InT) : List InT :=
  if x.kind = 1 ∧ x.text.toList = [] then out else match out.getLast? with
    | none => out ++ [x]
    | some y => if x.kind = 1 ∧ y.kind = 1 then out.dropLast ++ [setTxt y (y.text.toList ++ x.text.toList)] else out ++ [x]
theorem stepJ_empty {out : List InT} {x : InT} (h : x.kind = 1 ∧ x.text.toList = []) : stepJ out x = out := by unfold stepJ; rw [if_pos h]
theorem stepJ_nil {x : InT} (h : ¬ (x.kind = 1 ∧ x.text.toList = [])) : stepJ [] x = [x] := by unfold stepJ; rw [if_neg h]; rfl
theorem stepJ_txt {o : List InT} {x y : InT} (h : x.kind = 1) (h2 : x.text.toList ≠ []) (hy : y.kind = 1) : stepJ (o ++ [y]) x = o ++ [setTxt y (y.text.toList ++ x.text.toList)] := by
  unfold stepJ
  rw [if_neg (fun e => h2 e.2), List.getLast?_concat]
  dsimp only
  rw [if_pos ⟨h, hy⟩, List.dropLast_concat]
theorem stepJ_add {o : List InT} {x y : InT} (h : ¬ (x.kind = 1 ∧ x.text.toList = [])) (hy : ¬ (x.kind = 1 ∧ y.kind = 1)) : stepJ (o ++ [y]) x = o ++ [y] ++ [x] := by
  unfold stepJ
  rw [if_neg h, List.getLast?_concat]
  dsimp only
  rw [if_neg hy]
theorem setTxt_twice (x : InT) (a b : List UInt8) : setTxt (setTxt x a) b = setTxt x b := by obtain ⟨k, t, d, ti, at', ar, c, ks⟩ := x; rfl
theorem joinT_two {x y : InT} {l : List InT} (hx : x.kind = 1) (hxt : x.text.toList ≠ []) (hy : y.kind = 1) (hyt : y.text.toList ≠ []) : joinT (x :: y :: l) = joinT (setTxt x (x.text.toList ++ y.text.toList) :: l) := by
  have hs : (setTxt x (x.text.toList ++ y.text.toList)).kind = 1 := by rw [setTxt_kind]; exact hx
  have hst : (setTxt x (x.text.toList ++ y.text.toList)).text.toList ≠ [] := by rw [setTxt_text]; simp [hxt]
  rw [joinT_cons x, if_neg (by simp [hx]), if_neg hxt, joinT_cons y, if_neg (by simp [hy]), if_neg hyt, joinT_cons (setTxt x _), if_neg (by simp [hs]), if_neg hst]
  cases joinT l with
  | nil => simp only [if_pos hy]
  | cons z r =>
    dsimp only
    by_cases hz : z.kind = 1
    · rw [if_pos hz, if_pos hz]
      dsimp only
      rw [if_pos (by rw [setTxt_kind]; exact hy), setTxt_text, setTxt_text, setTxt_twice, List.append_assoc]
    · rw [if_neg hz, if_neg hz]
      dsimp only
      rw [if_pos hy]
theorem foldJ : ∀ (l : List InT), (∀ out : List InT, (∀ y, out.getLast? = some y → y.kind ≠ 1) → l.foldl stepJ out = out ++ joinT l) ∧ (∀ (o : List InT) (y : InT), y.kind = 1 → y.text.toList ≠ [] → l.foldl stepJ (o ++ [y]) = o ++ joinT (y :: l))
  | [] => ⟨fun out _ => by show out = out ++ []; rw [List.append_nil], fun o y h1 h2 => by
      rw [joinT_cons, if_neg (by simp [h1]), if_neg h2]; rfl⟩
  | x :: l => by
    obtain ⟨ha, hb⟩ := foldJ l
    refine ⟨fun out ho => ?_, fun o y h1 h2 => ?_⟩
    · rw [List.foldl_cons]
      by_cases hk : x.kind = 1
      · by_cases ht : x.text.toList = []
        · rw [stepJ_empty ⟨hk, ht⟩, ha out ho, joinT_empty hk ht]
        · have e : stepJ out x = out ++ [x] := by
            rcases List.eq_nil_or_concat out with rfl | ⟨o, y, rfl⟩
            · exact stepJ_nil fun h => ht h.2
            · rw [List.concat_eq_append] at ho ⊢
              exact stepJ_add (fun h => ht h.2) fun h => ho y (List.getLast?_concat) h.2
          rw [e, hb out x hk ht]
      · have e : stepJ out x = out ++ [x] := by
          rcases List.eq_nil_or_concat out with rfl | ⟨o, y, rfl⟩
          · exact stepJ_nil fun h => hk h.1
          · rw [List.concat_eq_append]
            exact stepJ_add (fun h => hk h.1) fun h => hk h.1
        rw [e, ha (out ++ [x]) (fun y hy => by rw [List.getLast?_concat] at hy; injection hy with hy; rw [← hy]; exact hk), joinT_no hk, List.append_assoc]
        rfl
    · rw [List.foldl_cons]
      by_cases hk : x.kind = 1
      · by_cases ht : x.text.toList = []
        · rw [stepJ_empty ⟨hk, ht⟩, hb o y h1 h2, joinT_cons y, joinT_cons y (x :: l), joinT_empty hk ht]
        · rw [stepJ_txt hk ht h1, hb o _ (by rw [setTxt_kind]; exact h1) (by rw [setTxt_text]; simp [h2]), joinT_two h1 h2 hk ht]
      · rw [stepJ_add (fun h => hk h.1) (fun h => hk h.1), ha (o ++ [y] ++ [x]) (fun z hz => by rw [List.getLast?_concat] at hz; injection hz with hz; rw [← hz]; exact hk)]
        rw [joinT_txt0 h1 h2 (by rw [joinT_no hk]; intro z r e; injection e with e1 e2; rw [← e1]; exact hk), joinT_no hk]
        simp
theorem foldJ_all (l : List InT) : l.foldl stepJ [] = joinT l := by
  have := (foldJ l).1 [] (fun y h => by simp at h)
  simpa using this
theorem foldJ_take (l : List InT) (i : Nat) (h : i < l.length) : (l.take (i + 1)).foldl stepJ [] = stepJ ((l.take i).foldl stepJ []) l[i] := by
  rw [List.take_succ_eq_append_getElem h, List.foldl_append]; rfl
theorem stepJ_len (out : List InT) (x : InT) : (stepJ out x).length ≤ out.length + 1 := by
  unfold stepJ
  split
  · omega
  · split
    · simp
    · split
      · rw [List.length_append, List.length_dropLast, List.length_singleton]; omega
      · simp
/-- Texts that are empty give nothing. -/
def neT (x : InT) : Bool := !(decide (x.kind = 1) && decide (x.text.toList = []))
theorem joinT_filter : ∀ l : List InT, joinT (l.filter neT) = joinT l
  | [] => rfl
  | x :: l => by
    have ih := joinT_filter l
    by_cases h : x.kind = 1 ∧ x.text.toList = []
    · rw [List.filter_cons_of_neg (by simp [neT, h.1, h.2]), ih, joinT_empty h.1 h.2]
    · rw [List.filter_cons_of_pos (by simp only [neT, Bool.not_eq_true', Bool.and_eq_false_iff, decide_eq_false_iff_not]; by_cases h1 : x.kind = 1; exact .inr fun e => h ⟨h1, e⟩; exact .inl h1), joinT_cons, joinT_cons, ih]
theorem mergeL_filter (l : List InT) : mergeL (l.filter neT) = mergeL l := by
  unfold mergeL
  rw [mapI_eq, mapI_eq, ← joinT_filter (l.map mergeI), List.filter_map]
  congr 2
  refine List.filter_congr fun x _ => ?_
  show neT x = neT (mergeI x)
  unfold neT
  rw [(mergeI_kind x).1, (mergeI_kind x).2]
end Go.Pub
namespace Go.Pub
theorem catT_len : ∀ l : List InT, (catT l).length ≤ sizeL l
  | [] => Nat.zero_le _
  | x :: l => by
    have ih := catT_len l
    have hx : x.text.toList.length ≤ sizeI x := by
      obtain ⟨k, t, d, ti, a, ar, c, ks⟩ := x
      rw [sizeI]
      have : (InT.mk k t d ti a ar c ks).text.toList.length = t.size := by
        show t.toList.length = t.size
        rw [Lib.toList_data]; exact Array.length_toList
      omega
    show (x.text.toList ++ catT l).length ≤ _
    rw [List.length_append, sizeL]
    omega
theorem sizeL_app : ∀ a b : List InT, sizeL (a ++ b) = sizeL a + sizeL b
  | [], b => by rw [List.nil_append]; show _ = sizeL [] + _; rw [sizeL]; omega
  | x :: a, b => by rw [List.cons_append, sizeL, sizeL, sizeL_app a b]; omega
theorem segL_size (l : List InT) (i j : Nat) : sizeL (segL l i j) ≤ sizeL l := by
  unfold segL
  have h1 := sizeL_app ((l.drop i).take (j - i)) ((l.drop i).drop (j - i))
  have h2 := sizeL_app (l.take i) (l.drop i)
  rw [List.take_append_drop] at h1 h2
  omega
end Go.Pub
namespace Go.Proofs.Ytfnloonmeilhlaa
open Go.RowKit Go.Pub
/-- What holds in the loop over a run of texts. -/
structure TxW (l : List InT) (i j : Nat) (f : Int) (wr wx : World) : Prop where
  bel : Below wr.heap.size wr wx
  bld : Lib.IsBuilderF 84 5 wr.heap.size wr.heap.size (Lib.byteCells (catT (segL l i j))) wx
  kinds : ∀ (q : Nat) (hq : q < l.length), i ≤ q → q < j → l[q].kind = 1
  fst : (f = -1 ∧ firstT (segL l i j) = none) ∨ ∃ (q : Nat) (hq : q < l.length), f = q ∧ i ≤ q ∧ q < j ∧ firstT (segL l i j) = some l[q]
theorem TxW.start (l : List InT) (i : Nat) (wr : World) : TxW l i i (-1) wr (wr.alloc (.cells #[.pointer none, .slice none 0 0] 84)) :=
  ⟨(Below.refl _ wr).alloc (Nat.le_refl _) _, by rw [segL_nil]; exact Lib.IsBuilderF.of (Lib.fresh_isBuilder 84 5 wr), fun q hq h1 h2 => absurd h2 (by omega), .inl ⟨rfl, by rw [segL_nil]; rfl⟩⟩
theorem TxW.step {l : List InT} {i j : Nat} {f f' : Int} {wr wx w2 : World} (h : TxW l i j f wr wx) (hij : i ≤ j) (hj : j < l.length) (hk : l[j].kind = 1) (hb : Below wr.heap.size wx w2)
    (hbd : Lib.IsBuilderF 84 5 wr.heap.size wr.heap.size (Lib.byteCells (catT (segL l i j)) ++ Lib.byteCells l[j].text.toList) w2)
    (hf : f' = if f = -1 ∧ l[j].text.toList ≠ [] then (j : Int) else f) : TxW l i (j + 1) f' wr w2 := by
  refine ⟨h.bel.trans hb, ?_, fun q hq h1 h2 => ?_, ?_⟩
  · rw [segL_snoc hij hj, catT_snoc, Lib.byteCells_append]; exact hbd
  · rcases Nat.lt_or_ge q j with h3 | h3
    · exact h.kinds q hq h1 h3
    · obtain rfl : q = j := by omega
      exact hk
  · rw [segL_snoc hij hj, firstT_snoc]
    rcases h.fst with ⟨e, h0⟩ | ⟨q, hq, e, h1, h2, h0⟩
    · rw [h0, hf]
      by_cases ht : l[j].text.toList = []
      · rw [if_neg (fun h => h.2 ht)]
        exact .inl ⟨e, by simp [ht]⟩
      · rw [if_pos ⟨e, ht⟩]
        exact .inr ⟨j, hj, rfl, hij, by omega, by simp [ht]⟩
    · rw [h0, hf, if_neg (fun h => by have := h.1; omega)]
      exact .inr ⟨q, hq, e, h1, by omega, rfl⟩
end Go.Proofs.Ytfnloonmeilhlaa
namespace Go.Proofs.Ytfnloonmeilhlaa
open Go.RowKit Go.Pub
theorem byteCellsOf : Try.prog.cellsOf 5 = 1 := by kernel_rfl
/-- What a builder's String leaves. -/
def StrP (B M : Nat) (l : List UInt8) (w : World) (e : Ending) (w' : World) : Prop :=
  e = .returned (.string ⟨l.toArray⟩) ∧ Below B w w' ∧ (∀ k, M ≤ k → w'.heap[k]? = w.heap[k]?) ∧ w'.heap.size = w.heap.size
set_option maxHeartbeats 1000000 in
set_option maxRecDepth 100000 in
theorem b_string (B b : Nat) (l : List UInt8) (w0 w : World) (h : Lib.IsBuilderF 84 5 B b (Lib.byteCells l) w0) (hbw : Below w0.heap.size w0 w) (h0 : l ≠ []) :
    Calls Try.prog 37 #[.pointer (some ⟨b, 0, none⟩)] w (StrP B w0.heap.size l w) := by
  obtain ⟨p, hAt⟩ : ∃ p, Lib.BuilderAtF 84 5 B b p (Lib.byteCells l) w0 := by
    rcases h with h | h
    · exact ⟨_, h⟩
    · exact ⟨_, h⟩
  obtain ⟨hB, v, hbk, hown, hne⟩ := hAt
  have hl0 : l.length ≠ 0 := by simpa using h0
  rw [Lib.byteCells_length] at hown
  obtain ⟨g, cap, cur, fz, rfl, hbg, hg, hfz, hnc, hcm, hcs, htake⟩ : ∃ g cap cur fz, v = .slice (some ⟨g, 0, none⟩) l.length cap ∧ B ≤ g ∧ w0.heap[g]? = some (.cells cur 5 fz) ∧ fz.2 ≤ l.length * 1 ∧ l.length ≤ cap ∧ cap ≤ maxLen ∧ cur.size = cap * 1 ∧ cur.toList.take (l.length * 1) = Lib.byteCells l := by
    rcases hown.2 with ⟨_, hz⟩ | ⟨g, cap, cur, fz, hv, r⟩
    · exact absurd hz hl0
    · exact ⟨g, cap, cur, fz, hv, r⟩
  have hgl : g < w0.heap.size := (Array.getElem?_eq_some_iff.1 hg).1
  have hbl : b < w0.heap.size := (Array.getElem?_eq_some_iff.1 hbk).1
  have hg : w.heap[g]? = some (.cells cur 5 fz) := (hbw.block g hgl).trans hg
  have hbk : w.heap[b]? = some (.cells #[p, .slice (some ⟨g, 0, none⟩) l.length cap] 84 (0, 0)) := (hbw.block b hbl).trans hbk
  have c1 : w.drew.cell? ⟨b, 1, none⟩ = some (.slice (some ⟨g, 0, none⟩) l.length cap) := by
    have : w.drew.heap[b]? = some (.cells #[p, .slice (some ⟨g, 0, none⟩) l.length cap] 84 (0, 0)) := hbk
    rw [Lib.cell_of_heap this]; rfl
  have hSD : (Builtin.unsafeSliceData_ #[82] 107 #[.slice (some ⟨g, 0, none⟩) l.length cap]).run Try.prog w.drew = .ok (.pointer (some ⟨g, 0, none⟩)) w.drew :=
    Lib.run_unsafeSliceData_row _ _ _ _ _ _ (by omega)
  have hUS : (Builtin.unsafeString_ #[107, 3] 9 #[.pointer (some ⟨g, 0, none⟩), .int .i64 l.length]).run Try.prog w.drew = .ok (.string ⟨l.toArray⟩) (w.drew.freeze ⟨g, 0, none⟩ l.length) := by
    refine Lib.run_unsafeString_row w.drew 107 3 9 5 Try.underlying107 byteCellsOf g cur.size (by have hg' : w.drew.heap[g]? = some (.cells cur 5 fz) := hg; simp [World.shape?, hg']) l h0 (by omega) (by unfold maxLen at hcm; omega) ?_
    intro j x hx
    have hj : j < l.length := (List.getElem?_eq_some_iff.1 hx).1
    have hx' : (Lib.byteCells l)[j]? = some (.int .u8 x.toNat) := by simp [Lib.byteCells, hx]
    rw [← htake, List.getElem?_take, if_pos (by omega), Array.getElem?_toList] at hx'
    have hg' : w.drew.heap[g]? = some (.cells cur 5 fz) := hg
    have hadd : (⟨g, 0, none⟩ : Addr).add j = ⟨g, j, none⟩ := by unfold Addr.add; split <;> simp_all
    rw [hadd, Lib.cell_of_heap hg']; exact hx'
  have HF : Hid (StrP B w0.heap.size l w (.returned (.string ⟨l.toArray⟩)) (w.drew.freeze ⟨g, 0, none⟩ l.length)) := Lib.hid ⟨rfl, Lib.below_freeze (Below.drew (Below.refl B w)) (p := ⟨g, 0, none⟩) hbg _, fun k hk => by
    have hkg : k ≠ g := by omega
    show (w.drew.freeze ⟨g, 0, none⟩ l.length).heap[k]? = w.drew.heap[k]?
    unfold World.freeze
    split
    · rfl
    · simp only [Array.getElem?_modify]
      rw [if_neg (by intro e; exact hkg e.symm)], by
    show (w.drew.freeze ⟨g, 0, none⟩ l.length).heap.size = w.drew.heap.size
    unfold World.freeze
    split
    · rfl
    · simp⟩
  clear h hbw hbk hg hown htake
  have mixed : Try.prog.follows .mixedOrders = true := by kernel_rfl
  go_enter Try.func37, Try.ntmps37
  go_wp2
  go_region_o
  all_goals (go_wp2; go_ret; exact HF.out)

end Go.Proofs.Ytfnloonmeilhlaa
namespace Go.Pub
theorem sizeL_mem : ∀ (l : List InT) (i : Nat) (hi : i < l.length), sizeI l[i] ≤ sizeL l
  | x :: l, 0, _ => by show sizeI x ≤ sizeL (x :: l); rw [sizeL]; omega
  | x :: l, i + 1, hi => by
    have hi' : i < l.length := by simpa using hi
    show sizeI (l[i]'hi') ≤ sizeL (x :: l)
    rw [sizeL]
    have := sizeL_mem l i hi'
    omega
theorem sizeL_len : ∀ (l : List InT), l.length ≤ sizeL l
  | [] => Nat.zero_le _
  | x :: l => by
    rw [sizeL, List.length_cons]
    have := sizeL_len l
    have : 1 ≤ sizeI x := by obtain ⟨k, t, d, ti, a, ar, c, ks⟩ := x; rw [sizeI]; omega
    omega
end Go.Pub
namespace Go.Proofs.Ytfnloonmeilhlaa
open Go.RowKit Go.Pub
theorem RepI.setTxt {w : World} {S : Nat → Prop} {u0 u1 u2 u3 u4 u5 u6 u7 u8 u9 : Value} {x : InT} (h : RepI w S #[u0, u1, u2, u3, u4, u5, u6, u7, u8, u9] x) (s : List UInt8) : RepI w S #[u0, .string ⟨s.toArray⟩, u2, u3, u4, u5, u6, u7, u8, u9] (setTxt x s) := by
  cases h
  next h1 h2 h3 h4 h5 h6 => exact .mk _ _ _ _ _ _ _ _ _ _ _ _ _ _ _ _ _ _ _ h1 h2 h3 h4 h5 h6
set_option maxHeartbeats 8000000 in
set_option maxRecDepth 100000 in
theorem t_merge (N : Nat) (hN : N ≤ 1000000) (hM : ∀ x : InT, sizeI x ≤ N → MrgH (sizeL x.kids)) : MrgH N := by
  intro l hl S w A c vs h1 h2 hS
  have hlen := sizeL_len l
  have HEL : Hid (∀ i (hi : i < l.length), ∃ b off, A = some ⟨b, off, none⟩ ∧ b < w.heap.size ∧ ∃ x2 x3 x4 x5 x6 x7 x8 x9, RepI w S #[.int .i64 l[i].kind, .string l[i].text, x2, x3, x4, x5, x6, x7, x8, x9] l[i] ∧ w.rangeAt b (off + i * 10) [.int .i64 l[i].kind, .string l[i].text, x2, x3, x4, x5, x6, x7, x8, x9]) := Lib.hid fun i hi => by
    obtain ⟨b, off, e, hb, hc⟩ := h2.row (by omega) (by decide)
    obtain ⟨v, hv, hvc⟩ := h1.at_ i hi
    obtain ⟨x0, x1, x2, x3, x4, x5, x6, x7, x8, x9, rfl⟩ := hv.opn
    obtain ⟨rfl, rfl⟩ := RepI.two hv
    refine ⟨b, off, e, hS b hb, x2, x3, x4, x5, x6, x7, x8, x9, hv, fun j u hj => ?_⟩
    have hj10 := (List.getElem?_eq_some_iff.1 hj).1
    simp only [List.length_cons, List.length_nil] at hj10
    rw [Nat.add_assoc]
    refine hc (i * 10 + j) u ?_
    rw [hvc j hj10, ← hj, ← Array.getElem?_toList]
  have HMG := Lib.hid fun i (hi : i < l.length) => hM l[i] (Nat.le_trans (sizeL_mem l i hi) hl)
  have HSZ := Lib.hid fun i (hi : i < l.length) => Nat.le_trans (sizeL_mem l i hi) (Nat.le_trans hl hN)
  have HS := Lib.hid hS
  have HSL : Hid (sizeL l ≤ 1000000) := Lib.hid (Nat.le_trans hl hN)
  have H0 := Lib.hid (MrW.start w l)
  obtain ⟨i0, hi0, hz0, hz1, hz2⟩ := info_parts inl_info
  have hll : l.length ≤ 1000000 := by omega
  clear h1 h2 hS hM hl
  go_enter Try.func25, Try.ntmps25
  go_wp2_with fail
  go_loopw [3, 4] (fun v3 v4 wr => ∃ (i : Nat) (done : List InT), i ≤ l.length ∧ done.length ≤ i ∧ v4 = .int .i64 i ∧ Hid (MrW w l done i v3 wr)) (fun _ v4 _ => l.length - (intOf v4).toNat)
  case atStart => exact ⟨0, [], Nat.zero_le _, Nat.zero_le _, rfl, H0⟩
  case round =>
    clear H0
    obtain ⟨i, done, hi, hdi, rfl, HI⟩ := hrel
    by_cases hlt : i < l.length
    · obtain ⟨b, off, hA, hbw, x2, x3, x4, x5, x6, x7, x8, x9, hr, hrg⟩ := HEL.out i hlt
      subst hA
      have hbel := HI.out.bel
      obtain ⟨S1, vs1, hS1, hr1, hown⟩ := HI.out.row
      obtain ⟨A3, c3, hv3, -, -⟩ := own_form hown
      subst hv3
      have hrgw : wr.rangeAt b (off + i * 10) [.int .i64 l[i].kind, .string l[i].text, x2, x3, x4, x5, x6, x7, x8, x9] := fun j u hj => (hbel.cell (p := ⟨b, off + i * 10 + j, none⟩) hbw).trans (hrg j u hj)
      have k0 : wr.cell? ⟨b, off + i * 10, none⟩ = some (.int .i64 l[i].kind) := hrgw 0 _ rfl
      have hii : (i : Int) < (l.length : Int) := by omega
      have hi00 : (0 : Int) ≤ (i : Int) := by omega
      by_cases hk : l[i].kind = 1
      · have d1 : (l[i].kind != 1) = false := by rw [hk]; rfl
        have HT0 := Lib.hid (TxW.start l i wr)
        clear hrgw hrg hr hS1 hr1 hown
        go_wp2_with fail
        clear d1 k0
        go_loopw [4, 5] (fun v4 v5 wx => ∃ (j : Nat) (f : Int), i ≤ j ∧ j ≤ l.length ∧ v4 = .int .i64 j ∧ v5 = .int .i64 f ∧ Hid (TxW l i j f wr wx)) (fun v4 _ _ => l.length - (intOf v4).toNat)
        case atStart => exact ⟨i, -1, Nat.le_refl _, by omega, rfl, rfl, HT0⟩
        case round =>
          clear HT0
          rename World => wx
          obtain ⟨j, f, hij, hj, rfl, rfl, HT⟩ := hrel
          have hbx := HT.out.bel
          have hzx := hbx.size
          have hzb := hbel.size
          by_cases hgo : ∃ h : j < l.length, l[j].kind = 1
          · obtain ⟨hjl, hkj⟩ := hgo
            obtain ⟨b', off', hA', -, y2, y3, y4, y5, y6, y7, y8, y9, -, hrgj⟩ := HEL.out j hjl
            injection hA' with hA'
            injection hA' with e1 e2
            subst e1 e2
            have kc : wx.cell? ⟨b, off + j * 10, none⟩ = some (.int .i64 l[j].kind) := (hbx.cell (p := ⟨b, off + j * 10, none⟩) (by show b < _; omega)).trans ((hbel.cell (p := ⟨b, off + j * 10, none⟩) hbw).trans (hrgj 0 _ rfl))
            have tc : wx.cell? ⟨b, off + j * 10 + 1, none⟩ = some (.string l[j].text) := (hbx.cell (p := ⟨b, off + j * 10 + 1, none⟩) (by show b < _; omega)).trans ((hbel.cell (p := ⟨b, off + j * 10 + 1, none⟩) hbw).trans (hrgj 1 _ rfl))
            have hjj : (j : Int) < (l.length : Int) := by omega
            have hj0 : (0 : Int) ≤ (j : Int) := by omega
            have dk : (l[j].kind == 1) = true := by rw [hkj]; rfl
            have HLEN : Hid ((Lib.byteCells (catT (segL l i j))).length + l[j].text.size ≤ 140737488355328) := Lib.hid (by
              rw [Lib.byteCells_length]
              have h1 := catT_len (segL l i j)
              have h2 := segL_size l i j
              have h3 := HSZ.out j hjl
              have h4 : l[j].text.size ≤ sizeI l[j] := by
                generalize l[j] = x
                obtain ⟨k, t, d, ti, a, ar, c, ks⟩ := x
                rw [sizeI]; show t.size ≤ _; omega
              have h5 := HSL.out
              omega)
            have HSTEP := Lib.hid fun (w2 : World) (f' : Int) hb hbd hf => HT.out.step (w2 := w2) (f' := f') hij hjl hkj hb hbd hf
            have HBL := Lib.hid HT.out.bld
            have HSC : Hid (Lib.strCells l[j].text = Lib.byteCells l[j].text.toList) := Lib.hid (by rw [Lib.strCells_eq, Lib.toList_data])
            have hwz : wr.heap.size ≤ wx.heap.size := hzx
            have HFS := Lib.hid HT.out.fst
            clear hrgj hbx HT hbel
            generalize l[j].text = t at *
            generalize l[j].kind = kj at *
            rcases HFS.out with ⟨rfl, -⟩ | ⟨q, hq, rfl, hq1, hq2, -⟩
            · by_cases ht : t.toList = []
              · have ht2 : t.toList.isEmpty = true := by rw [ht]; rfl
                go_wp2_with fail
                ((with_reducible refine (writeString_k wr.heap.size wr.heap.size _ _ _ HBL.out HLEN.out hwz).mono ?_))
                rintro e W1 ⟨rfl, h1, b2, -⟩
                rw [HSC.out] at h1
                have HF := Lib.hid (HSTEP.out W1 (-1) b2 (.inr h1) (by simp [ht]))
                clear h1 b2 HSTEP HBL
                go_wp2_with fail
                go_roundw
                case rel => exact ⟨j + 1, -1, by omega, by omega, by go_num, rfl, HF⟩
                case measure => simp [intOf]; omega
              · have ht2 : t.toList.isEmpty = false := by cases h : t.toList with | nil => exact absurd h ht | cons => rfl
                have ht3 : (t.toList == []) = false := by cases h : t.toList with | nil => exact absurd h ht | cons => rfl
                go_wp2_with fail
                ((with_reducible refine (writeString_k wr.heap.size wr.heap.size _ _ _ HBL.out HLEN.out hwz).mono ?_))
                rintro e W1 ⟨rfl, h1, b2, -⟩
                rw [HSC.out] at h1
                have HF := Lib.hid (HSTEP.out W1 ((j : Int)) b2 (.inr h1) (by simp [ht]))
                clear h1 b2 HSTEP HBL
                go_wp2_with fail
                go_roundw
                case rel => exact ⟨j + 1, (j : Int), by omega, by omega, by go_num, rfl, HF⟩
                case measure => simp [intOf]; omega
            · have hq0 : decide ((q : Int) < 0) = false := decide_eq_false (by omega)
              go_wp2_with fail
              ((with_reducible refine (writeString_k wr.heap.size wr.heap.size _ _ _ HBL.out HLEN.out hwz).mono ?_))
              rintro e W1 ⟨rfl, h1, b2, -⟩
              rw [HSC.out] at h1
              have HF := Lib.hid (HSTEP.out W1 ((q : Int)) b2 (.inr h1) (by rw [if_neg (by omega)]))
              clear h1 b2 HSTEP HBL
              go_wp2_with fail
              go_roundw
              case rel => exact ⟨j + 1, (q : Int), by omega, by omega, by go_num, rfl, HF⟩
              case measure => simp [intOf]; omega
          · have HEND := Lib.hid (seg_end hij hj HT.out.kinds (fun h e => hgo ⟨h, e⟩))
            have hij' : i < j := by
              rcases Nat.lt_or_ge i j with h | h
              · exact h
              · obtain rfl : i = j := by omega
                exact absurd ⟨hlt, hk⟩ hgo
            have hdj : (∃ h : j < l.length, l[j].kind ≠ 1) ∨ j = l.length := by
              rcases Nat.lt_or_ge j l.length with h | h
              · exact .inl ⟨h, fun e => hgo ⟨h, e⟩⟩
              · exact .inr (by omega)
            have hbwx : Below w.heap.size w wx := hbel.trans (hbx.mono hzb)
            have HDJ : Hid ((∃ (kj : Int), (j : Int) < (l.length : Int) ∧ wx.cell? ⟨b, off + j * 10, none⟩ = some (.int .i64 kj) ∧ (kj == 1) = false) ∨ j = l.length) := Lib.hid (by
              rcases hdj with ⟨h, e⟩ | h
              · obtain ⟨b', off', hA', -, y2, y3, y4, y5, y6, y7, y8, y9, -, hrgj⟩ := HEL.out j h
                injection hA' with hA'
                injection hA' with e1 e2
                subst e1 e2
                exact .inl ⟨l[j].kind, by omega, (hbwx.cell (p := ⟨b, off + j * 10, none⟩) hbw).trans (hrgj 0 _ rfl), beq_eq_false_iff_ne.2 e⟩
              · exact .inr h)
            have hj0 : (0 : Int) ≤ (j : Int) := by omega
            clear hdj hgo
            rcases HT.out.fst with ⟨rfl, h0⟩ | ⟨q, hq, rfl, hq1, hq2, h0⟩
            · have HF : Hid (MrW w l done j (.slice A3 done.length c3) wx) := Lib.hid ((HI.out.call hbx).skip (by rw [HEND.out, h0]; rfl))
              clear HT HEND h0 hbel hbx hbwx HI
              rcases HDJ.out with ⟨kj, hjj, kc, dk⟩ | rfl
              · go_wp2_with fail
                go_roundw
                case rel => exact ⟨j, done, hj, by omega, rfl, HF⟩
                case measure => simp [intOf]; omega
              · go_wp2_with fail
                go_roundw
                case rel => exact ⟨l.length, done, hj, by omega, rfl, HF⟩
                case measure => simp [intOf]; omega
            · obtain ⟨b', off', hA', -, x2, x3, x4, x5, x6, x7, x8, x9, hrq, hrgq⟩ := HEL.out q hq
              injection hA' with hA'
              injection hA' with e1 e2
              subst e1 e2
              obtain ⟨S1, vs1, hS1, hr1, hown⟩ := HI.out.row
              have HG : Hid (wx.rangeAt b (off + q * 10) [.int .i64 l[q].kind, .string l[q].text, x2, x3, x4, x5, x6, x7, x8, x9]) := Lib.hid fun k u hk => (hbwx.cell (p := ⟨b, off + q * 10 + k, none⟩) hbw).trans (hrgq k u hk)
              have HCALL := Lib.hid (t_merged wx (HMG.out q hq) (hrq.keep (fun g hg => hbwx.block g (HS.out g hg)) fun _ h => h) (fun g hg => Nat.lt_of_lt_of_le (HS.out g hg) hbwx.size) (HSZ.out q hq) (Nat.le_refl _))
              have HEQ : Hid (mergeL (l.drop i) = setTxt (mergeI l[q]) (catT (segL l i j)) :: mergeL (l.drop j)) := Lib.hid (by rw [HEND.out, h0]; rfl)
              have HBS := Lib.hid fun (W : World) hW => b_string wr.heap.size wr.heap.size (catT (segL l i j)) wx W HT.out.bld hW (by
                obtain ⟨m1, m2⟩ := firstT_mem _ _ h0
                intro e
                exact m2 (List.flatMap_eq_nil_iff.1 e _ m1))
              have hq0 : decide ((q : Int) < 0) = false := decide_eq_false (by omega)
              have hq0' : decide ((0 : Int) ≤ (q : Int)) = true := decide_eq_true (by omega)
              have hqq : (q : Int) < (l.length : Int) := by omega
              have hq00 : (0 : Int) ≤ (q : Int) := by omega
              have HOWN := Lib.hid hown
              have HS1 := Lib.hid hS1
              have HR1 := Lib.hid hr1
              have HBX := Lib.hid hbx
              clear HT HEND h0 hbel hbx hbwx hrq hrgq hS1 hr1 hown
              generalize hxx : l[q] = x at *
              clear hxx
              have HDJ2 := HDJ
              rcases HDJ.out with ⟨kj, hjj, kc, dk⟩ | hjl
              all_goals
                try have hjn : decide ((j : Int) < (l.length : Int)) = false := decide_eq_false (by omega)
                go_wp2_with (refine wpList_load_mid rfl 37 (.tmp 63) rfl b (off + q * 10) rfl _ _ HG.out Try.underlying37 rfl inl_size ?_)
                ((with_reducible refine HCALL.out.mono ?_))
                rintro e W2 ⟨v, rfl, hv, hb2⟩
                obtain ⟨u0, u1, u2, u3, u4, u5, u6, u7, u8, u9, rfl⟩ := hv.opn
                have hz2w := hb2.size
                have HV1 := Lib.hid hv.one
                have HV := Lib.hid hv
                have HB2 := Lib.hid hb2
                clear hv hb2 HCALL
                have HVA : Hid ((#[u0, u1, u2, u3, u4, u5, u6, u7, u8, u9] : Array Value).all (·.oneCell') = true) := Lib.hid (by rw [← Array.all_toList, List.all_eq_true]; exact HV1.out)
                have HBW4 : Hid (Below wx.heap.size wx (W2.alloc (.cells #[u0, u1, u2, u3, u4, u5, u6, u7, u8, u9] 37))) := Lib.hid (HB2.out.alloc hz2w _)
                go_wp2_with (refine wpList_store_row rfl 37 (.tmp 7) (.tmp 65) rfl W2.heap.size #[u0, u1, u2, u3, u4, u5, u6, u7, u8, u9] rfl rfl 37 _ (Blk.new W2 _ _) inl_size (by rfl) HVA.out ?_; rw [World.setRow_alloc_new])
                have HB4 : Hid (Blk (W2.alloc (.cells #[u0, u1, u2, u3, u4, u5, u6, u7, u8, u9] 37)) W2.heap.size 37 #[u0, u1, u2, u3, u4, u5, u6, u7, u8, u9]) := Lib.hid (Blk.new W2 _ _)
                have HZ4 : Hid ((W2.alloc (.cells #[u0, u1, u2, u3, u4, u5, u6, u7, u8, u9] 37)).heap.size = W2.heap.size + 1) := Lib.hid (by simp)
                have HK4 : Hid (∀ g, g < W2.heap.size → (W2.alloc (.cells #[u0, u1, u2, u3, u4, u5, u6, u7, u8, u9] 37)).heap[g]? = W2.heap[g]?) := Lib.hid fun g hg => Below.heap_alloc W2 _ g hg
                generalize W2.alloc (.cells #[u0, u1, u2, u3, u4, u5, u6, u7, u8, u9] 37) = W4 at *
                ((with_reducible refine (HBS.out W4 HBW4.out).mono ?_))
                rintro e W5 ⟨rfl, b5, k5, z5⟩
                generalize hTX : (⟨(catT (segL l i j)).toArray⟩ : ByteArray) = txt at *
                have HTX := Lib.hid hTX
                have b5k : Blk W5 W2.heap.size 37 #[u0, u1, u2, u3, u4, u5, u6, u7, u8, u9] := (k5 _ hz2w).trans HB4.out
                have f5 : W5.frozen? ⟨W2.heap.size, 1, none⟩ = false := b5k.frozen 1
                have c5 : W5.cell? ⟨W2.heap.size, 1, none⟩ = some u1 := b5k.cell 1
                have HB6 : Hid (Blk (W5.setCell ⟨W2.heap.size, 1, none⟩ (.string txt)) W2.heap.size 37 #[u0, .string txt, u2, u3, u4, u5, u6, u7, u8, u9]) := Lib.hid (b5k.set_ 1 (.string txt))
                have HV6 : Hid (RepI (W5.setCell ⟨W2.heap.size, 1, none⟩ (.string txt)) (NewG wx W2) #[u0, .string txt, u2, u3, u4, u5, u6, u7, u8, u9] (setTxt (mergeI x) (catT (segL l i j)))) := Lib.hid ((show RepI W2 (NewG wx W2) #[u0, .string txt, u2, u3, u4, u5, u6, u7, u8, u9] (setTxt (mergeI x) (catT (segL l i j))) from HTX.out ▸ RepI.setTxt HV.out (catT (segL l i j))).keep (fun g (hg : NewG wx W2 g) => (Below.heap_setCell W5 ⟨W2.heap.size, 1, none⟩ _ g (by have := hg.2; show g ≠ W2.heap.size; omega)).trans ((k5 g hg.1).trans (HK4.out g hg.2))) fun _ h => h)
                have HBW6 : Hid (Below wr.heap.size wr (W5.setCell ⟨W2.heap.size, 1, none⟩ (.string txt))) := Lib.hid ((HBX.out.trans ((HBW4.out.mono hzx).trans b5)).setCell (p := ⟨W2.heap.size, 1, none⟩) (by show wr.heap.size ≤ W2.heap.size; omega) _)
                have HZ6 : Hid ((W5.setCell ⟨W2.heap.size, 1, none⟩ (.string txt)).heap.size = W2.heap.size + 1) := Lib.hid (by
                  have := HZ4.out
                  simp only [World.setCell, Array.size_modify]
                  omega)
                have HV7 := Lib.hid HV6.out.one
                have HOW6 := Lib.hid (own_below HOWN.out HBW6.out)
                have HPU := Lib.hid fun (W7 : World) (g7 cap7 : Nat) (o7 : Obj) hown hgrow hlies => HI.out.push (W := (W5.setCell ⟨W2.heap.size, 1, none⟩ (.string txt))) (W7 := W7) (j := j) (g := g7) (cap := cap7) (H := (W5.setCell ⟨W2.heap.size, 1, none⟩ (.string txt)).heap.size + 1) (x := setTxt (mergeI x) (catT (segL l i j))) (u := #[u0, .string txt, u2, u3, u4, u5, u6, u7, u8, u9]) (o := o7) HS1.out HR1.out HOWN.out HBW6.out HV6.out (fun g (hg : NewG wx W2 g) => ⟨Nat.le_trans hzx hg.1, by have := hg.2; have := HZ6.out; omega⟩) hown hgrow hlies (by omega) HEQ.out
                clear b5 k5 b5k z5 hTX HB4 HV HBS HBW4 HV6 HBW6 HOWN
                go_wp2_with (first | (refine wpList_load_row rfl 37 (.tmp 7) rfl W2.heap.size rfl 37 #[u0, .string txt, u2, u3, u4, u5, u6, u7, u8, u9] _ _ HB6.out Try.underlying37 rfl inl_size ?_; generalize (W5.setCell ⟨W2.heap.size, 1, none⟩ (.string txt)) = W6 at *) | (refine wpList_inSlice rfl (.tmp 69) rfl u0 (.string txt) u2 u3 u4 u5 u6 u7 u8 u9 rfl ?_) | (at_builtin; refine wpList_append_lies _ rfl _ _ 26 rfl w.heap.size 37 i0 _ 10 192 Try.underlying26 hi0 hz0 hz1 hz2 rfl (by decide) _ _ _ rfl (HOW6.out.alloc _) ⟨W6.heap.size, 0, none⟩ 1 1 [u0, .string txt, u2, u3, u4, u5, u6, u7, u8, u9] rfl rfl ?d1 ?d2 (by decide) ?d3 ?d4 ?d5 (W6.heap.size + 1) ?d6 ?_))
                case d1 => exact World.news_of_block (t := 37) (fr := (0, 0)) (heap_alloc_new W6 _)
                case d2 => exact HV7.out
                case d3 => unfold maxLen; omega
                case d4 => have := HZ6.out; omega
                case d5 => simp; have := HZ6.out; omega
                case d6 => simp
                intro g7 cap7 W7 hown hgrow hlies hlt7
                have HF := Lib.hid (HPU.out W7 g7 cap7 _ hown hgrow hlies)
                clear hown hgrow hlies hlt7 HPU HI
                go_wp2_with fail
                go_roundw
                case rel => exact ⟨j, done ++ [setTxt (mergeI x) (catT (segL l i j))], hj, by simp; omega, by first | rfl | rw [hjl], HF⟩
                case measure => simp [intOf]; omega
      · have d1 : (l[i].kind != 1) = true := bne_iff_ne.2 hk
        have hdrop : l.drop i = l[i] :: l.drop (i + 1) := List.drop_eq_getElem_cons hlt
        have HEQ : Hid (mergeL (l.drop i) = mergeI l[i] :: mergeL (l.drop (i + 1))) := Lib.hid (by rw [hdrop, mergeL_no hk])
        have HCALL := Lib.hid (t_merged wr (HMG.out i hlt) (hr.keep (fun g hg => hbel.block g (HS.out g hg)) fun _ h => h) (fun g hg => Nat.lt_of_lt_of_le (HS.out g hg) hbel.size) (HSZ.out i hlt) (Nat.le_refl _))
        have HG := Lib.hid hrgw
        have HOWN := Lib.hid hown
        have hzw := hbel.size
        have HS1 := Lib.hid hS1
        have HR1 := Lib.hid hr1
        clear hrgw hrg hr hbel hS1 hr1 hown hdrop
        generalize hxx : l[i] = x at *
        clear hxx
        go_wp2_with (refine wpList_load_mid rfl 37 (.tmp 21) rfl b (off + i * 10) rfl _ _ HG.out Try.underlying37 rfl inl_size ?_)
        ((with_reducible refine HCALL.out.mono ?_))
        rintro e W2 ⟨v, rfl, hv, hb2⟩
        obtain ⟨u0, u1, u2, u3, u4, u5, u6, u7, u8, u9, rfl⟩ := hv.opn
        have HOW2 := Lib.hid (own_below HOWN.out hb2)
        have HV1 := Lib.hid hv.one
        have hz2w := hb2.size
        have HPU := Lib.hid fun (W7 : World) (g7 cap7 : Nat) (o7 : Obj) hown hgrow hlies => HI.out.push (W := W2) (W7 := W7) (j := i + 1) (g := g7) (cap := cap7) (H := W2.heap.size + 1) (x := mergeI x) (u := #[u0, u1, u2, u3, u4, u5, u6, u7, u8, u9]) (o := o7) HS1.out HR1.out HOWN.out hb2 hv (fun g hg => hg) hown hgrow hlies (by omega) HEQ.out
        clear hb2 hv HCALL HOWN
        go_wp2_with (first | (refine wpList_inSlice rfl (.tmp 23) rfl u0 u1 u2 u3 u4 u5 u6 u7 u8 u9 rfl ?_) | (at_builtin; refine wpList_append_lies _ rfl _ _ 26 rfl w.heap.size 37 i0 _ 10 192 Try.underlying26 hi0 hz0 hz1 hz2 rfl (by decide) _ _ _ rfl (HOW2.out.alloc _) ⟨W2.heap.size, 0, none⟩ 1 1 [u0, u1, u2, u3, u4, u5, u6, u7, u8, u9] rfl rfl ?c1 ?c2 (by decide) ?c3 ?c4 ?c5 (W2.heap.size + 1) ?c6 ?_))
        case c1 => exact World.news_of_block (t := 37) (fr := (0, 0)) (heap_alloc_new W2 _)
        case c2 => exact HV1.out
        case c3 => unfold maxLen; omega
        case c4 => omega
        case c5 => simp; omega
        case c6 => simp
        intro g7 cap7 W7 hown hgrow hlies hlt7
        have HF := Lib.hid (HPU.out W7 g7 cap7 _ hown hgrow hlies)
        clear hown hgrow hlies hlt7 HPU HI
        go_wp2_with fail
        go_roundw
        case rel => exact ⟨i + 1, done ++ [mergeI x], by omega, by simp; omega, by go_num, HF⟩
        case measure => simp [intOf]; omega
    · obtain rfl : i = l.length := by omega
      obtain ⟨S1, vs1, hS1, hr1, hown⟩ := HI.out.row
      obtain ⟨A3, c3, hv3, -, -⟩ := own_form hown
      subst hv3
      have hd : mergeL l = done := by rw [HI.out.eq, List.drop_length]; simp [mergeL, mapI, joinT]
      have HF : Hid (MrgP l w (.returned (.slice A3 done.length c3)) wr) := Lib.hid (by
        unfold MrgP
        rw [hd]
        exact ⟨A3, c3, vs1, rfl, hr1.keep (fun _ _ => rfl) fun g hg => (hS1 g hg).1, hown, HI.out.bel⟩)
      clear hS1 hr1 hown hd HI
      go_wp2_with fail
      go_ret
      exact HF.out

end Go.Proofs.Ytfnloonmeilhlaa
