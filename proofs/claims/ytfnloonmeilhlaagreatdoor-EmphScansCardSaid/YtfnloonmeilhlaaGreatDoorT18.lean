/-
  Texts of the proof, put together (what this law reaches): EmZ, EmMA, EmMB, EmMD, EmVB, EmXA, EmXB, EmTD, EmXC, EmME.
-/
import Derived.Test.YtfnloonmeilhlaaGreatDoorT17
import Derived.Test.YtfnloonmeilhlaaGreatDoorT06
import Derived.Test.YtfnloonmeilhlaaGreatDoorT03
import Derived.Test.YtfnloonmeilhlaaGreatDoorT07
import Derived.Test.YtfnloonmeilhlaaGreatDoorT15
set_option linter.unusedVariables false
set_option linter.unusedSimpArgs false
namespace Go.Proofs.YtfnloonmeilhlaaGreatDoor
open Go.RowKit Go.Pub
def zInE : Array Value := #[.int .i64 0, .string ⟨#[]⟩, .string ⟨#[]⟩, .string ⟨#[]⟩, .string ⟨#[]⟩, .slice none 0 0, .slice none 0 0, .slice none 0 0, .slice none 0 0, .slice none 0 0]
/-- Merged inlines in new memory. -/
def MrgP (l : List InT) (w : World) (e : Ending) (w' : World) : Prop :=
  ∃ A c vs, e = .returned (.slice A (mergeL l).length c) ∧ RepIs w' (NewG w w') vs (mergeL l) ∧ w'.ownsRow w.heap.size 32 10 (.slice A (mergeL l).length c) (mergeL l).length (vs.flatMap Array.toList) ∧ Below w.heap.size w w'
/-- Merge is right on inlines up to a size. -/
def MrgH (N : Nat) : Prop := ∀ l : List InT, sizeL l ≤ N → ∀ (S : Nat → Prop) (w : World) (A : Option Addr) (c : Nat) (vs : List (Array Value)), RepIs w S vs l → ReadsS w S 10 A l.length (vs.flatMap Array.toList) → (∀ g, S g → g < w.heap.size) → Calls Tryz.prog 13 #[.slice A l.length c] w (MrgP l w)
def MgdP (x : InT) (w : World) (e : Ending) (w' : World) : Prop := ∃ v, e = .returned (.agg v) ∧ RepI w' (NewG w w') v (mergeI x) ∧ Below w.heap.size w w'
def N2 (w W : World) (g : Nat) : Prop := w.heap.size + 2 ≤ g ∧ g < W.heap.size
structure MgW (w W : World) (cs : Array Value) : Prop where
  b1 : Blk W w.heap.size 32 cs
  b2 : Blk W (w.heap.size + 1) 32 zInE
  bel : Below w.heap.size w W
section
variable {w W W' : World} {cs : Array Value}
theorem MgW.call (h : MgW w W cs) (hb : Below W.heap.size W W') : MgW w W' cs := ⟨h.b1.below hb h.b1.lt, h.b2.below hb h.b2.lt, h.bel.trans (hb.mono h.bel.size)⟩
theorem MgW.set (h : MgW w W cs) (i : Nat) (u : Value) : MgW w (W.setCell ⟨w.heap.size, i, none⟩ u) (cs.setIfInBounds i u) :=
  ⟨h.b1.set_ i u, h.b2.far (p := ⟨w.heap.size, i, none⟩) (by show w.heap.size + 1 ≠ w.heap.size; omega) u, h.bel.setCell (p := ⟨w.heap.size, i, none⟩) (Nat.le_refl _) u⟩
theorem MgW.sz (h : MgW w W cs) : w.heap.size + 2 ≤ W.heap.size := by have := h.b2.lt; omega
/-- What is new in W stays in W'. -/
def KpN (w W W' : World) : Prop := ∀ g, N2 w W g → W'.heap[g]? = W.heap[g]? ∧ N2 w W' g
theorem KpN.call (hb : Below W.heap.size W W') : KpN w W W' := fun g hg => ⟨hb.block g hg.2, hg.1, Nat.lt_of_lt_of_le hg.2 hb.size⟩
theorem KpN.set (i : Nat) (u : Value) : KpN w W (W.setCell ⟨w.heap.size, i, none⟩ u) := fun g hg => ⟨Below.heap_setCell W ⟨w.heap.size, i, none⟩ u g (by have := hg.1; show g ≠ w.heap.size; omega), hg.1, by simpa [World.setCell] using hg.2⟩
theorem KpN.trans {W'' : World} (h : KpN w W W') (k : KpN w W' W'') : KpN w W W'' := fun g hg => ⟨(k g (h g hg).2).1.trans (h g hg).1, (k g (h g hg).2).2⟩
theorem KpN.rd {z n : Nat} {A : Option Addr} {xs : List Value} (h : ReadsS W (N2 w W) z A n xs) (k : KpN w W W') : ReadsS W' (N2 w W') z A n xs := h.keep (fun g hg => (k g hg).1) fun g hg => (k g hg).2
end
set_option maxHeartbeats 8000000 in
set_option maxRecDepth 100000 in
theorem t_merged {N : Nat} {S : Nat → Prop} {x0 x1 x2 x3 x4 x5 x6 x7 x8 x9 : Value} {x : InT} (w : World) (hM : MrgH N) (h : RepI w S #[x0, x1, x2, x3, x4, x5, x6, x7, x8, x9] x) (hS : ∀ g, S g → g < w.heap.size) (hx : sizeI x ≤ 1000000) (hN : sizeL x.kids ≤ N) :
    Calls Tryz.prog 22 #[.agg #[x0, x1, x2, x3, x4, x5, x6, x7, x8, x9]] w (MgdP x w) := by
  cases h with
  | mk kind text dest title att args cites kids A1 A2 A3 A4 A5 c1 c2 c3 c4 c5 vs h1 h2 h3 h4 h5 h6 =>
  have hn : att.cl.length ≤ 1000000 ∧ att.pr.length ≤ 1000000 ∧ args.length ≤ 1000000 ∧ cites.length ≤ 1000000 := by
    unfold sizeI at hx
    omega
  obtain ⟨n1, n2, n3, n4⟩ := hn
  have hN' : sizeL kids ≤ N := hN
  obtain ⟨id, cl, pr⟩ := att
  have H1 := Lib.hid h1
  have H2 := Lib.hid h2
  have H3 := Lib.hid h3
  have H4 := Lib.hid h4
  have H5 := Lib.hid h5
  have H6 := Lib.hid h6
  have HS := Lib.hid hS
  unfold MrgH at hM
  have HM := Lib.hid (hM kids hN' S)
  have HX : Hid (mergeI (.mk kind text dest title ⟨id, cl, pr⟩ args cites kids) = .mk kind text dest title ⟨id, cl, pr⟩ args cites (mergeL kids)) := Lib.hid (by unfold mergeL; rw [mergeI])
  clear h1 h2 h3 h4 h5 h6 hS hM hx hN
  go_enter Tryz.func22, Tryz.ntmps22
  go_wp2_with fail
  have q : MgW w ((w.alloc (.cells #[.int .i64 kind, .string text, .string dest, .string title, .string id, .slice A1 cl.length c1, .slice A2 pr.length c2, .slice A3 args.length c3, .slice A4 cites.length c4, .slice A5 kids.length c5] 32)).alloc (.cells zInE 32)) #[.int .i64 kind, .string text, .string dest, .string title, .string id, .slice A1 cl.length c1, .slice A2 pr.length c2, .slice A3 args.length c3, .slice A4 cites.length c4, .slice A5 kids.length c5] := ⟨(Blk.new _ _ _).alloc _, by
    have := Blk.new (w.alloc (.cells #[.int .i64 kind, .string text, .string dest, .string title, .string id, .slice A1 cl.length c1, .slice A2 pr.length c2, .slice A3 args.length c3, .slice A4 cites.length c4, .slice A5 kids.length c5] 32)) 32 zInE
    rw [World.size_alloc] at this
    exact this, ((Below.refl _ w).alloc (Nat.le_refl _) _).alloc (by simp) _⟩
  unfold zInE at q
  generalize (w.alloc (.cells #[.int .i64 kind, .string text, .string dest, .string title, .string id, .slice A1 cl.length c1, .slice A2 pr.length c2, .slice A3 args.length c3, .slice A4 cites.length c4, .slice A5 kids.length c5] 32)).alloc (.cells #[.int .i64 0, .string ⟨#[]⟩, .string ⟨#[]⟩, .string ⟨#[]⟩, .string ⟨#[]⟩, .slice none 0 0, .slice none 0 0, .slice none 0 0, .slice none 0 0, .slice none 0 0] 32) = W1 at *
  have hlt := q.b1.lt
  ((with_reducible refine (t_copyAttr W1 (H1.out.keep (fun g hg => q.bel.block g (HS.out g hg)) fun _ h => h) (H2.out.keep (fun g hg => q.bel.block g (HS.out g hg)) fun _ h => h) (fun g hg => Nat.lt_of_lt_of_le (HS.out g hg) q.bel.size) n1 n2).mono ?_))
  rintro e W2 ⟨B1, d1, B2, d2, rfl, r1, r2, p⟩
  have z := q.sz
  have r1 : ReadsS W2 (N2 w W2) 1 B1 cl.length (strs cl) := r1.keep (fun _ _ => rfl) fun g hg => ⟨Nat.le_trans z hg.1, hg.2⟩
  have r2 : ReadsS W2 (N2 w W2) 2 B2 pr.length (prs pr) := r2.keep (fun _ _ => rfl) fun g hg => ⟨Nat.le_trans z hg.1, hg.2⟩
  have q := q.call p
  clear p z
  have y4 : W2.cell? ⟨w.heap.size, 4, none⟩ = some (.string id) := q.b1.cell 4
  have y5 : W2.cell? ⟨w.heap.size, 5, none⟩ = some (.slice A1 cl.length c1) := q.b1.cell 5
  have y6 : W2.cell? ⟨w.heap.size, 6, none⟩ = some (.slice A2 pr.length c2) := q.b1.cell 6
  have y7 : W2.cell? ⟨w.heap.size, 7, none⟩ = some (.slice A3 args.length c3) := q.b1.cell 7
  have yf := q.b1.frozen
  have Q := Lib.hid (((q.set 4 (.string id)).set 5 (.slice B1 cl.length d1)).set 6 (.slice B2 pr.length d2))
  have KK : KpN w W2 (((W2.setCell ⟨w.heap.size, 4, none⟩ (.string id)).setCell ⟨w.heap.size, 5, none⟩ (.slice B1 cl.length d1)).setCell ⟨w.heap.size, 6, none⟩ (.slice B2 pr.length d2)) := (KpN.set 4 _).trans ((KpN.set 5 _).trans (KpN.set 6 _))
  have R1 := Lib.hid (KpN.rd r1 KK)
  have R2 := Lib.hid (KpN.rd r2 KK)
  clear q r1 r2 KK
  go_wp2_with fail
  generalize ((W2.setCell ⟨w.heap.size, 4, none⟩ (.string id)).setCell ⟨w.heap.size, 5, none⟩ (.slice B1 cl.length d1)).setCell ⟨w.heap.size, 6, none⟩ (.slice B2 pr.length d2) = W3 at *
  clear y4 y5 y6 y7 yf
  have q := Q.out
  ((with_reducible refine (clone_str W3 (H3.out.keep (fun g hg => q.bel.block g (HS.out g hg)) fun _ h => h) (strs_one args) n3).mono ?_))
  rintro e W4 ⟨B3, d3, rfl, r3, p⟩
  have z := q.sz
  have r3 : ReadsS W4 (N2 w W4) 1 B3 args.length (strs args) := r3.keep (fun _ _ => rfl) fun g hg => ⟨Nat.le_trans z hg.1, hg.2⟩
  have q := q.call p
  have R1' := KpN.rd R1.out (KpN.call p)
  have R2' := KpN.rd R2.out (KpN.call p)
  have hlt := q.b1.lt
  clear p z Q R1 R2
  have y7 : W4.cell? ⟨w.heap.size, 7, none⟩ = some (.slice A3 args.length c3) := q.b1.cell 7
  have y8 : W4.cell? ⟨w.heap.size, 8, none⟩ = some (.slice A4 cites.length c4) := q.b1.cell 8
  have yf := q.b1.frozen
  have Q := Lib.hid (q.set 7 (.slice B3 args.length d3))
  have KK : KpN w W4 (W4.setCell ⟨w.heap.size, 7, none⟩ (.slice B3 args.length d3)) := KpN.set 7 _
  have R1 := Lib.hid (KpN.rd R1' KK)
  have R2 := Lib.hid (KpN.rd R2' KK)
  have R3 := Lib.hid (KpN.rd r3 KK)
  clear q r3 R1' R2' KK
  go_wp2_with fail
  generalize W4.setCell ⟨w.heap.size, 7, none⟩ (.slice B3 args.length d3) = W5 at *
  clear y7 y8 yf
  have q := Q.out
  ((with_reducible refine (clone_cited W5 (H4.out.keep (fun g hg => q.bel.block g (HS.out g hg)) fun _ h => h) (citVT_one cites) n4).mono ?_))
  rintro e W6 ⟨B4, d4, rfl, r4, p⟩
  have z := q.sz
  have r4 : ReadsS W6 (N2 w W6) 4 B4 cites.length (citVT cites) := r4.keep (fun _ _ => rfl) fun g hg => ⟨Nat.le_trans z hg.1, hg.2⟩
  have q := q.call p
  have R1' := KpN.rd R1.out (KpN.call p)
  have R2' := KpN.rd R2.out (KpN.call p)
  have R3' := KpN.rd R3.out (KpN.call p)
  have hlt := q.b1.lt
  clear p z Q R1 R2 R3
  have y8 : W6.cell? ⟨w.heap.size, 8, none⟩ = some (.slice A4 cites.length c4) := q.b1.cell 8
  have y9 : W6.cell? ⟨w.heap.size, 9, none⟩ = some (.slice A5 kids.length c5) := q.b1.cell 9
  have yf := q.b1.frozen
  have Q := Lib.hid (q.set 8 (.slice B4 cites.length d4))
  have KK : KpN w W6 (W6.setCell ⟨w.heap.size, 8, none⟩ (.slice B4 cites.length d4)) := KpN.set 8 _
  have R1 := Lib.hid (KpN.rd R1' KK)
  have R2 := Lib.hid (KpN.rd R2' KK)
  have R3 := Lib.hid (KpN.rd R3' KK)
  have R4 := Lib.hid (KpN.rd r4 KK)
  clear q r4 R1' R2' R3' KK
  go_wp2_with fail
  generalize W6.setCell ⟨w.heap.size, 8, none⟩ (.slice B4 cites.length d4) = W7 at *
  clear y8 y9 yf
  have q := Q.out
  ((with_reducible refine (HM.out W7 A5 c5 vs (H5.out.keep (fun g hg => q.bel.block g (HS.out g hg)) fun _ h => h) (H6.out.keep (fun g hg => q.bel.block g (HS.out g hg)) fun _ h => h) (fun g hg => Nat.lt_of_lt_of_le (HS.out g hg) q.bel.size)).mono ?_))
  rintro e W8 ⟨B5, d5, vs', rfl, r5, r6, p⟩
  have z := q.sz
  have r6' : ReadsS W8 (N2 w W8) 10 B5 (mergeL kids).length (vs'.flatMap Array.toList) := (ReadsS.of_own r6).keep (fun _ _ => rfl) fun g hg => ⟨Nat.le_trans z hg.1, hg.2⟩
  have r5' : RepIs W8 (N2 w W8) vs' (mergeL kids) := r5.keep (fun _ _ => rfl) fun g hg => ⟨Nat.le_trans z hg.1, hg.2⟩
  have q := q.call p
  have R1' := KpN.rd R1.out (KpN.call p)
  have R2' := KpN.rd R2.out (KpN.call p)
  have R3' := KpN.rd R3.out (KpN.call p)
  have R4' := KpN.rd R4.out (KpN.call p)
  have hlt := q.b1.lt
  clear p z Q R1 R2 R3 R4 r5 r6
  have y9 : W8.cell? ⟨w.heap.size, 9, none⟩ = some (.slice A5 kids.length c5) := q.b1.cell 9
  have yf := q.b1.frozen
  have hq9 := q.set 9 (.slice B5 (mergeL kids).length d5)
  have KK : KpN w W8 (W8.setCell ⟨w.heap.size, 9, none⟩ (.slice B5 (mergeL kids).length d5)) := KpN.set 9 _
  have hR : RepI (W8.setCell ⟨w.heap.size, 9, none⟩ (.slice B5 (mergeL kids).length d5)) (N2 w (W8.setCell ⟨w.heap.size, 9, none⟩ (.slice B5 (mergeL kids).length d5))) #[.int .i64 kind, .string text, .string dest, .string title, .string id, .slice B1 cl.length d1, .slice B2 pr.length d2, .slice B3 args.length d3, .slice B4 cites.length d4, .slice B5 (mergeL kids).length d5] (.mk kind text dest title ⟨id, cl, pr⟩ args cites (mergeL kids)) :=
    .mk kind text dest title ⟨id, cl, pr⟩ args cites (mergeL kids) B1 B2 B3 B4 B5 d1 d2 d3 d4 d5 vs' (KpN.rd R1' KK) (KpN.rd R2' KK) (KpN.rd R3' KK) (KpN.rd R4' KK) (r5'.keep (fun g hg => (KK g hg).1) fun g hg => (KK g hg).2) (KpN.rd r6' KK)
  have HQ : Hid (MgW w (W8.setCell ⟨w.heap.size, 9, none⟩ (.slice B5 (mergeL kids).length d5)) #[.int .i64 kind, .string text, .string dest, .string title, .string id, .slice B1 cl.length d1, .slice B2 pr.length d2, .slice B3 args.length d3, .slice B4 cites.length d4, .slice B5 (mergeL kids).length d5]) := Lib.hid hq9
  have HR := Lib.hid hR
  clear q r5' r6' R1' R2' R3' R4' KK hR hq9
  go_wp2_with (first | (refine wpList_load_row rfl 32 (.tmp 1) rfl w.heap.size rfl 32 #[.int .i64 kind, .string text, .string dest, .string title, .string id, .slice B1 cl.length d1, .slice B2 pr.length d2, .slice B3 args.length d3, .slice B4 cites.length d4, .slice B5 (mergeL kids).length d5] _ _ HQ.out.b1 Tryz.underlying32 rfl inl_size ?_) | (refine wpList_store_row rfl 32 (.tmp 2) (.tmp 19) rfl (w.heap.size + 1) #[.int .i64 kind, .string text, .string dest, .string title, .string id, .slice B1 cl.length d1, .slice B2 pr.length d2, .slice B3 args.length d3, .slice B4 cites.length d4, .slice B5 (mergeL kids).length d5] rfl rfl 32 _ HQ.out.b2 inl_size (by rfl) (by simp [Value.oneCell']) ?_))
  have HL := Lib.hid (run_loadVar_row (P := Tryz.prog) _ (w.heap.size + 1) 32 32 #[.int .i64 kind, .string text, .string dest, .string title, .string id, .slice B1 cl.length d1, .slice B2 pr.length d2, .slice B3 args.length d3, .slice B4 cites.length d4, .slice B5 (mergeL kids).length d5] (0, 0) _ (setRow_heap _ _ _ _ _ _ HQ.out.b2) Tryz.underlying32 rfl inl_size)
  have HF : Hid (MgdP (.mk kind text dest title ⟨id, cl, pr⟩ args cites kids) w (.returned (.agg #[.int .i64 kind, .string text, .string dest, .string title, .string id, .slice B1 cl.length d1, .slice B2 pr.length d2, .slice B3 args.length d3, .slice B4 cites.length d4, .slice B5 (mergeL kids).length d5])) ((W8.setCell ⟨w.heap.size, 9, none⟩ (.slice B5 (mergeL kids).length d5)).setRow (w.heap.size + 1) #[.int .i64 kind, .string text, .string dest, .string title, .string id, .slice B1 cl.length d1, .slice B2 pr.length d2, .slice B3 args.length d3, .slice B4 cites.length d4, .slice B5 (mergeL kids).length d5])) := Lib.hid ⟨_, rfl, by
    rw [HX.out]
    exact HR.out.keep (fun g hg => setRow_other _ _ _ _ (by have := hg.1; show g ≠ w.heap.size + 1; omega)) fun g hg => ⟨by have := hg.1; omega, by rw [setRow_size]; exact hg.2⟩, below_setRow HQ.out.bel (by omega) _⟩
  refine row_ret Tryz.results22 HL.out ?_ ?_ HF.out
  · rfl
  · rfl

end Go.Proofs.YtfnloonmeilhlaaGreatDoor
namespace Go.Pub
def setTxt : InT → List UInt8 → InT
  | .mk k t d ti a ar c ks, s => .mk k ⟨s.toArray⟩ d ti a ar c ks
def catT (l : List InT) : List UInt8 := l.flatMap fun x => x.text.toList
/-- The first text that is not empty. -/
def firstT : List InT → Option InT
  | [] => none
  | x :: l => if x.text.toList = [] then firstT l else some x
def runOut (l : List InT) : List InT := match firstT l with
  | none => []
  | some x => [setTxt x (catT l)]
theorem ofList_toList (t : ByteArray) : (⟨t.toList.toArray⟩ : ByteArray) = t := by
  rw [Lib.toList_data]
theorem toList_ofList (s : List UInt8) : (⟨s.toArray⟩ : ByteArray).toList = s := by
  rw [Lib.toList_data]
theorem setTxt_self (x : InT) : setTxt x x.text.toList = x := by
  obtain ⟨k, t, d, ti, a, ar, c, ks⟩ := x
  show InT.mk k ⟨t.toList.toArray⟩ d ti a ar c ks = _
  rw [ofList_toList]
theorem firstT_none : ∀ (l : List InT), firstT l = none → catT l = []
  | [], _ => rfl
  | x :: l, h => by
    unfold firstT at h
    by_cases hx : x.text.toList = []
    · rw [if_pos hx] at h
      show x.text.toList ++ catT l = []
      rw [hx, firstT_none l h]; rfl
    · rw [if_neg hx] at h; cases h
theorem firstT_mem : ∀ (l : List InT) (x : InT), firstT l = some x → x ∈ l ∧ x.text.toList ≠ []
  | [], x, h => by cases h
  | y :: l, x, h => by
    unfold firstT at h
    by_cases hx : y.text.toList = []
    · rw [if_pos hx] at h
      obtain ⟨h1, h2⟩ := firstT_mem l x h
      exact ⟨List.mem_cons_of_mem _ h1, h2⟩
    · rw [if_neg hx] at h
      injection h with h
      subst h
      exact ⟨by simp, hx⟩
theorem setTxt_kind (x : InT) (s : List UInt8) : (setTxt x s).kind = x.kind := by obtain ⟨k, t, d, ti, a, ar, c, ks⟩ := x; rfl
theorem setTxt_text (x : InT) (s : List UInt8) : (setTxt x s).text.toList = s := by
  obtain ⟨k, t, d, ti, a, ar, c, ks⟩ := x
  exact toList_ofList s
/-- What is not a text begins a new part. -/
def NoTxt (l : List InT) : Prop := ∀ x r, l = x :: r → x.kind ≠ 1
theorem joinT_cons (x : InT) (l : List InT) : joinT (x :: l) = if x.kind ≠ 1 then x :: joinT l else if x.text.toList = [] then joinT l else match joinT l with
    | [] => [x]
    | y :: r => if y.kind = 1 then setTxt x (x.text.toList ++ y.text.toList) :: r else x :: y :: r := by
  obtain ⟨k, t, d, ti, a, ar, c, ks⟩ := x
  rw [joinT.eq_def]
  dsimp only
  split
  · rfl
  · split
    · rfl
    · cases joinT l <;> rfl
theorem joinT_no {x : InT} {l : List InT} (h : x.kind ≠ 1) : joinT (x :: l) = x :: joinT l := by
  rw [joinT_cons, if_pos h]
theorem joinT_empty {x : InT} {l : List InT} (h : x.kind = 1) (h2 : x.text.toList = []) : joinT (x :: l) = joinT l := by
  rw [joinT_cons, if_neg (by simp [h]), if_pos h2]
theorem joinT_txt0 {x : InT} {l : List InT} (h : x.kind = 1) (h2 : x.text.toList ≠ []) (h3 : NoTxt (joinT l)) : joinT (x :: l) = x :: joinT l := by
  rw [joinT_cons, if_neg (by simp [h]), if_neg h2]
  cases hj : joinT l with
  | nil => rfl
  | cons y r =>
    have := h3 y r hj
    simp only [if_neg this]
theorem joinT_txt1 {x y : InT} {l r : List InT} (h : x.kind = 1) (h2 : x.text.toList ≠ []) (h3 : joinT l = y :: r) (h4 : y.kind = 1) : joinT (x :: l) = setTxt x (x.text.toList ++ y.text.toList) :: r := by
  rw [joinT_cons, if_neg (by simp [h]), if_neg h2, h3]
  simp only [if_pos h4]
theorem NoTxt.join {l : List InT} (h : NoTxt l) : NoTxt (joinT l) := by
  cases l with
  | nil => intro x r e; cases e
  | cons y l =>
    have hy := h y l rfl
    rw [joinT_no hy]
    intro x r e
    injection e with e1 e2
    rw [← e1]; exact hy
/-- A run of texts is one text, or none. -/
theorem joinT_run : ∀ (ts rest : List InT), (∀ x ∈ ts, x.kind = 1) → NoTxt rest → joinT (ts ++ rest) = runOut ts ++ joinT rest
  | [], rest, _, _ => rfl
  | x :: ts, rest, h, hr => by
    have hx := h x (by simp)
    have ih := joinT_run ts rest (fun y hy => h y (List.mem_cons_of_mem _ hy)) hr
    rw [List.cons_append]
    by_cases he : x.text.toList = []
    · rw [joinT_empty hx he, ih]
      congr 1
      unfold runOut
      rw [show firstT (x :: ts) = firstT ts by rw [firstT, if_pos he], show catT (x :: ts) = catT ts by show x.text.toList ++ catT ts = _; rw [he]; rfl]
    · have hf : firstT (x :: ts) = some x := by rw [firstT, if_neg he]
      have ho : runOut (x :: ts) = [setTxt x (x.text.toList ++ catT ts)] := by unfold runOut; rw [hf]; rfl
      rw [ho]
      cases hz : firstT ts with
      | none =>
        have hc := firstT_none ts hz
        have hro : runOut ts = [] := by unfold runOut; rw [hz]
        rw [hro, List.nil_append] at ih
        rw [joinT_txt0 hx he (by rw [ih]; exact hr.join), ih, hc, List.append_nil, setTxt_self]
        rfl
      | some z =>
        obtain ⟨hz1, -⟩ := firstT_mem ts z hz
        have hro : runOut ts = [setTxt z (catT ts)] := by unfold runOut; rw [hz]
        rw [hro] at ih
        rw [joinT_txt1 hx he ih (by rw [setTxt_kind]; exact h z (List.mem_cons_of_mem _ hz1)), setTxt_text]
        rfl
theorem mergeI_kind (x : InT) : (mergeI x).kind = x.kind ∧ (mergeI x).text = x.text := by
  obtain ⟨k, t, d, ti, a, ar, c, ks⟩ := x
  rw [mergeI]
  exact ⟨rfl, rfl⟩
theorem mapI_eq : ∀ (l : List InT), mapI l = l.map mergeI
  | [] => by rw [mapI]; rfl
  | x :: l => by rw [mapI, mapI_eq l]; rfl
theorem catT_map (l : List InT) : catT (l.map mergeI) = catT l := by
  unfold catT
  rw [List.flatMap_map]
  congr 1
  funext x
  show (mergeI x).text.toList = x.text.toList
  rw [(mergeI_kind x).2]
theorem firstT_map : ∀ (l : List InT), firstT (l.map mergeI) = (firstT l).map mergeI
  | [] => rfl
  | x :: l => by
    rw [List.map_cons, firstT, (mergeI_kind x).2, firstT_map l, firstT]
    split <;> rfl
theorem mergeL_no {x : InT} {l : List InT} (h : x.kind ≠ 1) : mergeL (x :: l) = mergeI x :: mergeL l := by
  unfold mergeL
  rw [mapI, joinT_no (by rw [(mergeI_kind x).1]; exact h)]
theorem mergeL_run {ts rest : List InT} (h : ∀ x ∈ ts, x.kind = 1) (hr : NoTxt rest) : mergeL (ts ++ rest) = (match firstT ts with | none => [] | some x => [setTxt (mergeI x) (catT ts)]) ++ mergeL rest := by
  unfold mergeL
  rw [mapI_eq, mapI_eq, List.map_append, joinT_run (ts.map mergeI) (rest.map mergeI) (fun y hy => by
    obtain ⟨x, hx, rfl⟩ := List.mem_map.1 hy
    rw [(mergeI_kind x).1]; exact h x hx) (fun y r e => by
    cases rest with
    | nil => cases e
    | cons z rest =>
      injection e with e1 e2
      rw [← e1, (mergeI_kind z).1]; exact hr z rest rfl)]
  congr 1
  unfold runOut
  rw [firstT_map, catT_map]
  cases firstT ts <;> rfl
theorem firstT_snoc (x : InT) : ∀ (l : List InT), firstT (l ++ [x]) = match firstT l with
    | some y => some y
    | none => if x.text.toList = [] then none else some x
  | [] => by
    show firstT [x] = _
    rw [firstT]; rfl
  | y :: l => by
    rw [List.cons_append, firstT, firstT_snoc x l, firstT]
    by_cases h : y.text.toList = []
    · rw [if_pos h, if_pos h]
    · rw [if_neg h, if_neg h]
theorem catT_snoc (x : InT) (l : List InT) : catT (l ++ [x]) = catT l ++ x.text.toList := by
  unfold catT; rw [List.flatMap_append]; simp
/-- The elements from i up to j. -/
def segL (l : List InT) (i j : Nat) : List InT := (l.drop i).take (j - i)
theorem segL_snoc {l : List InT} {i j : Nat} (hij : i ≤ j) (h : j < l.length) : segL l i (j + 1) = segL l i j ++ [l[j]] := by
  unfold segL
  have h1 : j - i < (l.drop i).length := by rw [List.length_drop]; omega
  rw [show j + 1 - i = (j - i) + 1 by omega, List.take_succ_eq_append_getElem h1, List.getElem_drop]
  congr 3
  omega
theorem segL_nil (l : List InT) (i : Nat) : segL l i i = [] := by unfold segL; rw [Nat.sub_self, List.take_zero]
theorem segL_mem {l : List InT} {i j : Nat} {x : InT} (hj : j ≤ l.length) (h : x ∈ segL l i j) : ∃ (q : Nat) (hq : q < l.length), i ≤ q ∧ q < j ∧ x = l[q] := by
  unfold segL at h
  obtain ⟨k, hk, e⟩ := List.mem_iff_getElem.1 h
  rw [List.length_take, List.length_drop] at hk
  refine ⟨i + k, by omega, by omega, by omega, ?_⟩
  rw [← e, List.getElem_take, List.getElem_drop]
theorem seg_end {l : List InT} {i j : Nat} (hij : i ≤ j) (hj : j ≤ l.length) (hk : ∀ (q : Nat) (hq : q < l.length), i ≤ q → q < j → l[q].kind = 1) (he : ∀ (h : j < l.length), l[j].kind ≠ 1) :
    mergeL (l.drop i) = (match firstT (segL l i j) with | none => [] | some x => [setTxt (mergeI x) (catT (segL l i j))]) ++ mergeL (l.drop j) := by
  have hs : l.drop i = segL l i j ++ l.drop j := by
    unfold segL
    conv => lhs; rw [← List.take_append_drop (j - i) (l.drop i)]
    rw [List.drop_drop, show i + (j - i) = j by omega]
  rw [hs]
  refine mergeL_run (fun x hx => ?_) fun x r e => ?_
  · obtain ⟨q, hq, h1, h2, rfl⟩ := segL_mem hj hx
    exact hk q hq h1 h2
  · have hlt : j < l.length := by
      rcases Nat.lt_or_ge j l.length with h | h
      · exact h
      · rw [List.drop_eq_nil_of_le h] at e; cases e
    rw [List.drop_eq_getElem_cons hlt] at e
    injection e with e1 e2
    rw [← e1]; exact he hlt
end Go.Pub
namespace Go.Proofs.YtfnloonmeilhlaaGreatDoor
open Go.RowKit Go.Pub
theorem wpList_inSlice {ops : Array Oper} {rest : List Oper} {o : Oper} {a : Act} {w : World} {Q : Exit → Act → World → Prop} (hgd : o.guard = none) (x : Operand) (ho : o.op = .buildSlice 30 1 #[(0, x)])
    (x0 x1 x2 x3 x4 x5 x6 x7 x8 x9 : Value) (hx : a.eval x = .agg #[x0, x1, x2, x3, x4, x5, x6, x7, x8, x9])
    (h : wpList Tryz.prog ops Q rest (a.put o.dst (.slice (some ⟨w.heap.size, 0, none⟩) 1 1)) (w.alloc (.cells #[x0, x1, x2, x3, x4, x5, x6, x7, x8, x9] 32))) : wpList Tryz.prog ops Q (o :: rest) a w := by
  obtain ⟨i0, hi0, hz0, hz1, hz2⟩ := info_parts inl_info
  refine wpList_buildSlice hgd 30 32 1 _ ho _ i0 _ Tryz.underlying30 hi0 hz0 (by rw [hz1]; decide) (by rw [hz1]; decide) ?_ h
  rw [hz1]
  have e : (#[((0 : Nat), x)].map fun (q : Nat × Operand) => (q.1, a.eval q.2)).toList = [(0, a.eval x)] := by simp
  rw [hx] at e
  show Instr.fill _ _ (#[((0 : Nat), x)].map fun (q : Nat × Operand) => (q.1, a.eval q.2)).toList = _
  rw [e]
  exact inl_fill x0 x1 x2 x3 x4 x5 x6 x7 x8 x9
/-- What is done of a list lies in a row of the call's own, none of what it reads in that row. -/
structure MrW (w : World) (l done : List InT) (i : Nat) (v : Value) (wr : World) : Prop where
  eq : mergeL l = done ++ mergeL (l.drop i)
  row : ∃ (S : Nat → Prop) (vs : List (Array Value)), (∀ g, S g → NewG w wr g ∧ v.ownBlock ≠ some g) ∧ RepIs wr S vs done ∧ wr.ownsRow w.heap.size 32 10 v done.length (vs.flatMap Array.toList)
  bel : Below w.heap.size w wr
section
variable {w wr W W7 : World} {l done : List InT} {i : Nat} {v : Value}
theorem MrW.start (w : World) (l : List InT) : MrW w l [] 0 (.slice none 0 0) w :=
  ⟨rfl, ⟨fun _ => False, [], fun _ h => h.elim, .nil, World.ownsRow_nil _ _ _ _⟩, Below.refl _ _⟩
theorem MrW.call (h : MrW w l done i v wr) (hb : Below wr.heap.size wr W) : MrW w l done i v W := by
  obtain ⟨S, vs, h1, h2, h3⟩ := h.row
  exact ⟨h.eq, ⟨S, vs, fun g hg => ⟨⟨(h1 g hg).1.1, Nat.lt_of_lt_of_le (h1 g hg).1.2 hb.size⟩, (h1 g hg).2⟩, h2.keep (fun g hg => hb.block g (h1 g hg).1.2) fun _ h => h, own_below h3 hb⟩, h.bel.trans (hb.mono h.bel.size)⟩
/-- An inline more. -/
theorem MrW.push {j g cap H : Nat} {x : InT} {u : Array Value} {o : Obj} {S2 S : Nat → Prop} {vs : List (Array Value)} (h : MrW w l done i v wr) (h1 : ∀ g, S g → NewG w wr g ∧ v.ownBlock ≠ some g) (h2 : RepIs wr S vs done) (h3 : wr.ownsRow w.heap.size 32 10 v done.length (vs.flatMap Array.toList)) (hb : Below wr.heap.size wr W) (hx : RepI W S2 u x) (hS2 : ∀ g, S2 g → wr.heap.size ≤ g ∧ g < W.heap.size)
    (hown : W7.ownsRow w.heap.size 32 10 (.slice (some ⟨g, 0, none⟩) (done.length + 1) cap) (done.length + 1) (vs.flatMap Array.toList ++ u.toList))
    (hgrow : (W.alloc o).grownBy W7 v.ownBlock) (hlies : v.ownBlock = some g ∨ g = H) (hH : W.heap.size ≤ H) (he : mergeL (l.drop i) = x :: mergeL (l.drop j)) :
    MrW w l (done ++ [x]) j (.slice (some ⟨g, 0, none⟩) (done.length + 1) cap) W7 := by
  have hlt := h3.lt
  have hzb := h.bel.size
  have hzW := hb.size
  have hz7 := hgrow.size
  rw [World.size_alloc] at hz7
  have hk : ∀ k, k < W.heap.size → v.ownBlock ≠ some k → W7.heap[k]? = W.heap[k]? := fun k hk hne => (hgrow.block k (by rw [World.size_alloc]; omega) fun e => hne e.symm).trans (Below.heap_alloc W o k hk)
  refine ⟨by rw [h.eq, he]; simp, ⟨fun k => S k ∨ S2 k, vs ++ [u], fun k hk => ?_, ?_, ?_⟩, ?_⟩
  · rcases hk with hk | hk
    · obtain ⟨⟨a1, a2⟩, a3⟩ := h1 k hk
      refine ⟨⟨a1, by omega⟩, fun e => ?_⟩
      have e' : g = k := by simpa [Value.ownBlock] using e
      subst e'
      rcases hlies with hl | hl
      · exact a3 hl
      · omega
    · obtain ⟨a1, a2⟩ := hS2 k hk
      refine ⟨⟨by omega, by omega⟩, fun e => ?_⟩
      have e' : g = k := by simpa [Value.ownBlock] using e
      subst e'
      rcases hlies with hl | hl
      · have := (hlt g hl).2; omega
      · omega
  · refine RepIs.snoc (h2.keep (fun k hk' => ?_) fun _ h => Or.inl h) (hx.keep (fun k hk' => ?_) fun _ h => Or.inr h)
    · obtain ⟨⟨a1, a2⟩, a3⟩ := h1 k hk'
      exact (hk k (by omega) a3).trans (hb.block k a2)
    · obtain ⟨a1, a2⟩ := hS2 k hk'
      exact hk k a2 fun e => by have := (hlt k e).2; omega
  · rw [List.length_append, List.length_singleton, List.flatMap_append, List.flatMap_singleton]
    exact hown
  · refine ⟨hgrow.os.trans (hb.os.trans h.bel.os), hgrow.tape.trans (hb.tape.trans h.bel.tape), hgrow.output.trans (hb.output.trans h.bel.output), by omega, fun k hk' => ?_⟩
    exact (hk k (by omega) fun e => by have := (hlt k e).1; omega).trans ((hb.block k (by omega)).trans (h.bel.block k hk'))
/-- Nothing more: the rest gives nothing. -/
theorem MrW.skip {j : Nat} (h : MrW w l done i v wr) (he : mergeL (l.drop i) = mergeL (l.drop j)) : MrW w l done j v wr := ⟨by rw [h.eq, he], h.row, h.bel⟩
end
end Go.Proofs.YtfnloonmeilhlaaGreatDoor
namespace Go.Pub
theorem catT_len : ∀ l : List InT, (catT l).length ≤ sizeL l
  | [] => Nat.zero_le _
  | x :: l => by
    have ih := catT_len l
    have hx : x.text.toList.length ≤ sizeI x := by
      obtain ⟨k, t, d, ti, a, ar, c, ks⟩ := x
      rw [sizeI]
      have : (InT.mk k t d ti a ar c ks).text.toList.length = t.size := by
        show t.toList.length = t.size
        rw [Lib.toList_data]; exact Array.length_toList
      omega
    show (x.text.toList ++ catT l).length ≤ _
    rw [List.length_append, sizeL]
    omega
theorem sizeL_app : ∀ a b : List InT, sizeL (a ++ b) = sizeL a + sizeL b
  | [], b => by rw [List.nil_append]; show _ = sizeL [] + _; rw [sizeL]; omega
  | x :: a, b => by rw [List.cons_append, sizeL, sizeL, sizeL_app a b]; omega
theorem segL_size (l : List InT) (i j : Nat) : sizeL (segL l i j) ≤ sizeL l := by
  unfold segL
  have h1 := sizeL_app ((l.drop i).take (j - i)) ((l.drop i).drop (j - i))
  have h2 := sizeL_app (l.take i) (l.drop i)
  rw [List.take_append_drop] at h1 h2
  omega
end Go.Pub
namespace Go.Proofs.YtfnloonmeilhlaaGreatDoor
open Go.RowKit Go.Pub
/-- What holds in the loop over a run of texts. -/
structure TxW (l : List InT) (i j : Nat) (f : Int) (wr wx : World) : Prop where
  bel : Below wr.heap.size wr wx
  bld : Lib.IsBuilderF 75 5 wr.heap.size wr.heap.size (Lib.byteCells (catT (segL l i j))) wx
  kinds : ∀ (q : Nat) (hq : q < l.length), i ≤ q → q < j → l[q].kind = 1
  fst : (f = -1 ∧ firstT (segL l i j) = none) ∨ ∃ (q : Nat) (hq : q < l.length), f = q ∧ i ≤ q ∧ q < j ∧ firstT (segL l i j) = some l[q]
theorem TxW.start (l : List InT) (i : Nat) (wr : World) : TxW l i i (-1) wr (wr.alloc (.cells #[.pointer none, .slice none 0 0] 75)) :=
  ⟨(Below.refl _ wr).alloc (Nat.le_refl _) _, by rw [segL_nil]; exact Lib.IsBuilderF.of (Lib.fresh_isBuilder 75 5 wr), fun q hq h1 h2 => absurd h2 (by omega), .inl ⟨rfl, by rw [segL_nil]; rfl⟩⟩
theorem TxW.step {l : List InT} {i j : Nat} {f f' : Int} {wr wx w2 : World} (h : TxW l i j f wr wx) (hij : i ≤ j) (hj : j < l.length) (hk : l[j].kind = 1) (hb : Below wr.heap.size wx w2)
    (hbd : Lib.IsBuilderF 75 5 wr.heap.size wr.heap.size (Lib.byteCells (catT (segL l i j)) ++ Lib.byteCells l[j].text.toList) w2)
    (hf : f' = if f = -1 ∧ l[j].text.toList ≠ [] then (j : Int) else f) : TxW l i (j + 1) f' wr w2 := by
  refine ⟨h.bel.trans hb, ?_, fun q hq h1 h2 => ?_, ?_⟩
  · rw [segL_snoc hij hj, catT_snoc, Lib.byteCells_append]; exact hbd
  · rcases Nat.lt_or_ge q j with h3 | h3
    · exact h.kinds q hq h1 h3
    · obtain rfl : q = j := by omega
      exact hk
  · rw [segL_snoc hij hj, firstT_snoc]
    rcases h.fst with ⟨e, h0⟩ | ⟨q, hq, e, h1, h2, h0⟩
    · rw [h0, hf]
      by_cases ht : l[j].text.toList = []
      · rw [if_neg (fun h => h.2 ht)]
        exact .inl ⟨e, by simp [ht]⟩
      · rw [if_pos ⟨e, ht⟩]
        exact .inr ⟨j, hj, rfl, hij, by omega, by simp [ht]⟩
    · rw [h0, hf, if_neg (fun h => by have := h.1; omega)]
      exact .inr ⟨q, hq, e, h1, by omega, rfl⟩
end Go.Proofs.YtfnloonmeilhlaaGreatDoor
namespace Go.Pub
theorem toI_core {ps : List PcT} {a b : ElL} (h1 : a.t = b.t) (h2 : a.run = b.run) (h3 : a.pc = b.pc) (h4 : a.left = b.left) : toI ps a = toI ps b := by
  unfold toI; rw [h1, h2, h3, h4]
theorem toI_run {ps : List PcT} {xs : List ElL} {i : Nat} (h : runX xs i = true) : toI ps (elX xs i) = txtT 1 ⟨(repB (pcX ps (pX xs i)).ch (lfX xs i)).toArray⟩ := by
  unfold toI
  rw [if_pos (show (elX xs i).run = true from h)]
  rfl
theorem toI_inl {ps : List PcT} {xs : List ElL} {i : Nat} (h : runX xs i = false) : toI ps (elX xs i) = (elX xs i).t := by
  unfold toI
  rw [if_neg (by rw [show (elX xs i).run = false from h]; decide)]
section
variable {ps : List PcT} {st : EmS} {o c j k : Nat} {ids : List Nat}
theorem toI_mtch (ho : o < st.xs.length) (hc : c < st.xs.length) (hne : o ≠ c) (h1 : j ≠ o) (h2 : j ≠ c) (h3 : j ≠ st.xs.length) : toI ps (elX (mtchA ps st o c).xs j) = toI ps (elX st.xs j) := by
  obtain ⟨e1, e2, e3, e4⟩ := core_mtch' (ps := ps) ho hc hne h3
  rw [if_neg (by omega)] at e4
  exact toI_core e1 e2 e3 e4
theorem toI_mtch0 (ho : o < st.xs.length) (hc : c < st.xs.length) (hne : o ≠ c) : toI ps (elX (mtchA ps st o c).xs st.xs.length) = kidT (pairK ps st.xs o c) (betA ps st.xs o c) := by
  obtain ⟨e1, e2⟩ := core_mtch0 (ps := ps) ho hc hne
  rw [toI_inl e2, e1]
theorem toI_mtchR (ho : o < st.xs.length) (hc : c < st.xs.length) (hne : o ≠ c) (hj : j = o ∨ j = c) (hr : runX st.xs j = true) : toI ps (elX (mtchA ps st o c).xs j) = txtT 1 ⟨(repB (pcX ps (pX st.xs j)).ch (lfX st.xs j - pairN st.xs o c)).toArray⟩ := by
  obtain ⟨e1, e2, e3, e4⟩ := core_mtch' (ps := ps) (j := j) ho hc hne (by omega)
  rw [if_pos hj] at e4
  rw [toI_run (e2.trans hr), e3, e4]
theorem pairN_one : 1 ≤ pairN st.xs o c ∧ pairN st.xs o c ≤ 2 := by unfold pairN; split <;> omega
theorem toI_ins {e : ElL} (h : j ≠ st.xs.length) : toI ps (elX (insX st.xs e 0) j) = toI ps (elX st.xs j) := by
  obtain ⟨e1, e2, e3, e4⟩ := core_ins' (xs := st.xs) (e := e) (k := 0) h
  exact toI_core e1 e2 e3 e4
theorem toI_ins0 {e : ElL} : toI ps (elX (insX st.xs e 0) st.xs.length) = toI ps e := by
  obtain ⟨e1, e2, e3, e4⟩ := core_ins0 (xs := st.xs) (e := e) (k := 0)
  exact toI_core e1 e2 e3 e4
/-- The inlines of elements. -/
def inlsA (ps : List PcT) (st : EmS) (ids : List Nat) : List InT := ids.map fun i => toI ps (elX st.xs i)
theorem inlsA_app (a b : List Nat) : inlsA ps st (a ++ b) = inlsA ps st a ++ inlsA ps st b := List.map_append
theorem inlsA_eq {st' : EmS} (h : ∀ i ∈ ids, toI ps (elX st'.xs i) = toI ps (elX st.xs i)) : inlsA ps st' ids = inlsA ps st ids := List.map_congr_left h
/-- What stands in the ring ahead of and behind the parts of a match is not of it. -/
theorem ring_parts {A B : List Nat} {R : Nat} {xs : List ElL} (h : RingI xs (A ++ R :: (B ++ [c]))) : (∀ i ∈ A, i ≠ R ∧ i ≠ c ∧ i < xs.length) ∧ (∀ i ∈ B, i ≠ R ∧ i ≠ c ∧ i < xs.length) ∧ R ≠ c ∧ R < xs.length ∧ c < xs.length := by
  have hn := (List.nodup_cons.1 h.nd).2
  rw [List.nodup_append] at hn
  obtain ⟨-, hn2, hn3⟩ := hn
  rw [List.nodup_cons, List.nodup_append] at hn2
  obtain ⟨hn4, -, -, hn5⟩ := hn2
  refine ⟨fun i hi => ⟨hn3 i hi R (by simp), hn3 i hi c (by simp), h.bd i (by simp [hi])⟩, fun i hi => ⟨fun e => hn4 (by simp [← e, hi]), hn5 i hi c (by simp), h.bd i (by simp [hi])⟩, fun e => hn4 (by simp [e]), h.bd R (by simp), h.bd c (by simp)⟩
/-- The inlines behind a match. -/
theorem inls_mtch {A B : List Nat} {R : Nat} {x : Nat} (h : RingI st.xs (A ++ R :: (B ++ [c]))) (hr : runX st.xs R = true) (hc : runX st.xs c = true) :
    inlsA ps (mtchA ps st R c) (A ++ (if lfX st.xs R ≤ pairN st.xs R c then [] else [R]) ++ st.xs.length :: (if lfX st.xs c ≤ pairN st.xs R c then [] else [c])) =
      inlsA ps st A ++ (if lfX st.xs R ≤ pairN st.xs R c then [] else [txtT 1 ⟨(repB (pcX ps (pX st.xs R)).ch (lfX st.xs R - pairN st.xs R c)).toArray⟩]) ++ kidT (pairK ps st.xs R c) (inlsA ps st B) ::
        (if lfX st.xs c ≤ pairN st.xs R c then [] else [txtT 1 ⟨(repB (pcX ps (pX st.xs c)).ch (lfX st.xs c - pairN st.xs R c)).toArray⟩]) := by
  obtain ⟨h1, h2, h3, h4, h5⟩ := ring_parts h
  rw [inlsA_app, inlsA_app, inlsA_eq (st' := mtchA ps st R c) (st := st) fun i hi => toI_mtch h4 h5 h3 (h1 i hi).1 (h1 i hi).2.1 (by have := (h1 i hi).2.2; omega)]
  congr 1
  · congr 1
    split
    · rfl
    · show [toI ps (elX _ R)] = _
      rw [toI_mtchR h4 h5 h3 (.inl rfl) hr]
  · show toI ps (elX _ _) :: List.map _ _ = _
    rw [toI_mtch0 h4 h5 h3, (betA_eq h).1]
    congr 1
    split
    · rfl
    · show [toI ps (elX _ c)] = _
      rw [toI_mtchR h4 h5 h3 (.inr rfl) hc]
end
theorem repB_len {c : ByteArray} (h : c.size = 1) : ∀ n, (repB c n).length = n
  | 0 => rfl
  | n + 1 => by
    show (c.toList ++ repB c n).length = _
    have hl : c.toList.length = c.size := by rw [Lib.toList_data]; exact Array.length_toList
    rw [List.length_append, repB_len h n, hl, h]; omega
theorem sizeI_txt (k : Int) (l : List UInt8) : sizeI (txtT k ⟨l.toArray⟩) = 1 + l.length := by
  unfold txtT
  rw [sizeI]
  show 1 + l.toArray.size + 0 + 0 + 0 + 0 + sizeL [] = _
  rw [sizeL]; simp
theorem sizeI_kid (k : Int) (l : List InT) : sizeI (kidT k l) = 1 + sizeL l := by
  unfold kidT
  rw [sizeI]; rfl
/-- The size of a piece's inlines and characters. -/
def pcZ (p : PcT) : Nat := sizeI p.inl + 1 + p.n.toNat
def sumZ (ps : List PcT) : Nat → Nat
  | 0 => 0
  | k + 1 => sumZ ps k + pcZ (pcX ps k)
theorem sizeL_one (x : InT) : sizeL [x] = sizeI x := by rw [sizeL, sizeL]; omega
theorem size_match (ps : List PcT) : ∀ k, k ≤ ps.length → ∃ ids, MatI ps k (matchF ps k) ids ∧ sizeL (inlsA ps (matchF ps k) ids) ≤ sumZ ps k := by
  refine match_ind ps (fun k st ids => sizeL (inlsA ps st ids) ≤ sumZ ps k) (Nat.zero_le _) ?_ ?_ ?_ ?_ ?_
  · intro k st ids h hk hp hc hP
    exact Nat.le_trans hP (Nat.le_add_right _ _)
  · intro k st ids h hk hp hk0 hi hP
    have e1 : inlsA ps (inlS ps st k) ids = inlsA ps st ids := inlsA_eq fun i hi => toI_ins (by have := h.em.ring.bd i hi; omega)
    have e2 : inlsA ps (inlS ps st k) [st.xs.length] = [(pcX ps k).inl] := by
      show [toI ps (elX (insX st.xs { t := (pcX ps k).inl } 0) st.xs.length)] = _
      rw [toI_ins0]; rfl
    rw [inlsA_app, sizeL_app, e1, e2, sizeL_one]
    show _ ≤ sumZ ps k + pcZ _
    unfold pcZ; omega
  · intro k st ids h hk hp hP
    have e1 : inlsA ps (runS ps st k) ids = inlsA ps st ids := inlsA_eq fun i hi => toI_ins (by have := h.em.ring.bd i hi; omega)
    have e2 : inlsA ps (runS ps st k) [st.xs.length] = [txtT 1 ⟨(repB (pcX ps k).ch (pcX ps k).n.toNat).toArray⟩] := by
      show [toI ps (elX (insX st.xs (runEl k (pcX ps k).n.toNat) 0) st.xs.length)] = _
      rw [toI_ins0]; rfl
    rw [inlsA_app, sizeL_app, e1, e2, sizeL_one, sizeI_txt, repB_len (runP_size hp)]
    show _ ≤ sumZ ps k + pcZ _
    unfold pcZ; omega
  · intro k c st A B R hk hclo h hl hR hR0 hB hg hr hlr hP
    obtain ⟨r1, r2, r3⟩ := h.rb R hr
    obtain ⟨s1, s2, s3⟩ := h.rb c h.run
    rw [inls_mtch (x := 0) hg hr h.run]
    have hpn := pairN_one (st := st) (o := R) (c := c)
    have hsplit : inlsA ps st (A ++ R :: (B ++ [c])) = inlsA ps st A ++ txtT 1 ⟨(repB (pcX ps (pX st.xs R)).ch (lfX st.xs R)).toArray⟩ :: (inlsA ps st B ++ [txtT 1 ⟨(repB (pcX ps (pX st.xs c)).ch (lfX st.xs c)).toArray⟩]) := by
      rw [inlsA_app]
      congr 1
      show toI ps (elX st.xs R) :: List.map _ (B ++ [c]) = _
      rw [toI_run hr, List.map_append]
      congr 2
      show [toI ps (elX st.xs c)] = _
      rw [toI_run h.run]
    rw [hsplit, sizeL_app, sizeL, sizeL_app, sizeL_one, sizeI_txt, sizeI_txt, repB_len (runP_size r2), repB_len (runP_size s2)] at hP
    rw [sizeL_app, sizeL_app, sizeL, sizeI_kid]
    have t1 : sizeL (if lfX st.xs R ≤ pairN st.xs R c then [] else [txtT 1 ⟨(repB (pcX ps (pX st.xs R)).ch (lfX st.xs R - pairN st.xs R c)).toArray⟩]) ≤ lfX st.xs R := by
      split
      · rw [sizeL]; omega
      · rw [sizeL_one, sizeI_txt, repB_len (runP_size r2)]; omega
    have t2 : sizeL (if lfX st.xs c ≤ pairN st.xs R c then [] else [txtT 1 ⟨(repB (pcX ps (pX st.xs c)).ch (lfX st.xs c - pairN st.xs R c)).toArray⟩]) ≤ lfX st.xs c := by
      split
      · rw [sizeL]; omega
      · rw [sizeL_one, sizeI_txt, repB_len (runP_size s2)]; omega
    omega
  · intro k c st ids hP
    exact hP
end Go.Pub
namespace Go.Pub
/-- The runs that can still open: those of the ring, each in its list. -/
structure OpC (ps : List PcT) (st : EmS) (ids : List Nat) : Prop where
  mem : ∀ j x, x ∈ st.ops j → (pcX ps (pX st.xs x)).opn = true ∧ j = kindO (pcX ps (pX st.xs x))
  all : ∀ x ∈ ids, runX st.xs x = true → (pcX ps (pX st.xs x)).opn = true → x ∈ st.ops (kindO (pcX ps (pX st.xs x)))
theorem OpC.congr {ps : List PcT} {st st' : EmS} {ids ids' : List Nat} (h : OpC ps st ids) (ho : st'.ops = st.ops) (hm : ∀ j x, x ∈ st.ops j → pX st'.xs x = pX st.xs x) (hi : ∀ x ∈ ids', runX st'.xs x = true → x ∈ ids ∧ runX st.xs x = true ∧ pX st'.xs x = pX st.xs x) : OpC ps st' ids' := by
  refine ⟨fun j x hx => ?_, fun x hx hr hop => ?_⟩
  · rw [ho] at hx
    rw [hm j x hx]
    exact h.mem j x hx
  · obtain ⟨a, b, e⟩ := hi x hx hr
    rw [e] at hop ⊢
    rw [ho]
    exact h.all x a b hop
end Go.Pub
namespace Go.Pub
section
variable {ps : List PcT} {k c : Nat} {st : EmS} {L : List Nat}
theorem ClI.asc {ps : List PcT} {k c : Nat} {st : EmS} {L : List Nat} (h : ClI ps k c st L) : L.Pairwise fun a b => runX st.xs a = true → runX st.xs b = true → a < b := (List.pairwise_append.1 h.em.asc).1
end
end Go.Pub
namespace Go.Pub
/-- Texts that are empty give nothing. -/
def neT (x : InT) : Bool := !(decide (x.kind = 1) && decide (x.text.toList = []))
theorem joinT_filter : ∀ l : List InT, joinT (l.filter neT) = joinT l
  | [] => rfl
  | x :: l => by
    have ih := joinT_filter l
    by_cases h : x.kind = 1 ∧ x.text.toList = []
    · rw [List.filter_cons_of_neg (by simp [neT, h.1, h.2]), ih, joinT_empty h.1 h.2]
    · rw [List.filter_cons_of_pos (by simp only [neT, Bool.not_eq_true', Bool.and_eq_false_iff, decide_eq_false_iff_not]; by_cases h1 : x.kind = 1; exact .inr fun e => h ⟨h1, e⟩; exact .inl h1), joinT_cons, joinT_cons, ih]
theorem mergeL_filter (l : List InT) : mergeL (l.filter neT) = mergeL l := by
  unfold mergeL
  rw [mapI_eq, mapI_eq, ← joinT_filter (l.map mergeI), List.filter_map]
  congr 2
  refine List.filter_congr fun x _ => ?_
  show neT x = neT (mergeI x)
  unfold neT
  rw [(mergeI_kind x).1, (mergeI_kind x).2]
end Go.Pub
namespace Go.Pub
/-- No two texts stand together, none is empty. -/
def JoT : List InT → Prop
  | [] => True
  | x :: l => (x.kind = 1 → x.text.toList ≠ [] ∧ NoTxt l) ∧ JoT l
theorem joinT_jo : ∀ l : List InT, JoT (joinT l)
  | [] => trivial
  | x :: l => by
    have ih := joinT_jo l
    by_cases hk : x.kind = 1
    · by_cases ht : x.text.toList = []
      · rw [joinT_empty hk ht]; exact ih
      · rw [joinT_cons, if_neg (by simp [hk]), if_neg ht]
        cases hj : joinT l with
        | nil => exact ⟨fun _ => ⟨ht, fun a r e => by cases e⟩, trivial⟩
        | cons y r =>
          rw [hj] at ih
          dsimp only
          by_cases hy : y.kind = 1
          · rw [if_pos hy]
            exact ⟨fun _ => ⟨by rw [setTxt_text]; simp [ht], (ih.1 hy).2⟩, ih.2⟩
          · rw [if_neg hy]
            exact ⟨fun _ => ⟨ht, fun a q e => by injection e with e1 e2; rw [← e1]; exact hy⟩, ih⟩
    · rw [joinT_no hk]
      exact ⟨fun h => absurd h hk, ih⟩
theorem mergeL_ne {l : List InT} (h : l.filter neT ≠ []) : mergeL l ≠ [] := by
  rw [← mergeL_filter]
  cases hl : l.filter neT with
  | nil => exact absurd hl h
  | cons x r =>
    have hx : neT x = true := (List.mem_filter.1 (by rw [hl]; simp : x ∈ l.filter neT)).2
    unfold mergeL
    rw [mapI_eq, List.map_cons]
    obtain ⟨e1, e2⟩ := mergeI_kind x
    by_cases hk : x.kind = 1
    · have ht : x.text.toList ≠ [] := fun e => by unfold neT at hx; simp [hk, e] at hx
      rw [joinT_cons, if_neg (by simp [e1, hk]), if_neg (by rw [e2]; exact ht)]
      split
      · simp
      · split <;> simp
    · rw [joinT_no (by rw [e1]; exact hk)]; simp
end Go.Pub
namespace Go.Proofs.YtfnloonmeilhlaaGreatDoor
open Go.RowKit Go.Pub
theorem byteCellsOf : Tryz.prog.cellsOf 5 = 1 := by kernel_rfl
/-- What a builder's String leaves. -/
def StrPE (B M : Nat) (l : List UInt8) (w : World) (e : Ending) (w' : World) : Prop :=
  e = .returned (.string ⟨l.toArray⟩) ∧ Below B w w' ∧ (∀ k, M ≤ k → w'.heap[k]? = w.heap[k]?) ∧ w'.heap.size = w.heap.size
set_option maxHeartbeats 1000000 in
set_option maxRecDepth 100000 in
theorem b_string (B b : Nat) (l : List UInt8) (w0 w : World) (h : Lib.IsBuilderF 75 5 B b (Lib.byteCells l) w0) (hbw : Below w0.heap.size w0 w) (h0 : l ≠ []) :
    Calls Tryz.prog 24 #[.pointer (some ⟨b, 0, none⟩)] w (StrPE B w0.heap.size l w) := by
  obtain ⟨p, hAt⟩ : ∃ p, Lib.BuilderAtF 75 5 B b p (Lib.byteCells l) w0 := by
    rcases h with h | h
    · exact ⟨_, h⟩
    · exact ⟨_, h⟩
  obtain ⟨hB, v, hbk, hown, hne⟩ := hAt
  have hl0 : l.length ≠ 0 := by simpa using h0
  rw [Lib.byteCells_length] at hown
  obtain ⟨g, cap, cur, fz, rfl, hbg, hg, hfz, hnc, hcm, hcs, htake⟩ : ∃ g cap cur fz, v = .slice (some ⟨g, 0, none⟩) l.length cap ∧ B ≤ g ∧ w0.heap[g]? = some (.cells cur 5 fz) ∧ fz.2 ≤ l.length * 1 ∧ l.length ≤ cap ∧ cap ≤ maxLen ∧ cur.size = cap * 1 ∧ cur.toList.take (l.length * 1) = Lib.byteCells l := by
    rcases hown.2 with ⟨_, hz⟩ | ⟨g, cap, cur, fz, hv, r⟩
    · exact absurd hz hl0
    · exact ⟨g, cap, cur, fz, hv, r⟩
  have hgl : g < w0.heap.size := (Array.getElem?_eq_some_iff.1 hg).1
  have hbl : b < w0.heap.size := (Array.getElem?_eq_some_iff.1 hbk).1
  have hg : w.heap[g]? = some (.cells cur 5 fz) := (hbw.block g hgl).trans hg
  have hbk : w.heap[b]? = some (.cells #[p, .slice (some ⟨g, 0, none⟩) l.length cap] 75 (0, 0)) := (hbw.block b hbl).trans hbk
  have c1 : w.drew.cell? ⟨b, 1, none⟩ = some (.slice (some ⟨g, 0, none⟩) l.length cap) := by
    have : w.drew.heap[b]? = some (.cells #[p, .slice (some ⟨g, 0, none⟩) l.length cap] 75 (0, 0)) := hbk
    rw [Lib.cell_of_heap this]; rfl
  have hSD : (Builtin.unsafeSliceData_ #[73] 100 #[.slice (some ⟨g, 0, none⟩) l.length cap]).run Tryz.prog w.drew = .ok (.pointer (some ⟨g, 0, none⟩)) w.drew :=
    Lib.run_unsafeSliceData_row _ _ _ _ _ _ (by omega)
  have hUS : (Builtin.unsafeString_ #[100, 3] 9 #[.pointer (some ⟨g, 0, none⟩), .int .i64 l.length]).run Tryz.prog w.drew = .ok (.string ⟨l.toArray⟩) (w.drew.freeze ⟨g, 0, none⟩ l.length) := by
    refine Lib.run_unsafeString_row w.drew 100 3 9 5 Tryz.underlying100 byteCellsOf g cur.size (by have hg' : w.drew.heap[g]? = some (.cells cur 5 fz) := hg; simp [World.shape?, hg']) l h0 (by omega) (by unfold maxLen at hcm; omega) ?_
    intro j x hx
    have hj : j < l.length := (List.getElem?_eq_some_iff.1 hx).1
    have hx' : (Lib.byteCells l)[j]? = some (.int .u8 x.toNat) := by simp [Lib.byteCells, hx]
    rw [← htake, List.getElem?_take, if_pos (by omega), Array.getElem?_toList] at hx'
    have hg' : w.drew.heap[g]? = some (.cells cur 5 fz) := hg
    have hadd : (⟨g, 0, none⟩ : Addr).add j = ⟨g, j, none⟩ := by unfold Addr.add; split <;> simp_all
    rw [hadd, Lib.cell_of_heap hg']; exact hx'
  have HF : Hid (StrPE B w0.heap.size l w (.returned (.string ⟨l.toArray⟩)) (w.drew.freeze ⟨g, 0, none⟩ l.length)) := Lib.hid ⟨rfl, Lib.below_freeze (Below.drew (Below.refl B w)) (p := ⟨g, 0, none⟩) hbg _, fun k hk => by
    have hkg : k ≠ g := by omega
    show (w.drew.freeze ⟨g, 0, none⟩ l.length).heap[k]? = w.drew.heap[k]?
    unfold World.freeze
    split
    · rfl
    · simp only [Array.getElem?_modify]
      rw [if_neg (by intro e; exact hkg e.symm)], by
    show (w.drew.freeze ⟨g, 0, none⟩ l.length).heap.size = w.drew.heap.size
    unfold World.freeze
    split
    · rfl
    · simp⟩
  clear h hbw hbk hg hown htake
  have mixed : Tryz.prog.follows .mixedOrders = true := by kernel_rfl
  go_enter Tryz.func24, Tryz.ntmps24
  go_wp2
  go_region_o
  all_goals (go_wp2; go_ret; exact HF.out)

end Go.Proofs.YtfnloonmeilhlaaGreatDoor
