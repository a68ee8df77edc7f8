/-
  Texts of the proof, put together (what this law reaches): EmTA, EmTC, EmPD, EmQB, EmRB.
-/
import Derived.Test.YtfnloonmeilhlaaV08
import Derived.BigQuiet
import Derived.Test.YtfnloonmeilhlaaV06
import Derived.Test.YtfnloonmeilhlaaV03
import Derived.Deep.CutRange
import Derived.Deep.DeepCutAuto
import Derived.Test.YtfnloonmeilhlaaV07
import Derived.OpenShut
import Derived.ChangeSame
import Derived.SizedLaws
import Derived.Carry
import Derived.SliceStrings
set_option linter.unusedVariables false
set_option linter.unusedSimpArgs false
namespace Go.Proofs.Ytfnloonmeilhlaa
open Go.RowKit Go.Pub
theorem t_texts (zs : List ByteArray) (A A' : Option Addr) (c c' : Nat) (S S' : Nat → Prop) (w : World) (h : ReadsS w S 1 A zs.length (strs zs)) (h' : ReadsS w S' 1 A' zs.length (strs zs)) (hS : ∀ g, S g → g < w.heap.size) (hS' : ∀ g, S' g → g < w.heap.size) (hl : zs.length ≤ 1000000) :
    Calls Try.prog 23 #[.slice A zs.length c, .slice A' zs.length c'] w fun e w' => e = .returned (.bool true) ∧ Below w.heap.size w w' := by
  have HR := Lib.hid h
  have HR' := Lib.hid h'
  have HS := Lib.hid hS
  have HS' := Lib.hid hS'
  clear h h' hS hS'
  go_enter Try.func23, Try.ntmps23
  go_wp2_with fail
  go_loopw [5] (fun v5 wr => ∃ k : Nat, v5 = .int .i64 k ∧ k ≤ zs.length ∧ Hid (Below w.heap.size w wr)) (fun v5 _ => zs.length - (intOf v5).toNat)
  case atStart => exact ⟨0, rfl, Nat.zero_le _, Lib.hid (Below.refl _ _)⟩
  case round =>
    obtain ⟨k, rfl, hk, HB⟩ := hrel
    by_cases hlt : k < zs.length
    · obtain ⟨g, o, rfl, hg, hc⟩ := HR.out.row (by omega) (by decide)
      obtain ⟨g', o', rfl, hg', hc'⟩ := HR'.out.row (by omega) (by decide)
      have f1 := (HB.out.cell (p := ⟨g, o + k, none⟩) (HS.out g hg)).trans (hc k _ (strs_at' zs k hlt))
      have f2 := (HB.out.cell (p := ⟨g', o' + k, none⟩) (HS'.out g' hg')).trans (hc' k _ (strs_at' zs k hlt))
      clear hc hc'
      generalize zs[k] = z at *
      have q1 : (z.toList == z.toList) = true := beq_self_eq_true _
      go_wp2_with fail
      go_quiet (fail)
      go_wp2_with fail
      go_roundw
      case rel => exact ⟨k + 1, by go_num, by omega, Lib.hid (below_drewN HB.out _)⟩
      case measure => simp [intOf]; omega
    · go_wp2_with fail
      go_ret
      exact ⟨rfl, HB.out⟩
theorem t_pairs (ps : List (ByteArray × ByteArray)) (A A' : Option Addr) (c c' : Nat) (S S' : Nat → Prop) (w : World) (h : ReadsS w S 2 A ps.length (prs ps)) (h' : ReadsS w S' 2 A' ps.length (prs ps)) (hS : ∀ g, S g → g < w.heap.size) (hS' : ∀ g, S' g → g < w.heap.size) (hl : ps.length ≤ 1000000) :
    Calls Try.prog 30 #[.slice A ps.length c, .slice A' ps.length c'] w fun e w' => e = .returned (.bool true) ∧ Below w.heap.size w w' := by
  have HR := Lib.hid h
  have HR' := Lib.hid h'
  have HS := Lib.hid hS
  have HS' := Lib.hid hS'
  clear h h' hS hS'
  go_enter Try.func30, Try.ntmps30
  go_wp2_with fail
  go_loopw [5] (fun v5 wr => ∃ k : Nat, v5 = .int .i64 k ∧ k ≤ ps.length ∧ Hid (Below w.heap.size w wr)) (fun v5 _ => ps.length - (intOf v5).toNat)
  case atStart => exact ⟨0, rfl, Nat.zero_le _, Lib.hid (Below.refl _ _)⟩
  case round =>
    obtain ⟨k, rfl, hk, HB⟩ := hrel
    by_cases hlt : k < ps.length
    · obtain ⟨g, o, rfl, hg, hc⟩ := HR.out.row (by omega) (by decide)
      obtain ⟨g', o', rfl, hg', hc'⟩ := HR'.out.row (by omega) (by decide)
      have f1 := (HB.out.cell (p := ⟨g, o + k * 2, none⟩) (HS.out g hg)).trans (hc (k * 2) _ (prs_at' ps k hlt).1)
      have f2 := (HB.out.cell (p := ⟨g', o' + k * 2, none⟩) (HS'.out g' hg')).trans (hc' (k * 2) _ (prs_at' ps k hlt).1)
      have f3 : wr.cell? ⟨g, o + k * 2 + 1, none⟩ = some (.string ps[k].2) := (HB.out.cell (p := ⟨g, o + k * 2 + 1, none⟩) (HS.out g hg)).trans (by rw [Nat.add_assoc]; exact hc (k * 2 + 1) _ (prs_at' ps k hlt).2)
      have f4 : wr.cell? ⟨g', o' + k * 2 + 1, none⟩ = some (.string ps[k].2) := (HB.out.cell (p := ⟨g', o' + k * 2 + 1, none⟩) (HS'.out g' hg')).trans (by rw [Nat.add_assoc]; exact hc' (k * 2 + 1) _ (prs_at' ps k hlt).2)
      clear hc hc'
      generalize ps[k].1 = y at *
      generalize ps[k].2 = z at *
      have q1 : (z.toList == z.toList) = true := beq_self_eq_true _
      have q2 : (y.toList == y.toList) = true := beq_self_eq_true _
      go_wp2_with fail
      go_quiet (fail)
      go_wp2_with fail
      go_roundw
      case rel => exact ⟨k + 1, by go_num, by omega, Lib.hid (below_drewN HB.out _)⟩
      case measure => simp [intOf]; omega
    · go_wp2_with fail
      go_ret
      exact ⟨rfl, HB.out⟩
set_option maxHeartbeats 4000000 in
set_option maxRecDepth 100000 in
theorem t_attrs {S S' : Nat → Prop} {A1 A2 B1 B2 : Option Addr} {c1 c2 d1 d2 : Nat} {a : AttrL} (w : World) (h1 : ReadsS w S 1 A1 a.cl.length (strs a.cl)) (h2 : ReadsS w S 2 A2 a.pr.length (prs a.pr)) (k1 : ReadsS w S' 1 B1 a.cl.length (strs a.cl)) (k2 : ReadsS w S' 2 B2 a.pr.length (prs a.pr)) (hS : ∀ g, S g → g < w.heap.size) (hS' : ∀ g, S' g → g < w.heap.size) (n1 : a.cl.length ≤ 1000000) (n2 : a.pr.length ≤ 1000000) :
    Calls Try.prog 22 #[.agg #[.string a.id, .slice A1 a.cl.length c1, .slice A2 a.pr.length c2], .agg #[.string a.id, .slice B1 a.cl.length d1, .slice B2 a.pr.length d2]] w (BoolP true w) := by
  obtain ⟨id, cl, pr⟩ := a
  have HT : Hid (∀ W, Below w.heap.size w W → Calls Try.prog 23 #[.slice A1 cl.length c1, .slice B1 cl.length d1] W fun e w' => e = .returned (.bool true) ∧ Below W.heap.size W w') := Lib.hid fun W hW => t_texts cl A1 B1 c1 d1 S S' W (h1.keep (fun g hg => hW.block g (hS g hg)) fun _ h => h) (k1.keep (fun g hg => hW.block g (hS' g hg)) fun _ h => h) (fun g hg => Nat.lt_of_lt_of_le (hS g hg) hW.size) (fun g hg => Nat.lt_of_lt_of_le (hS' g hg) hW.size) n1
  have HP : Hid (∀ W, Below w.heap.size w W → Calls Try.prog 30 #[.slice A2 pr.length c2, .slice B2 pr.length d2] W fun e w' => e = .returned (.bool true) ∧ Below W.heap.size W w') := Lib.hid fun W hW => t_pairs pr A2 B2 c2 d2 S S' W (h2.keep (fun g hg => hW.block g (hS g hg)) fun _ h => h) (k2.keep (fun g hg => hW.block g (hS' g hg)) fun _ h => h) (fun g hg => Nat.lt_of_lt_of_le (hS g hg) hW.size) (fun g hg => Nat.lt_of_lt_of_le (hS' g hg) hW.size) n2
  have q1 : (id.toList == id.toList) = true := beq_self_eq_true _
  have e1 : (w.alloc (.cells #[.string id, .slice A1 cl.length c1, .slice A2 pr.length c2] 34)).heap.size = w.heap.size + 1 := by simp
  have b1 := Blk.new w 34 #[.string id, .slice A1 cl.length c1, .slice A2 pr.length c2]
  have b2 := Blk.new (w.alloc (.cells #[.string id, .slice A1 cl.length c1, .slice A2 pr.length c2] 34)) 34 #[.string id, .slice B1 cl.length d1, .slice B2 pr.length d2]
  have b1' := b1.alloc (.cells #[.string id, .slice B1 cl.length d1, .slice B2 pr.length d2] 34)
  have hB0 : Below w.heap.size w ((w.alloc (.cells #[.string id, .slice A1 cl.length c1, .slice A2 pr.length c2] 34)).alloc (.cells #[.string id, .slice B1 cl.length d1, .slice B2 pr.length d2] 34)) := ((Below.refl _ w).alloc (Nat.le_refl _) _).alloc (by simp) _
  rw [e1] at b2
  have HB0 := Lib.hid hB0
  have HK1 := Lib.hid b1'
  have HK2 := Lib.hid b2
  have x0 : ((w.alloc (.cells #[.string id, .slice A1 cl.length c1, .slice A2 pr.length c2] 34)).alloc (.cells #[.string id, .slice B1 cl.length d1, .slice B2 pr.length d2] 34)).cell? ⟨w.heap.size, 0, none⟩ = some (.string id) := b1'.cell 0
  have x1 : ((w.alloc (.cells #[.string id, .slice A1 cl.length c1, .slice A2 pr.length c2] 34)).alloc (.cells #[.string id, .slice B1 cl.length d1, .slice B2 pr.length d2] 34)).cell? ⟨w.heap.size, 1, none⟩ = some (.slice A1 cl.length c1) := b1'.cell 1
  have y0 : ((w.alloc (.cells #[.string id, .slice A1 cl.length c1, .slice A2 pr.length c2] 34)).alloc (.cells #[.string id, .slice B1 cl.length d1, .slice B2 pr.length d2] 34)).cell? ⟨w.heap.size + 1, 0, none⟩ = some (.string id) := b2.cell 0
  have y1 : ((w.alloc (.cells #[.string id, .slice A1 cl.length c1, .slice A2 pr.length c2] 34)).alloc (.cells #[.string id, .slice B1 cl.length d1, .slice B2 pr.length d2] 34)).cell? ⟨w.heap.size + 1, 1, none⟩ = some (.slice B1 cl.length d1) := b2.cell 1
  clear h1 h2 k1 k2 hS hS' n1 n2 b1 b2 b1' hB0 e1
  go_enter Try.func22, Try.ntmps22
  go_wp2_with fail
  generalize (w.alloc (.cells #[.string id, .slice A1 cl.length c1, .slice A2 pr.length c2] 34)).alloc (.cells #[.string id, .slice B1 cl.length d1, .slice B2 pr.length d2] 34) = W1 at *
  ((with_reducible refine (HT.out W1 HB0.out).mono ?_))
  rintro e W2 ⟨rfl, b3⟩
  have z2 : W2.cell? ⟨w.heap.size, 2, none⟩ = some (.slice A2 pr.length c2) := (HK1.out.below b3 HK1.out.lt).cell 2
  have z3 : W2.cell? ⟨w.heap.size + 1, 2, none⟩ = some (.slice B2 pr.length d2) := (HK2.out.below b3 HK2.out.lt).cell 2
  have HB3 := Lib.hid (HB0.out.trans (b3.mono HB0.out.size))
  clear b3 HT x0 x1 y0 y1
  go_wp2_with fail
  ((with_reducible refine (HP.out W2 HB3.out).mono ?_))
  rintro e W3 ⟨rfl, b4⟩
  have HB4 := Lib.hid (HB3.out.trans (b4.mono HB3.out.size))
  clear b4 HP
  go_wp2_with fail
  go_ret
  exact ⟨rfl, HB4.out⟩

end Go.Proofs.Ytfnloonmeilhlaa
namespace Go.Proofs.Ytfnloonmeilhlaa
open Go.RowKit Go.Pub
theorem bk10 {w : World} {g : Nat} {T : TypeId} {u0 u1 u2 u3 u4 u5 u6 u7 u8 u9 : Value} (h : Blk w g T #[u0, u1, u2, u3, u4, u5, u6, u7, u8, u9]) : w.cell? ⟨g, 0, none⟩ = some u0 ∧ w.cell? ⟨g, 1, none⟩ = some u1 ∧ w.cell? ⟨g, 2, none⟩ = some u2 ∧ w.cell? ⟨g, 3, none⟩ = some u3 ∧ w.cell? ⟨g, 4, none⟩ = some u4 ∧ w.cell? ⟨g, 5, none⟩ = some u5 ∧ w.cell? ⟨g, 6, none⟩ = some u6 ∧ w.cell? ⟨g, 7, none⟩ = some u7 ∧ w.cell? ⟨g, 8, none⟩ = some u8 ∧ w.cell? ⟨g, 9, none⟩ = some u9 :=
  ⟨h.cell 0, h.cell 1, h.cell 2, h.cell 3, h.cell 4, h.cell 5, h.cell 6, h.cell 7, h.cell 8, h.cell 9⟩
theorem rg10 {w : World} {b o : Nat} {u0 u1 u2 u3 u4 u5 u6 u7 u8 u9 : Value} (h : w.rangeAt b o [u0, u1, u2, u3, u4, u5, u6, u7, u8, u9]) : w.cell? ⟨b, o, none⟩ = some u0 ∧ w.cell? ⟨b, o + 1, none⟩ = some u1 ∧ w.cell? ⟨b, o + 2, none⟩ = some u2 ∧ w.cell? ⟨b, o + 3, none⟩ = some u3 ∧ w.cell? ⟨b, o + 4, none⟩ = some u4 ∧ w.cell? ⟨b, o + 5, none⟩ = some u5 ∧ w.cell? ⟨b, o + 6, none⟩ = some u6 ∧ w.cell? ⟨b, o + 7, none⟩ = some u7 ∧ w.cell? ⟨b, o + 8, none⟩ = some u8 ∧ w.cell? ⟨b, o + 9, none⟩ = some u9 :=
  ⟨h 0 _ rfl, h 1 _ rfl, h 2 _ rfl, h 3 _ rfl, h 4 _ rfl, h 5 _ rfl, h 6 _ rfl, h 7 _ rfl, h 8 _ rfl, h 9 _ rfl⟩
theorem cit_cells {w : World} {S : Nat → Prop} {A : Option Addr} {l : List CitL} (h : ReadsS w S 4 A l.length (citVT l)) (q : Nat) (hq : q < l.length) : ∃ G o, A = some ⟨G, o, none⟩ ∧ w.cell? ⟨G, o + q * 4, none⟩ = some (.string l[q].key) ∧ w.cell? ⟨G, o + q * 4 + 1, none⟩ = some (.string l[q].pre) ∧ w.cell? ⟨G, o + q * 4 + 2, none⟩ = some (.string l[q].suf) ∧ w.cell? ⟨G, o + q * 4 + 3, none⟩ = some (.bool l[q].bare) := by
  obtain ⟨b, off, e, hb, hc⟩ := h.row (by omega) (by decide)
  obtain ⟨e0, e1, e2, e3⟩ := citVT_at l q hq
  exact ⟨b, off, e, hc _ _ e0, by rw [Nat.add_assoc]; exact hc _ _ e1, by rw [Nat.add_assoc]; exact hc _ _ e2, by rw [Nat.add_assoc]; exact hc _ _ e3⟩
/-- What is at an element of inlines that are read. -/
theorem RepIs.row {w : World} {S : Nat → Prop} {vs : List (Array Value)} {l : List InT} {A : Option Addr} (h1 : RepIs w S vs l) (h2 : ReadsS w S 10 A l.length (vs.flatMap Array.toList)) (i : Nat) (hi : i < l.length) : ∃ b off v, A = some ⟨b, off, none⟩ ∧ S b ∧ RepI w S v l[i] ∧ w.rangeAt b (off + i * 10) v.toList := by
  obtain ⟨b, off, e, hb, hc⟩ := h2.row (by omega) (by decide)
  obtain ⟨v, hv, hvc⟩ := h1.at_ i hi
  refine ⟨b, off, v, e, hb, hv, fun j u hj => ?_⟩
  have hj10 : j < 10 := by have := (List.getElem?_eq_some_iff.1 hj).1; rw [Array.length_toList, hv.size] at this; exact this
  rw [Nat.add_assoc]
  refine hc (i * 10 + j) u ?_
  rw [hvc j hj10, ← hj, Array.getElem?_toList]
/-- SameLine is right at equal inlines up to a size. -/
def SmlH (N : Nat) : Prop := ∀ l : List InT, sizeL l ≤ N → ∀ (S S' : Nat → Prop) (w : World) (A B : Option Addr) (c d : Nat) (vs us : List (Array Value)), RepIs w S vs l → ReadsS w S 10 A l.length (vs.flatMap Array.toList) → RepIs w S' us l → ReadsS w S' 10 B l.length (us.flatMap Array.toList) → (∀ g, S g → g < w.heap.size) → (∀ g, S' g → g < w.heap.size) →
  Calls Try.prog 11 #[.slice A l.length c, .slice B l.length d] w (BoolP true w)
set_option maxHeartbeats 8000000 in
set_option maxRecDepth 100000 in
theorem t_same (N : Nat) (hN : N ≤ 1000000) (hM : ∀ x : InT, sizeI x ≤ N → SmlH (sizeL x.kids)) : SmlH N := by
  intro l hl S S' w A B c d vs us h1 h2 k1 k2 hS hS'
  have hlen := sizeL_len l
  have HE1 := Lib.hid fun i (hi : i < l.length) => RepIs.row h1 h2 i hi
  have HE2 := Lib.hid fun i (hi : i < l.length) => RepIs.row k1 k2 i hi
  have HMG := Lib.hid fun i (hi : i < l.length) => hM l[i] (Nat.le_trans (sizeL_mem l i hi) hl)
  have HSZ := Lib.hid fun i (hi : i < l.length) => Nat.le_trans (sizeL_mem l i hi) (Nat.le_trans hl hN)
  have HS := Lib.hid hS
  have HS' := Lib.hid hS'
  have hll : l.length ≤ 1000000 := by omega
  clear h1 h2 k1 k2 hS hS' hM hl
  go_enter Try.func11, Try.ntmps11
  go_wp2_with fail
  go_loopw [5] (fun v5 wr => ∃ k : Nat, v5 = .int .i64 k ∧ k ≤ l.length ∧ Hid (Below w.heap.size w wr)) (fun v5 _ => l.length - (intOf v5).toNat)
  case atStart => exact ⟨0, rfl, Nat.zero_le _, Lib.hid (Below.refl _ _)⟩
  case round =>
    obtain ⟨i, rfl, hi, HBw⟩ := hrel
    by_cases hlt : i < l.length
    · obtain ⟨b, off, v, rfl, hb, hv, hrg⟩ := HE1.out i hlt
      obtain ⟨b', off', u, rfl, hb', hu, hrg'⟩ := HE2.out i hlt
      have hii : (i : Int) < (l.length : Int) := by omega
      have hi00 : (0 : Int) ≤ (i : Int) := by omega
      have hgm := HMG.out i hlt
      have hsz := HSZ.out i hlt
      have hzw := HBw.out.size
      have hb1 := HS.out b hb
      have hb2 := HS'.out b' hb'
      generalize l[i] = x at *
      cases hv with
      | mk kind text dest title att args cites kids A1 A2 A3 A4 A5 a1 a2 a3 a4 a5 vs' r1 r2 r3 r4 r5 r6 =>
      cases hu with
      | mk _ _ _ _ _ _ _ _ B1 B2 B3 B4 B5 b1 b2 b3 b4 b5 us' s1 s2 s3 s4 s5 s6 =>
      have HG1 : Hid (∀ W, Below wr.heap.size wr W → W.rangeAt b (off + i * 10) [.int .i64 kind, .string text, .string dest, .string title, .string att.id, .slice A1 att.cl.length a1, .slice A2 att.pr.length a2, .slice A3 args.length a3, .slice A4 cites.length a4, .slice A5 kids.length a5]) := Lib.hid fun W hW j u hj => (hW.cell (p := ⟨b, off + i * 10 + j, none⟩) (by show b < _; omega)).trans ((HBw.out.cell (p := ⟨b, off + i * 10 + j, none⟩) hb1).trans (hrg j u hj))
      have HG2 : Hid (∀ W, Below wr.heap.size wr W → W.rangeAt b' (off' + i * 10) [.int .i64 kind, .string text, .string dest, .string title, .string att.id, .slice B1 att.cl.length b1, .slice B2 att.pr.length b2, .slice B3 args.length b3, .slice B4 cites.length b4, .slice B5 kids.length b5]) := Lib.hid fun W hW j u hj => (hW.cell (p := ⟨b', off' + i * 10 + j, none⟩) (by show b' < _; omega)).trans ((HBw.out.cell (p := ⟨b', off' + i * 10 + j, none⟩) hb2).trans (hrg' j u hj))
      have hszs : att.cl.length ≤ 1000000 ∧ att.pr.length ≤ 1000000 ∧ args.length ≤ 1000000 := by rw [sizeI] at hsz; omega
      obtain ⟨n1, n2, n3⟩ := hszs
      have HAT : Hid (∀ W, Below w.heap.size w W → Calls Try.prog 22 #[.agg #[.string att.id, .slice A1 att.cl.length a1, .slice A2 att.pr.length a2], .agg #[.string att.id, .slice B1 att.cl.length b1, .slice B2 att.pr.length b2]] W (BoolP true W)) := Lib.hid fun W hW => t_attrs W (r1.keep (fun g hg => hW.block g (HS.out g hg)) fun _ h => h) (r2.keep (fun g hg => hW.block g (HS.out g hg)) fun _ h => h) (s1.keep (fun g hg => hW.block g (HS'.out g hg)) fun _ h => h) (s2.keep (fun g hg => hW.block g (HS'.out g hg)) fun _ h => h) (fun g hg => Nat.lt_of_lt_of_le (HS.out g hg) hW.size) (fun g hg => Nat.lt_of_lt_of_le (HS'.out g hg) hW.size) n1 n2
      have HTx : Hid (∀ W, Below w.heap.size w W → Calls Try.prog 23 #[.slice A3 args.length a3, .slice B3 args.length b3] W fun e w' => e = .returned (.bool true) ∧ Below W.heap.size W w') := Lib.hid fun W hW => t_texts args A3 B3 a3 b3 S S' W (r3.keep (fun g hg => hW.block g (HS.out g hg)) fun _ h => h) (s3.keep (fun g hg => hW.block g (HS'.out g hg)) fun _ h => h) (fun g hg => Nat.lt_of_lt_of_le (HS.out g hg) hW.size) (fun g hg => Nat.lt_of_lt_of_le (HS'.out g hg) hW.size) n3
      have HLN : Hid (∀ W, Below w.heap.size w W → Calls Try.prog 11 #[.slice A5 kids.length a5, .slice B5 kids.length b5] W (BoolP true W)) := Lib.hid fun W hW => hgm kids (Nat.le_refl _) S S' W A5 B5 a5 b5 vs' us' (r5.keep (fun g hg => hW.block g (HS.out g hg)) fun _ h => h) (r6.keep (fun g hg => hW.block g (HS.out g hg)) fun _ h => h) (s5.keep (fun g hg => hW.block g (HS'.out g hg)) fun _ h => h) (s6.keep (fun g hg => hW.block g (HS'.out g hg)) fun _ h => h) (fun g hg => Nat.lt_of_lt_of_le (HS.out g hg) hW.size) (fun g hg => Nat.lt_of_lt_of_le (HS'.out g hg) hW.size)
      have HC1 : Hid (∀ W, Below w.heap.size w W → ∀ q (hq : q < cites.length), ∃ G o, A4 = some ⟨G, o, none⟩ ∧ W.cell? ⟨G, o + q * 4, none⟩ = some (.string cites[q].key) ∧ W.cell? ⟨G, o + q * 4 + 1, none⟩ = some (.string cites[q].pre) ∧ W.cell? ⟨G, o + q * 4 + 2, none⟩ = some (.string cites[q].suf) ∧ W.cell? ⟨G, o + q * 4 + 3, none⟩ = some (.bool cites[q].bare)) := Lib.hid fun W hW q hq => cit_cells (r4.keep (fun g hg => hW.block g (HS.out g hg)) fun _ h => h) q hq
      have HC2 : Hid (∀ W, Below w.heap.size w W → ∀ q (hq : q < cites.length), ∃ G o, B4 = some ⟨G, o, none⟩ ∧ W.cell? ⟨G, o + q * 4, none⟩ = some (.string cites[q].key) ∧ W.cell? ⟨G, o + q * 4 + 1, none⟩ = some (.string cites[q].pre) ∧ W.cell? ⟨G, o + q * 4 + 2, none⟩ = some (.string cites[q].suf) ∧ W.cell? ⟨G, o + q * 4 + 3, none⟩ = some (.bool cites[q].bare)) := Lib.hid fun W hW q hq => cit_cells (s4.keep (fun g hg => hW.block g (HS'.out g hg)) fun _ h => h) q hq
      have hcl : cites.length ≤ 9223372036854775807 := by have := r4.1.2; unfold maxLen at this; omega
      have HK1 : Hid (∀ x, Below wr.heap.size wr (wr.alloc x).drew) := Lib.hid fun x => ((Below.refl _ wr).alloc (Nat.le_refl _) _).drew
      have HK2 : Hid (∀ x y, Below wr.heap.size wr ((wr.alloc x).alloc y).drew) := Lib.hid fun x y => (((Below.refl _ wr).alloc (Nat.le_refl _) _).alloc (by simp) _).drew
      have HN1 : Hid (∀ (x : Array Value) (y : Obj), Blk ((wr.alloc (.cells x 37)).alloc y).drew wr.heap.size 37 x) := Lib.hid fun x y => Blk.alloc (Blk.new wr _ x) y
      have HN2 : Hid (∀ (x : Obj) (y : Array Value), Blk ((wr.alloc x).alloc (.cells y 37)).drew (wr.heap.size + 1) 37 y) := Lib.hid fun x y => by
        have h := Blk.new (wr.alloc x) 37 y
        rw [World.size_alloc] at h
        exact h
      have HBr := Lib.hid (Below.refl wr.heap.size wr)
      clear hrg hrg' r1 r2 r3 r4 r5 r6 s1 s2 s3 s4 s5 s6 hgm hsz
      go_upto_region 6 with fail
      go_cut [6, 7] from 20 to 27 (fun s6 s7 wx => ∃ g6 g7 : Nat, s6 = .pointer (some ⟨g6, 0, none⟩) ∧ s7 = .pointer (some ⟨g7, 0, none⟩) ∧ Blk wx g6 37 #[.int .i64 kind, .string text, .string dest, .string title, .string att.id, .slice A1 att.cl.length a1, .slice A2 att.pr.length a2, .slice A3 args.length a3, .slice A4 cites.length a4, .slice A5 kids.length a5] ∧ Blk wx g7 37 #[.int .i64 kind, .string text, .string dest, .string title, .string att.id, .slice B1 att.cl.length b1, .slice B2 att.pr.length b2, .slice B3 args.length b3, .slice B4 cites.length b4, .slice B5 kids.length b5] ∧ Below w.heap.size w wx)
      case first =>
        clear HTx HC1 HC2 HAT HLN
        refine wp_region_held_drew (S := fun W' => Below wr.heap.size wr W') (by kernel_rfl) HBr.out.drew (fun hHeld => ?_)
        refine tk 0 (.slice (some ⟨b, off, none⟩) l.length c) rfl hHeld (fun W' hSw => ?_) ?_
        · go_simp
        refine tk 1 (.int .i64 i) rfl hHeld (fun W' hSw => ?_) ?_
        · go_simp
        refine tk 2 (.pointer (some ⟨b, off + i * 10, none⟩)) rfl hHeld (fun W' hSw => ?_) ?_
        · go_simp
        refine tk 3 (.agg #[.int .i64 kind, .string text, .string dest, .string title, .string att.id, .slice A1 att.cl.length a1, .slice A2 att.pr.length a2, .slice A3 args.length a3, .slice A4 cites.length a4, .slice A5 kids.length a5]) rfl hHeld (fun W' hSw => ?_) ?_
        · obtain ⟨e0, e1, e2, e3, e4, e5, e6, e7, e8, e9⟩ := rg10 (HG1.out W' hSw)
          go_simp
        refine tk 4 (.slice (some ⟨b', off', none⟩) l.length d) rfl hHeld (fun W' hSw => ?_) ?_
        · go_simp
        refine tk 5 (.int .i64 i) rfl hHeld (fun W' hSw => ?_) ?_
        · go_simp
        refine tk 6 (.pointer (some ⟨b', off' + i * 10, none⟩)) rfl hHeld (fun W' hSw => ?_) ?_
        · go_simp
        refine tk 7 (.agg #[.int .i64 kind, .string text, .string dest, .string title, .string att.id, .slice B1 att.cl.length b1, .slice B2 att.pr.length b2, .slice B3 args.length b3, .slice B4 cites.length b4, .slice B5 kids.length b5]) rfl hHeld (fun W' hSw => ?_) ?_
        · obtain ⟨e0, e1, e2, e3, e4, e5, e6, e7, e8, e9⟩ := rg10 (HG2.out W' hSw)
          go_simp
        refine wpAnyH_ready (rs := [8, 9]) (by kernel_rfl) (by simp) (AllReadyH.cons rfl (fun K hK => ?_) (AllReadyH.cons rfl (fun K hK => ?_) AllReadyH.nil))
        · go_simp
          refine hK.out _ _ (HK1.out _) (fun hHeld => ?_)
          clear hK K
          refine rd1 9 rfl (fun K hK => ?_)
          go_simp
          refine hK.out _ _ (HK2.out _ _) (fun hHeld => ?_)
          clear hK K
          refine rd1 10 rfl (fun K hK => ?_)
          go_simp
          refine hK.out _ _ (HK2.out _ _) (fun hHeld => ?_)
          clear hK K
          refine rd1 11 rfl (fun K hK => ?_)
          go_simp
          refine hK.out _ _ (HK2.out _ _) (fun hHeld => ?_)
          clear hK K
          refine wpAnyH_done (by kernel_rfl) ?_ _
          go_wp2_with fail
          go_meet
          exact ⟨wr.heap.size, wr.heap.size + 1, rfl, rfl, HN1.out _ _, HN2.out _ _, HBw.out.trans ((HK2.out _ _).mono HBw.out.size)⟩
        · go_simp
          refine hK.out _ _ (HK1.out _) (fun hHeld => ?_)
          clear hK K
          refine rd1 8 rfl (fun K hK => ?_)
          go_simp
          refine hK.out _ _ (HK2.out _ _) (fun hHeld => ?_)
          clear hK K
          refine rd1 10 rfl (fun K hK => ?_)
          go_simp
          refine hK.out _ _ (HK2.out _ _) (fun hHeld => ?_)
          clear hK K
          refine rd1 11 rfl (fun K hK => ?_)
          go_simp
          refine hK.out _ _ (HK2.out _ _) (fun hHeld => ?_)
          clear hK K
          refine wpAnyH_done (by kernel_rfl) ?_ _
          go_wp2_with fail
          go_meet
          exact ⟨wr.heap.size + 1, wr.heap.size, rfl, rfl, HN2.out _ _, HN1.out _ _, HBw.out.trans ((HK2.out _ _).mono HBw.out.size)⟩
      case rest =>
        obtain ⟨g6, g7, rfl, rfl, h6, h7, hbw⟩ := hcut
        have HBW := Lib.hid hbw
        have hl6 := h6.lt
        have hl7 := h7.lt
        have HI : Hid (∀ W, Below wc.heap.size wc W → Blk W g6 37 #[.int .i64 kind, .string text, .string dest, .string title, .string att.id, .slice A1 att.cl.length a1, .slice A2 att.pr.length a2, .slice A3 args.length a3, .slice A4 cites.length a4, .slice A5 kids.length a5] ∧ Blk W g7 37 #[.int .i64 kind, .string text, .string dest, .string title, .string att.id, .slice B1 att.cl.length b1, .slice B2 att.pr.length b2, .slice B3 args.length b3, .slice B4 cites.length b4, .slice B5 kids.length b5]) := Lib.hid fun W h => ⟨h6.below h hl6, h7.below h hl7⟩
        have q1 : (text.toList == text.toList) = true := beq_self_eq_true _
        have q2 : (dest.toList == dest.toList) = true := beq_self_eq_true _
        have q3 : (title.toList == title.toList) = true := beq_self_eq_true _
        have q1n : (text.toList != text.toList) = false := by simp
        have q2n : (dest.toList != dest.toList) = false := by simp
        have q3n : (title.toList != title.toList) = false := by simp
        clear h6 h7 hbw HG1 HG2 HN1 HN2 HK1 HK2 HBr
        have HW0 := Lib.hid (Below.refl wc.heap.size wc)
        obtain ⟨a0, a1, a2, a3, a4, a5, a6, a7, a8, a9⟩ := bk10 (HI.out _ HW0.out).1
        obtain ⟨b0, b1, b2, b3, b4, b5, b6, b7, b8, b9⟩ := bk10 (HI.out _ HW0.out).2
        go_wp2_with fail
        ((with_reducible refine (HAT.out _ HBW.out).mono ?_))
        rintro e w5 ⟨rfl, c5⟩
        have HW5 := Lib.hid c5
        clear a0 a1 a2 a3 a4 a5 a6 a7 a8 a9 b0 b1 b2 b3 b4 b5 b6 b7 b8 b9
        obtain ⟨a0, a1, a2, a3, a4, a5, a6, a7, a8, a9⟩ := bk10 (HI.out _ HW5.out).1
        obtain ⟨b0, b1, b2, b3, b4, b5, b6, b7, b8, b9⟩ := bk10 (HI.out _ HW5.out).2
        have HT5 := Lib.hid (HTx.out _ (HBW.out.trans (c5.mono HBW.out.size)))
        clear c5
        go_wp2_with fail
        ((with_reducible refine (HT5.out).mono ?_))
        rintro e w6 ⟨rfl, c6⟩
        have HW6 := Lib.hid (HW5.out.trans (c6.mono HW5.out.size))
        clear a0 a1 a2 a3 a4 a5 a6 a7 a8 a9 b0 b1 b2 b3 b4 b5 b6 b7 b8 b9
        obtain ⟨a0, a1, a2, a3, a4, a5, a6, a7, a8, a9⟩ := bk10 (HI.out _ HW6.out).1
        obtain ⟨b0, b1, b2, b3, b4, b5, b6, b7, b8, b9⟩ := bk10 (HI.out _ HW6.out).2
        have HL6 := Lib.hid (HLN.out _ (HBW.out.trans (HW6.out.mono HBW.out.size)))
        clear c6
        go_wp2_with fail
        ((with_reducible refine (HL6.out).mono ?_))
        rintro e w7 ⟨rfl, c7⟩
        have HW7 := Lib.hid (HW6.out.trans (c7.mono HW6.out.size))
        clear a0 a1 a2 a3 a4 a5 a6 a7 a8 a9 b0 b1 b2 b3 b4 b5 b6 b7 b8 b9
        clear c7
        have HB7 := Lib.hid (HBW.out.trans (HW7.out.mono HBW.out.size))
        have HR7 := Lib.hid (Below.refl w7.heap.size w7)
        have HI7 := Lib.hid fun W (hb : Below w7.heap.size w7 W) => HI.out W (HW7.out.trans (hb.mono HW7.out.size))
        obtain ⟨a0, a1, a2, a3, a4, a5, a6, a7, a8, a9⟩ := bk10 (HI.out _ HW7.out).1
        obtain ⟨b0, b1, b2, b3, b4, b5, b6, b7, b8, b9⟩ := bk10 (HI.out _ HW7.out).2
        clear HT5 HTx HAT HL6 HLN HI HW0 HW5 HW6 HW7 HBW
        go_wp2_with fail
        clear a0 a1 a2 a3 a4 a5 a6 a7 a8 a9 b0 b1 b2 b3 b4 b5 b6 b7 b8 b9
        go_loopw [8] (fun v8 wz => ∃ q : Nat, v8 = .int .i64 q ∧ q ≤ cites.length ∧ Hid (Below w7.heap.size w7 wz)) (fun v8 _ => cites.length - (intOf v8).toNat)
        case atStart => exact ⟨0, rfl, Nat.zero_le _, HR7⟩
        case round =>
          clear HR7
          obtain ⟨q, rfl, hq2, HBz⟩ := hrel
          have HI := HI7
          obtain ⟨a0, a1, a2, a3, a4, a5, a6, a7, a8, a9⟩ := bk10 (HI.out _ HBz.out).1
          obtain ⟨b0, b1, b2, b3, b4, b5, b6, b7, b8, b9⟩ := bk10 (HI.out _ HBz.out).2
          have HBZ := Lib.hid (HB7.out.trans (HBz.out.mono HB7.out.size))
          by_cases hql : q < cites.length
          · obtain ⟨G1, o1, rfl, d0, d1, d2, d3⟩ := HC1.out _ HBZ.out q hql
            obtain ⟨G2, o2, rfl, f0, f1, f2, f3⟩ := HC2.out _ HBZ.out q hql
            have hqq : (q : Int) < (cites.length : Int) := by omega
            have hq00 : (0 : Int) ≤ (q : Int) := by omega
            generalize cites[q].key = y0 at *
            generalize cites[q].pre = y1 at *
            generalize cites[q].suf = y2 at *
            generalize cites[q].bare = y3 at *
            have z0 : (y0.toList == y0.toList) = true := by simp
            have z1 : (y1.toList == y1.toList) = true := by simp
            have z2 : (y2.toList == y2.toList) = true := by simp
            have z3 : (y3 == y3) = true := by simp
            clear a0 a1 a2 a3 a4 a5 a6 a7 a9 b0 b1 b2 b3 b4 b5 b6 b7 b9 q1 q2 q3 q1n q2n q3n
            go_wp2_with fail
            go_quiet (fail)
            go_wp2_with fail
            go_roundw
            case rel => exact ⟨q + 1, by go_num, by omega, Lib.hid (below_drewN HBz.out _)⟩
            case measure => simp [intOf]; omega
          · have hqe : q = cites.length := by omega
            have dq : decide ((q : Int) < (cites.length : Int)) = false := decide_eq_false (by omega)
            clear hqe
            go_wp2_with fail
            go_roundw
            case rel => exact ⟨i + 1, by go_num, by omega, HBZ⟩
            case measure => simp [intOf]; omega
    · have dl : decide ((i : Int) < (l.length : Int)) = false := decide_eq_false (by omega)
      go_wp2_with fail
      go_ret
      exact ⟨rfl, HBw.out⟩

theorem same_all : ∀ N, N ≤ 1000000 → SmlH N := fun N => by
  induction N using Nat.strongRecOn with
  | ind N ih =>
    intro hN
    refine t_same N hN fun x hx => ih (sizeL x.kids) ?_ ?_
    · obtain ⟨k, t, d, ti, a, ar, c, ks⟩ := x
      rw [sizeI] at hx
      show sizeL ks < N
      omega
    · obtain ⟨k, t, d, ti, a, ar, c, ks⟩ := x
      rw [sizeI] at hx
      show sizeL ks ≤ _
      omega
end Go.Proofs.Ytfnloonmeilhlaa
namespace Go.Pub
open Go.RowKit
theorem repB_snoc (c : ByteArray) : ∀ n, repB c (n + 1) = repB c n ++ c.toList
  | 0 => by show c.toList ++ [] = [] ++ c.toList; simp
  | n + 1 => by
    show c.toList ++ repB c (n + 1) = (c.toList ++ repB c n) ++ c.toList
    rw [repB_snoc c n, List.append_assoc]
end Go.Pub
namespace Go.Proofs.Ytfnloonmeilhlaa
open Go.RowKit Go.Pub
end Go.Proofs.Ytfnloonmeilhlaa
namespace Go.Pub
theorem wantF_len (ps : List PcT) : ∀ i, (wantF ps i).length ≤ 2 * i
  | 0 => Nat.le_refl _
  | i + 1 => by
    have := wantF_len ps i
    show (wantF ps i ++ oneW (pcX ps i)).length ≤ _
    have h2 : (oneW (pcX ps i)).length ≤ 2 := by
      unfold oneW
      rw [List.length_append]
      split <;> split <;> simp
    rw [List.length_append]; omega
end Go.Pub
namespace Go.Proofs.Ytfnloonmeilhlaa
open Go.RowKit Go.Pub
theorem pc_fill1 (y0 y1 y2 y3 y4 y5 y6 y7 y8 y9 y10 y11 y12 y13 y14 y15 y16 y17 : Value) : Instr.fill (fun i => some (i * 18, 18)) ((Array.range (1 * 18)).map ((Value.agg (plC zP)).cells[· % (Value.agg (plC zP)).cells.size]!)) [(0, .agg #[y0, y1, y2, y3, y4, y5, y6, y7, y8, y9, y10, y11, y12, y13, y14, y15, y16, y17])] = some #[y0, y1, y2, y3, y4, y5, y6, y7, y8, y9, y10, y11, y12, y13, y14, y15, y16, y17] := by kernel_rfl
theorem wpList_pcSl {ops : Array Oper} {rest : List Oper} {o : Oper} {a : Act} {w : World} {Q : Exit → Act → World → Prop} (hg : o.guard = none) (x : Operand) (ho : o.op = .buildSlice 22 1 #[(0, x)]) (y0 y1 y2 y3 y4 y5 y6 y7 y8 y9 y10 y11 y12 y13 y14 y15 y16 y17 : Value) (hx : a.eval x = .agg #[y0, y1, y2, y3, y4, y5, y6, y7, y8, y9, y10, y11, y12, y13, y14, y15, y16, y17])
    (h : wpList Try.prog ops Q rest (a.put o.dst (.slice (some ⟨w.heap.size, 0, none⟩) 1 1)) (w.alloc (.cells #[y0, y1, y2, y3, y4, y5, y6, y7, y8, y9, y10, y11, y12, y13, y14, y15, y16, y17] 39))) : wpList Try.prog ops Q (o :: rest) a w := by
  obtain ⟨i0, hi0, hz0, hz1, hz2⟩ := info_parts pc_info
  refine wpList_buildSlice hg 22 39 1 _ ho _ i0 _ Try.underlying22 hi0 hz0 (by rw [hz1]; decide) (by rw [hz1]; decide) ?_ h
  rw [hz1]
  have e : (#[((0 : Nat), x)].map fun (q : Nat × Operand) => (q.1, a.eval q.2)).toList = [(0, a.eval x)] := by simp
  rw [hx] at e
  show Instr.fill _ _ (#[((0 : Nat), x)].map fun (q : Nat × Operand) => (q.1, a.eval q.2)).toList = _
  rw [e]
  exact pc_fill1 y0 y1 y2 y3 y4 y5 y6 y7 y8 y9 y10 y11 y12 y13 y14 y15 y16 y17
/-- The pieces so far, in a row of the call's own. -/
def OwO (w : World) (ps : List PcT) (i : Nat) (v : Value) (wr : World) : Prop := ∃ vs : List (Array Value), vs.length = i ∧ (∀ j, j < i → RepPc w (fun g => g < w.heap.size) (vs.getD j #[]) (unC (pcX ps j))) ∧ wr.ownsRow w.heap.size 39 18 v i (vs.flatMap Array.toList)
/-- The inlines so far, in a row of the call's own. -/
def OwW (w : World) (l : List InT) (v : Value) (wr : World) : Prop := ∃ vs : List (Array Value), RepIs w (fun g => g < w.heap.size) vs l ∧ wr.ownsRow w.heap.size 37 10 v l.length (vs.flatMap Array.toList)
section
variable {w wr W : World} {ps : List PcT} {i : Nat} {v v' : Value} {l : List InT}
theorem OwO.below (h : OwO w ps i v wr) (hb : Below wr.heap.size wr W) : OwO w ps i v W := by
  obtain ⟨vs, h1, h2, h3⟩ := h
  exact ⟨vs, h1, h2, own_below h3 hb⟩
theorem OwW.below (h : OwW w l v wr) (hb : Below wr.heap.size wr W) : OwW w l v W := by
  obtain ⟨vs, h1, h2⟩ := h
  exact ⟨vs, h1, own_below h2 hb⟩
theorem OwO.kept (h : OwO w ps i v wr) (h' : OwW w l v' wr) (hg : wr.grownBy W v'.ownBlock) : OwO w ps i v W := by
  obtain ⟨vs, h1, h2, h3⟩ := h
  obtain ⟨us, g1, g2⟩ := h'
  exact ⟨vs, h1, h2, h3.kept hg (own_apart h3 g2 (by decide))⟩
theorem OwW.kept (h : OwW w l v' wr) (h' : OwO w ps i v wr) (hg : wr.grownBy W v.ownBlock) : OwW w l v' W := by
  obtain ⟨us, g1, g2⟩ := h
  obtain ⟨vs, h1, h2, h3⟩ := h'
  exact ⟨us, g1, g2.kept hg (own_apart g2 h3 (by decide))⟩
/-- The pieces, as an argument. -/
theorem OwO.pcs (h : OwO w ps ps.length v wr) (hb : Below w.heap.size w wr) (hl : ps.length ≤ 40) : PcsR wr (fun g => g < wr.heap.size) v (ps.map unC) := by
  obtain ⟨vs, h1, h2, h3⟩ := h
  obtain ⟨A, c, e, -, -⟩ := own_form h3
  subst e
  have hll : (ps.map unC).length = ps.length := List.length_map _
  refine ⟨A, c, vs, by rw [hll], by rw [h1, hll], fun j hj => ?_, ?_⟩
  · rw [hll] at hj
    rw [pcX_map ps j hj]
    exact (h2 j hj).keep (fun g hg => hb.block g hg) fun g hg => Nat.lt_of_lt_of_le hg hb.size
  · rw [hll]
    exact (ReadsS.of_own h3).keep (fun _ _ => rfl) fun g hg => hg.2
end
set_option maxHeartbeats 8000000 in
set_option maxRecDepth 100000 in
theorem law10_quiet {L : Value} {ps : List PcT} (w : World) (hL : PcsR w (fun g => g < w.heap.size) L ps) (ho : OkPs ps) : Calls Try.prog 7 #[L] w (BoolP true w) := by
  have HF := Lib.hid (t_few w hL (fun _ h => h) ho)
  obtain ⟨A0, c0, vs0, hL0, -⟩ := id hL
  subst hL0
  cases hf : fewP ps with
  | false =>
    rw [hf] at HF
    clear hL ho hf
    go_enter Try.func7, Try.ntmps7
    go_wp2_with fail
    ((with_reducible refine HF.out.mono ?_))
    rintro e w1 ⟨rfl, b1⟩
    have HB1 := Lib.hid b1
    clear b1 HF
    go_wp2_with fail
    ((with_reducible refine (l_awake w1).mono ?_))
    rintro e w2 ⟨rfl, b2⟩
    have HB2 := Lib.hid (HB1.out.trans (b2.mono HB1.out.size))
    clear b2
    go_wp2_with fail
    go_ret
    exact ⟨rfl, HB2.out⟩
  | true =>
    rw [hf] at HF
    obtain ⟨f1, f2, f3⟩ := few_sums hf
    obtain ⟨-, hfn, -⟩ := few_bd hf
    obtain ⟨hq1, hq2⟩ := quiet_nest (ps.map unC) (unC_clo ps)
    have hll : (ps.map unC).length = ps.length := List.length_map _
    rw [hll, wantF_unC ps _ (Nat.le_refl _)] at hq2
    have hsz : sizeL (wantF ps ps.length) ≤ 50000 := Nat.le_trans (sizeL_want ps _) f3
    have HPR : Hid (∀ (W : World) (v : Value), PcsR W (fun g => g < W.heap.size) v (ps.map unC) → Calls Try.prog 14 #[v] W (PrsP [] W)) := Lib.hid fun W v hp => by
      have := e_PairsB W hp (by rw [hll]; omega) (by rw [hll, sumN_unC ps _ (Nat.le_refl _)]; omega)
      rwa [hq1] at this
    have HNE : Hid (∀ (W : World) (v : Value), PcsR W (fun g => g < W.heap.size) v (ps.map unC) → Calls Try.prog 12 #[v] W (NstP (mergeL (wantF ps ps.length)) W)) := Lib.hid fun W v hp => by
      have := e_NestB W hp (by rw [hll]; omega) (by rw [hll, sumN_unC ps _ (Nat.le_refl _)]; omega) (by rw [hll, sumZ_unC ps _ (Nat.le_refl _)]; omega)
      rwa [hq2] at this
    have HMG := Lib.hid (rmerge_all 1000000 (Nat.le_refl _) (wantF ps ps.length) (by omega))
    have HSM := Lib.hid (same_all 1000000 (Nat.le_refl _) (mergeL (wantF ps ps.length)) (by have := sizeL_merge (wantF ps ps.length); omega))
    have HWL : Hid (∀ i, i ≤ ps.length → (wantF ps i).length ≤ 2 * i) := Lib.hid fun i _ => wantF_len ps i
    have HL := Lib.hid hL
    have HN40 : Hid (∀ i, i < ps.length → (pcX ps i).n ≤ 40 ∧ (pcX ps i).ch.size ≤ 9) := Lib.hid fun i hi => ⟨(hfn i hi).2, (hfn i hi).1⟩
    have HW1 : Hid (∀ i, wantF ps (i + 1) = wantF ps i ++ ((if (pcX ps i).kind = 0 then [(pcX ps i).inl] else []) ++ if runP (pcX ps i) = true then [txtT 1 ⟨(repB (pcX ps i).ch (pcX ps i).n.toNat).toArray⟩] else [])) := Lib.hid fun i => rfl
    have HRB : Hid (∀ p : PcT, runP p = runBit p.kind p.ch p.n) := Lib.hid fun _ => rfl
    have HR1 : Hid (∀ p : PcT, runP p = true → 1 ≤ p.n ∧ p.kind = 1 ∧ p.ch.size = 1) := Lib.hid fun p h => by obtain ⟨a, b, -⟩ := runP_spec h; exact ⟨b, a, runP_size h⟩
    obtain ⟨i0, hi0, hz0, hz1, hz2⟩ := info_parts inl_info
    obtain ⟨j0, hj0, hy0, hy1, hy2⟩ := info_parts pc_info
    have H0 : Hid (∀ W, Below w.heap.size w W → OwO w ps 0 (.slice none 0 0) W ∧ OwW w (wantF ps 0) (.slice none 0 0) W) := Lib.hid fun W _ => ⟨⟨[], rfl, fun j hj => absurd hj (by omega), World.ownsRow_nil _ _ _ _⟩, ⟨[], .nil, World.ownsRow_nil _ _ _ _⟩⟩
    clear hL ho hf hq1 hq2 hfn hll hsz
    go_enter Try.func7, Try.ntmps7
    go_wp2_with fail
    ((with_reducible refine HF.out.mono ?_))
    rintro e w1 ⟨rfl, b1⟩
    have HB1 := Lib.hid b1
    have H1 := Lib.hid (H0.out w1 b1)
    clear b1 HF H0
    go_wp2_with fail
    go_loopw [3, 4, 5] (fun v3 v4 v5 wr => ∃ i : Nat, i ≤ ps.length ∧ v5 = .int .i64 i ∧ Hid (OwO w ps i v3 wr) ∧ Hid (OwW w (wantF ps i) v4 wr) ∧ Hid (Below w.heap.size w wr)) (fun _ _ v5 _ => ps.length - (intOf v5).toNat)
    case atStart => exact ⟨0, Nat.zero_le _, rfl, Lib.hid H1.out.1, Lib.hid H1.out.2, HB1⟩
    case round =>
      clear H1
      obtain ⟨i, hi, rfl, HO, HW, HBw⟩ := hrel
      obtain ⟨vsO, o1, o2, o3⟩ := HO.out
      obtain ⟨AO, cO, hvO, -, -⟩ := own_form o3
      subst hvO
      obtain ⟨vsW, w1', w2'⟩ := HW.out
      obtain ⟨AW, cW, hvW, -, -⟩ := own_form w2'
      subst hvW
      have hwl := HWL.out i hi
      have HSZ := HBw.out.size
      by_cases hlt : i < ps.length
      · have hLr : PcsR wr (fun g => g < w.heap.size) (.slice A0 ps.length c0) ps := HL.out.keep (fun g hg => HBw.out.block g hg) fun _ h => h
        obtain ⟨b, off, c, e, hb, hat⟩ := hLr.opn (by omega)
        obtain ⟨x0, x1, x2, x3, x4, x5, x6, x7, x8, x9, hr, hrg, hone⟩ := hat i hlt
        injection e with e1 e2 e3
        subst e1
        subst e3
        have hii : (i : Int) < (ps.length : Int) := by omega
        have hi00 : (0 : Int) ≤ (i : Int) := by omega
        obtain ⟨hn40, hc9⟩ := HN40.out i hlt
        have HWN := Lib.hid (HW1.out i)
        have HRR := Lib.hid (HRB.out (pcX ps i))
        have HRS := Lib.hid (HR1.out (pcX ps i))
        have hrw : RepI w (fun g => g < w.heap.size) #[x0, x1, x2, x3, x4, x5, x6, x7, x8, x9] (pcX ps i).inl := hr.keep (fun g hg => (HBw.out.block g hg).symm) fun _ h => h
        have HPI : Hid (∀ u, u = unC (pcX ps i) → RepPc w (fun g => g < w.heap.size) #[.int .i64 (pcX ps i).kind, x0, x1, x2, x3, x4, x5, x6, x7, x8, x9, .string (pcX ps i).ch, .int .i64 (pcX ps i).n, .bool (pcX ps i).opn, .bool false, .bool (pcX ps i).img, .int .i64 (pcX ps i).bg, .int .i64 (pcX ps i).nd] u) := Lib.hid fun u hu => by
          subst hu
          exact ⟨#[x0, x1, x2, x3, x4, x5, x6, x7, x8, x9], hrw, rfl⟩
        have HPU : Hid (∀ (W7 : World) (g7 cap7 : Nat), W7.ownsRow w.heap.size 39 18 (.slice (some ⟨g7, 0, none⟩) (i + 1) cap7) (i + 1) (vsO.flatMap Array.toList ++ [.int .i64 (pcX ps i).kind, x0, x1, x2, x3, x4, x5, x6, x7, x8, x9, .string (pcX ps i).ch, .int .i64 (pcX ps i).n, .bool (pcX ps i).opn, .bool false, .bool (pcX ps i).img, .int .i64 (pcX ps i).bg, .int .i64 (pcX ps i).nd]) → OwO w ps (i + 1) (.slice (some ⟨g7, 0, none⟩) (i + 1) cap7) W7) := Lib.hid fun W7 g7 cap7 h7 => by
          refine ⟨vsO ++ [#[.int .i64 (pcX ps i).kind, x0, x1, x2, x3, x4, x5, x6, x7, x8, x9, .string (pcX ps i).ch, .int .i64 (pcX ps i).n, .bool (pcX ps i).opn, .bool false, .bool (pcX ps i).img, .int .i64 (pcX ps i).bg, .int .i64 (pcX ps i).nd]], by rw [List.length_append, o1]; rfl, fun j hj => ?_, ?_⟩
          · rw [List.getD_eq_getElem?_getD]
            rcases Nat.lt_or_ge j i with h | h
            · rw [List.getElem?_append_left (by omega), ← List.getD_eq_getElem?_getD]
              exact o2 j h
            · obtain rfl : j = i := by omega
              rw [List.getElem?_append_right (by omega), o1, Nat.sub_self]
              exact HPI.out _ rfl
          · rw [List.flatMap_append, List.flatMap_singleton]; exact h7
        have HONE := Lib.hid hone
        have HIN1 := Lib.hid hr.one
        have HRG := Lib.hid hrg
        have HRW := Lib.hid hrw
        have HOo := Lib.hid o3
        clear hLr hat hrg hone hr hrw o2 w1' w2'
        generalize pcX ps i = Q at *
        obtain ⟨kd, il, ch, n, op, cl, im, bg, nd⟩ := Q
        dsimp only at *
        have HRG0 : Hid (wr.rangeAt b (off + i * 18) [.int .i64 kd, x0, x1, x2, x3, x4, x5, x6, x7, x8, x9, .string ch, .int .i64 n, .bool op, .bool cl, .bool im, .int .i64 bg, .int .i64 nd]) := HRG
        have hone' : (#[.int .i64 kd, x0, x1, x2, x3, x4, x5, x6, x7, x8, x9, .string ch, .int .i64 n, .bool op, .bool cl, .bool im, .int .i64 bg, .int .i64 nd]).all (·.oneCell') = true := by
          have := HONE.out
          rw [← Array.all_toList, List.all_eq_true]
          exact this
        have HON2 : Hid (∀ u ∈ [.int .i64 kd, x0, x1, x2, x3, x4, x5, x6, x7, x8, x9, .string ch, .int .i64 n, .bool op, .bool false, .bool im, .int .i64 bg, .int .i64 nd], u.oneCell' = true) := Lib.hid fun u hu => by
          have h := HIN1.out
          simp only [List.mem_cons, List.not_mem_nil, or_false] at hu
          rcases hu with rfl | hu | hu | hu | hu | hu | hu | hu | hu | hu | hu | rfl | rfl | rfl | rfl | rfl | rfl | rfl
          · rfl
          all_goals first | rfl | exact h u (by simp [hu])
        have hB1 : Below wr.heap.size wr (wr.alloc (.cells #[.int .i64 kd, x0, x1, x2, x3, x4, x5, x6, x7, x8, x9, .string ch, .int .i64 n, .bool op, .bool cl, .bool im, .int .i64 bg, .int .i64 nd] 39)) := (Below.refl _ wr).alloc (Nat.le_refl _) _
        have hbk := Blk.new wr 39 #[.int .i64 kd, x0, x1, x2, x3, x4, x5, x6, x7, x8, x9, .string ch, .int .i64 n, .bool op, .bool cl, .bool im, .int .i64 bg, .int .i64 nd]
        have y14 : (wr.alloc (.cells #[.int .i64 kd, x0, x1, x2, x3, x4, x5, x6, x7, x8, x9, .string ch, .int .i64 n, .bool op, .bool cl, .bool im, .int .i64 bg, .int .i64 nd] 39)).cell? ⟨wr.heap.size, 14, none⟩ = some (.bool cl) := hbk.cell 14
        have f14 : (wr.alloc (.cells #[.int .i64 kd, x0, x1, x2, x3, x4, x5, x6, x7, x8, x9, .string ch, .int .i64 n, .bool op, .bool cl, .bool im, .int .i64 bg, .int .i64 nd] 39)).frozen? ⟨wr.heap.size, 14, none⟩ = false := hbk.frozen 14
        have HBK2 : Hid (Blk ((wr.alloc (.cells #[.int .i64 kd, x0, x1, x2, x3, x4, x5, x6, x7, x8, x9, .string ch, .int .i64 n, .bool op, .bool cl, .bool im, .int .i64 bg, .int .i64 nd] 39)).setCell ⟨wr.heap.size, 14, none⟩ (.bool false)) wr.heap.size 39 #[.int .i64 kd, x0, x1, x2, x3, x4, x5, x6, x7, x8, x9, .string ch, .int .i64 n, .bool op, .bool false, .bool im, .int .i64 bg, .int .i64 nd]) := Lib.hid (hbk.set_ 14 (.bool false))
        have HB2 : Hid (Below wr.heap.size wr ((wr.alloc (.cells #[.int .i64 kd, x0, x1, x2, x3, x4, x5, x6, x7, x8, x9, .string ch, .int .i64 n, .bool op, .bool cl, .bool im, .int .i64 bg, .int .i64 nd] 39)).setCell ⟨wr.heap.size, 14, none⟩ (.bool false))) := Lib.hid (hB1.setCell (p := ⟨wr.heap.size, 14, none⟩) (Nat.le_refl _) _)
        have HZ2 : Hid (((wr.alloc (.cells #[.int .i64 kd, x0, x1, x2, x3, x4, x5, x6, x7, x8, x9, .string ch, .int .i64 n, .bool op, .bool cl, .bool im, .int .i64 bg, .int .i64 nd] 39)).setCell ⟨wr.heap.size, 14, none⟩ (.bool false)).heap.size = wr.heap.size + 1) := Lib.hid (by simp [World.setCell])
        have HBL : Hid (∀ (W : World) o, Below wr.heap.size wr W → wr.heap.size ≤ W.heap.size → Below wr.heap.size wr (W.alloc o)) := Lib.hid fun W o h1 h2 => h1.alloc h2 _
        clear hbk hB1
        go_wp2_with (first | (refine wpList_load_mid rfl 39 (.tmp 21) rfl b (off + i * 18) rfl _ _ HRG0.out Try.underlying39 rfl pc18 ?_) | (refine wpList_store_row rfl 39 (.tmp 6) (.tmp 22) rfl wr.heap.size #[.int .i64 kd, x0, x1, x2, x3, x4, x5, x6, x7, x8, x9, .string ch, .int .i64 n, .bool op, .bool cl, .bool im, .int .i64 bg, .int .i64 nd] rfl rfl 39 _ (Blk.new wr _ _) pc18 (by rfl) hone' ?_; rw [World.setRow_alloc_new]; generalize (wr.alloc (.cells #[.int .i64 kd, x0, x1, x2, x3, x4, x5, x6, x7, x8, x9, .string ch, .int .i64 n, .bool op, .bool cl, .bool im, .int .i64 bg, .int .i64 nd] 39)) = W1 at *) | (refine wpList_load_row rfl 39 (.tmp 6) rfl wr.heap.size rfl 39 #[.int .i64 kd, x0, x1, x2, x3, x4, x5, x6, x7, x8, x9, .string ch, .int .i64 n, .bool op, .bool false, .bool im, .int .i64 bg, .int .i64 nd] _ _ HBK2.out Try.underlying39 rfl pc18 ?_; generalize (W1.setCell ⟨wr.heap.size, 14, none⟩ (.bool false)) = W2 at *) | (refine wpList_pcSl rfl (.tmp 25) rfl (.int .i64 kd) x0 x1 x2 x3 x4 x5 x6 x7 x8 x9 (.string ch) (.int .i64 n) (.bool op) (.bool false) (.bool im) (.int .i64 bg) (.int .i64 nd) rfl ?_) | (at_builtin; refine wpList_append_lies _ rfl _ _ 22 rfl w.heap.size 39 j0 _ 18 248 Try.underlying22 hj0 hy0 hy1 hy2 rfl (by decide) _ _ _ rfl (own_below HOo.out (HBL.out W2 (.cells #[.int .i64 kd, x0, x1, x2, x3, x4, x5, x6, x7, x8, x9, .string ch, .int .i64 n, .bool op, .bool false, .bool im, .int .i64 bg, .int .i64 nd] 39) HB2.out (by have := HZ2.out; omega))) ⟨W2.heap.size, 0, none⟩ 1 1 [.int .i64 kd, x0, x1, x2, x3, x4, x5, x6, x7, x8, x9, .string ch, .int .i64 n, .bool op, .bool false, .bool im, .int .i64 bg, .int .i64 nd] rfl rfl ?c1 ?c2 (by decide) ?c3 ?c4 ?c5 (W2.heap.size + 1) ?c6 ?_))
        case c2 => simpa using HON2.out
        case c3 => unfold maxLen; omega
        case c4 => omega
        case c5 => have := HZ2.out; omega
        intro g7 cap7 W7 hown hgrow hlies hlt7
        have hB2a := HBL.out W2 (.cells #[.int .i64 kd, x0, x1, x2, x3, x4, x5, x6, x7, x8, x9, .string ch, .int .i64 n, .bool op, .bool false, .bool im, .int .i64 bg, .int .i64 nd] 39) HB2.out (by have := HZ2.out; omega)
        have HO7 : Hid (OwO w ps (i + 1) (.slice (some ⟨g7, 0, none⟩) (i + 1) cap7) W7) := Lib.hid (HPU.out W7 g7 cap7 hown)
        have HW7 : Hid (OwW w (wantF ps i) (.slice AW (wantF ps i).length cW) W7) := Lib.hid ((HW.out.below hB2a).kept (HO.out.below hB2a) hgrow)
        have HB7 : Hid (Below w.heap.size w W7) := Lib.hid ((HBw.out.trans (hB2a.mono HSZ)).grown hgrow (Nat.le_trans HSZ hB2a.size) fun k hk => (HOo.out.lt k hk).1)
        have HX7 : Hid (Blk W7 wr.heap.size 39 #[.int .i64 kd, x0, x1, x2, x3, x4, x5, x6, x7, x8, x9, .string ch, .int .i64 n, .bool op, .bool false, .bool im, .int .i64 bg, .int .i64 nd]) := Lib.hid ((HBK2.out.alloc _).grown hgrow (fun e => by have := (HOo.out.lt _ e.symm).2; omega))
        have z0 : W7.cell? ⟨wr.heap.size, 0, none⟩ = some (.int .i64 kd) := HX7.out.cell 0
        have hz7 : wr.heap.size < W7.heap.size := HX7.out.lt
        clear hown hgrow hlies hlt7 hB2a HPU HBL HBK2 HB2 HZ2 HON2 HO HW y14 f14 hone' HRG HRG0 HPI
        obtain ⟨vs7, r7, ow7⟩ := HW7.out
        by_cases hkd : kd = 0
        · have hnr : runP ⟨kd, il, ch, n, op, cl, im, bg, nd⟩ = false := by
            cases h : runP ⟨kd, il, ch, n, op, cl, im, bg, nd⟩
            · rfl
            · have := (HRS.out h).2.1; omega
          have hrb : runBit kd ch n = false := by rw [← HRR.out]; exact hnr
          have HEQ : Hid (wantF ps (i + 1) = wantF ps i ++ [il]) := Lib.hid (by rw [HWN.out, if_pos hkd, if_neg (by rw [hnr]; decide), List.append_nil])
          have HG7 : Hid (W7.rangeAt wr.heap.size 1 [x0, x1, x2, x3, x4, x5, x6, x7, x8, x9]) := Lib.hid fun j u hj => by
            have hj10 := (List.getElem?_eq_some_iff.1 hj).1
            simp only [List.length_cons, List.length_nil] at hj10
            rw [HX7.out.cell (1 + j), ← hj, Nat.add_comm 1 j]
            match j, hj10 with
            | 0, _ => rfl
            | 1, _ => rfl
            | 2, _ => rfl
            | 3, _ => rfl
            | 4, _ => rfl
            | 5, _ => rfl
            | 6, _ => rfl
            | 7, _ => rfl
            | 8, _ => rfl
            | 9, _ => rfl
          have hA7 : Below W7.heap.size W7 (W7.alloc (.cells #[x0, x1, x2, x3, x4, x5, x6, x7, x8, x9] 37)) := (Below.refl _ W7).alloc (Nat.le_refl _) _
          have HOW := Lib.hid (own_below ow7 hA7)
          have HP8 : Hid (∀ (W8 : World) (g8 cap8 : Nat), W8.ownsRow w.heap.size 37 10 (.slice (some ⟨g8, 0, none⟩) ((wantF ps i).length + 1) cap8) ((wantF ps i).length + 1) (vs7.flatMap Array.toList ++ [x0, x1, x2, x3, x4, x5, x6, x7, x8, x9]) → (W7.alloc (.cells #[x0, x1, x2, x3, x4, x5, x6, x7, x8, x9] 37)).grownBy W8 (Value.slice AW (wantF ps i).length cW).ownBlock →
              OwW w (wantF ps (i + 1)) (.slice (some ⟨g8, 0, none⟩) ((wantF ps i).length + 1) cap8) W8 ∧ OwO w ps (i + 1) (.slice (some ⟨g7, 0, none⟩) (i + 1) cap7) W8 ∧ Blk W8 wr.heap.size 39 #[.int .i64 kd, x0, x1, x2, x3, x4, x5, x6, x7, x8, x9, .string ch, .int .i64 n, .bool op, .bool false, .bool im, .int .i64 bg, .int .i64 nd] ∧ Below w.heap.size w W8) := Lib.hid fun W8 g8 cap8 h8 hg8 => by
            refine ⟨⟨vs7 ++ [#[x0, x1, x2, x3, x4, x5, x6, x7, x8, x9]], ?_, ?_⟩, (HO7.out.below hA7).kept (HW7.out.below hA7) hg8, (HX7.out.alloc _).grown hg8 (fun e => own_blk ow7 HX7.out (by decide) e.symm), (HB7.out.trans (hA7.mono HB7.out.size)).grown hg8 (Nat.le_trans HB7.out.size hA7.size) fun k hk => (ow7.lt k hk).1⟩
            · rw [HEQ.out]; exact r7.snoc HRW.out
            · rw [HEQ.out, List.length_append, List.flatMap_append, List.flatMap_singleton]; exact h8
          have hv8 : ∀ W8 : World, Calls Try.prog 17 #[.agg #[.int .i64 kd, x0, x1, x2, x3, x4, x5, x6, x7, x8, x9, .string ch, .int .i64 n, .bool op, .bool false, .bool im, .int .i64 bg, .int .i64 nd]] W8 (BoolP false W8) := fun W8 => by
            have := l_valid kd n x0 x1 x2 x3 x4 x5 x6 x7 x8 x9 ch op false im bg nd W8 (by omega)
            rwa [hrb] at this
          have HV := Lib.hid hv8
          clear hnr hrb hA7 r7 ow7 hv8 HX7 HO7 HW7
          subst hkd
          have hwl2 : (wantF ps i).length ≤ 80 := by omega
          go_wp2_with (first | (refine wpList_load_mid rfl 37 (.tmp 32) rfl wr.heap.size 1 rfl _ _ HG7.out Try.underlying37 rfl inl_size ?_) | (refine wpList_inSlice rfl (.tmp 33) rfl x0 x1 x2 x3 x4 x5 x6 x7 x8 x9 rfl ?_) | (at_builtin; refine wpList_append_lies _ rfl _ _ 26 rfl w.heap.size 37 i0 _ 10 192 Try.underlying26 hi0 hz0 hz1 hz2 rfl (by decide) _ _ _ rfl HOW.out ⟨W7.heap.size, 0, none⟩ 1 1 [x0, x1, x2, x3, x4, x5, x6, x7, x8, x9] rfl rfl ?d1 ?d2 (by decide) ?d3 ?d4 ?d5 (W7.heap.size + 1) ?d6 ?_))
          case d2 => simpa using HIN1.out
          case d3 => unfold maxLen; omega
          case d4 => omega
          case d5 => omega
          intro g8 cap8 W8 hown hgrow hlies hlt8
          obtain ⟨p1, p2, p3, p4⟩ := HP8.out W8 g8 cap8 hown hgrow
          have HW8 := Lib.hid p1
          have HO8 := Lib.hid p2
          have HX8 := Lib.hid p3
          have HB8 := Lib.hid p4
          clear hown hgrow hlies hlt8 p1 p2 p3 p4 HP8 HOW
          go_wp2_with (refine wpList_load_row rfl 39 (.tmp 6) rfl wr.heap.size rfl 39 _ _ _ HX8.out Try.underlying39 rfl pc18 ?_)
          ((with_reducible refine (HV.out W8).mono ?_))
          rintro e W9 ⟨rfl, b9⟩
          have HO9 := Lib.hid (HO8.out.below b9)
          have HW9 := Lib.hid (HW8.out.below b9)
          have HB9 := Lib.hid (HB8.out.trans (b9.mono HB8.out.size))
          clear b9 HV HO8 HW8 HX8 HB8
          go_wp2_with fail
          go_roundw
          case rel => exact ⟨i + 1, by omega, by go_num, HO9, HW9, HB9⟩
          case measure => simp [intOf]; omega
        · have dk : (kd == 0) = false := beq_eq_false_iff_ne.2 hkd
          have HV := Lib.hid (l_valid kd n x0 x1 x2 x3 x4 x5 x6 x7 x8 x9 ch op false im bg nd W7 (by omega))
          cases hrb : runBit kd ch n with
          | false =>
            have hnr : runP ⟨kd, il, ch, n, op, cl, im, bg, nd⟩ = false := by rw [HRR.out]; exact hrb
            have HEQ : Hid (wantF ps (i + 1) = wantF ps i) := Lib.hid (by rw [HWN.out, if_neg hkd, if_neg (by rw [hnr]; decide), List.append_nil, List.append_nil])
            rw [hrb] at HV
            clear hnr hrb hkd r7 ow7
            go_wp2_with (refine wpList_load_row rfl 39 (.tmp 6) rfl wr.heap.size rfl 39 _ _ _ HX7.out Try.underlying39 rfl pc18 ?_)
            ((with_reducible refine HV.out.mono ?_))
            rintro e W9 ⟨rfl, b9⟩
            have HO9 := Lib.hid (HO7.out.below b9)
            have HW9 : Hid (OwW w (wantF ps (i + 1)) (.slice AW (wantF ps i).length cW) W9) := Lib.hid (by rw [HEQ.out]; exact HW7.out.below b9)
            have HB9 := Lib.hid (HB7.out.trans (b9.mono HB7.out.size))
            clear b9 HV HO7 HW7 HX7 HB7
            go_wp2_with fail
            go_roundw
            case rel => exact ⟨i + 1, by omega, by go_num, HO9, HW9, HB9⟩
            case measure => simp [intOf]; omega
          | true =>
            have hnr : runP ⟨kd, il, ch, n, op, cl, im, bg, nd⟩ = true := by rw [HRR.out]; exact hrb
            have HEQ : Hid (wantF ps (i + 1) = wantF ps i ++ [txtT 1 (bsT (repB ch n.toNat))]) := Lib.hid (by rw [HWN.out, if_neg hkd, if_pos hnr, List.nil_append]; rfl)
            obtain ⟨hn1, -, hcs⟩ := HRS.out hnr
            have HCS : Hid (∀ k, (repB ch k).length = k) := Lib.hid (repB_len hcs)
            rw [hrb] at HV
            clear hnr hrb hkd r7 ow7
            go_wp2_with (refine wpList_load_row rfl 39 (.tmp 6) rfl wr.heap.size rfl 39 _ _ _ HX7.out Try.underlying39 rfl pc18 ?_)
            ((with_reducible refine HV.out.mono ?_))
            rintro e W9 ⟨rfl, b9⟩
            have HO9 := Lib.hid (HO7.out.below b9)
            have HW9 := Lib.hid (HW7.out.below b9)
            have HB9 := Lib.hid (HB7.out.trans (b9.mono HB7.out.size))
            have hx9 := HX7.out.below b9 HX7.out.lt
            have c11 : W9.cell? ⟨wr.heap.size, 11, none⟩ = some (.string ch) := hx9.cell 11
            have c12 : W9.cell? ⟨wr.heap.size, 12, none⟩ = some (.int .i64 n) := hx9.cell 12
            obtain ⟨vs9, r9, ow9⟩ := HW9.out
            have hA9 : Below W9.heap.size W9 (W9.alloc (.cells #[.int .i64 1, .string (bsT (repB ch n.toNat)), .string ⟨#[]⟩, .string ⟨#[]⟩, .string ⟨#[]⟩, .slice none 0 0, .slice none 0 0, .slice none 0 0, .slice none 0 0, .slice none 0 0] 37)) := (Below.refl _ W9).alloc (Nat.le_refl _) _
            have HOW := Lib.hid (own_below ow9 hA9)
            have HPA : Hid (∀ (WA : World) (gA capA : Nat), WA.ownsRow w.heap.size 37 10 (.slice (some ⟨gA, 0, none⟩) ((wantF ps i).length + 1) capA) ((wantF ps i).length + 1) (vs9.flatMap Array.toList ++ [.int .i64 1, .string (bsT (repB ch n.toNat)), .string ⟨#[]⟩, .string ⟨#[]⟩, .string ⟨#[]⟩, .slice none 0 0, .slice none 0 0, .slice none 0 0, .slice none 0 0, .slice none 0 0]) → (W9.alloc (.cells #[.int .i64 1, .string (bsT (repB ch n.toNat)), .string ⟨#[]⟩, .string ⟨#[]⟩, .string ⟨#[]⟩, .slice none 0 0, .slice none 0 0, .slice none 0 0, .slice none 0 0, .slice none 0 0] 37)).grownBy WA (Value.slice AW (wantF ps i).length cW).ownBlock →
                OwW w (wantF ps (i + 1)) (.slice (some ⟨gA, 0, none⟩) ((wantF ps i).length + 1) capA) WA ∧ OwO w ps (i + 1) (.slice (some ⟨g7, 0, none⟩) (i + 1) cap7) WA ∧ Below w.heap.size w WA) := Lib.hid fun WA gA capA h8 hg8 => by
              refine ⟨⟨vs9 ++ [#[.int .i64 1, .string (bsT (repB ch n.toNat)), .string ⟨#[]⟩, .string ⟨#[]⟩, .string ⟨#[]⟩, .slice none 0 0, .slice none 0 0, .slice none 0 0, .slice none 0 0, .slice none 0 0]], ?_, ?_⟩, (HO9.out.below hA9).kept (HW9.out.below hA9) hg8, (HB9.out.trans (hA9.mono HB9.out.size)).grown hg8 (Nat.le_trans HB9.out.size hA9.size) fun k hk => (ow9.lt k hk).1⟩
              · rw [HEQ.out]; exact r9.snoc (RepI.txt w _ 1 (bsT (repB ch n.toNat)))
              · rw [HEQ.out, List.length_append, List.flatMap_append, List.flatMap_singleton]; exact h8
            have hsz9 := HB9.out.size
            clear b9 HV HO7 HW7 HX7 HB7 hx9 r9 ow9 hA9 z0 dk HO9 HW9
            have hb0 : (⟨#[]⟩ : ByteArray) = bsT (repB ch 0) := rfl
            go_wp2_with fail
            go_loopw [7, 8] (fun v7 v8 wq => wq = W9 ∧ ∃ k : Nat, k ≤ n.toNat ∧ v8 = .int .i64 k ∧ v7 = .string (bsT (repB ch k))) (fun _ v8 _ => n.toNat - (intOf v8).toNat)
            case atStart => exact ⟨rfl, 0, Nat.zero_le _, rfl, by rw [← hb0]⟩
            case round =>
              clear hb0
              obtain ⟨rfl, k, hk, rfl, rfl⟩ := hrel
              by_cases hkm : k < n.toNat
              · have hkm' : (k : Int) < n := by omega
                have hrl := HCS.out k
                have hcat : ∀ W : World, (Op.stringOp .add (bsT (repB ch k)) ch).run Try.prog W = .ok (.string (bsT (repB ch k ++ ch.toList))) W := fun W => cat_s (P := Try.prog) W _ ch (by rw [hrl]; omega)
                have HEK : Hid (repB ch (k + 1) = repB ch k ++ ch.toList) := Lib.hid (repB_snoc ch k)
                clear hrl
                go_wp2_with fail
                go_roundw
                case rel => exact ⟨trivial, k + 1, by omega, by go_num, by rw [HEK.out]⟩
                case measure => simp [intOf]; omega
              · have hke : k = n.toNat := by omega
                have hkm' : decide ((k : Int) < n) = false := decide_eq_false (by omega)
                subst hke
                have hwl2 : (wantF ps i).length ≤ 80 := by omega
                rename World => W9
                go_wp2_with (first | (refine wpList_inSlice rfl (.tmp 50) rfl (.int .i64 1) (.string (bsT (repB ch n.toNat))) (.string ⟨#[]⟩) (.string ⟨#[]⟩) (.string ⟨#[]⟩) (.slice none 0 0) (.slice none 0 0) (.slice none 0 0) (.slice none 0 0) (.slice none 0 0) rfl ?_) | (at_builtin; refine wpList_append_lies _ rfl _ _ 26 rfl w.heap.size 37 i0 _ 10 192 Try.underlying26 hi0 hz0 hz1 hz2 rfl (by decide) _ _ _ rfl HOW.out ⟨W9.heap.size, 0, none⟩ 1 1 [.int .i64 1, .string (bsT (repB ch n.toNat)), .string ⟨#[]⟩, .string ⟨#[]⟩, .string ⟨#[]⟩, .slice none 0 0, .slice none 0 0, .slice none 0 0, .slice none 0 0, .slice none 0 0] rfl rfl ?e1 ?e2 (by decide) ?e3 ?e4 ?e5 (W9.heap.size + 1) ?e6 ?_))
                try case e1 => exact World.news_of_block (t := 37) (fr := (0, 0)) (heap_alloc_new W9 _)
                try case e2 => simp [Value.oneCell']
                try case e3 => unfold maxLen; omega
                try case e4 => omega
                try case e5 => simp; omega
                try case e6 => simp
                intro gA capA WA hown hgrow hlies hltA
                obtain ⟨p1, p2, p3⟩ := HPA.out WA gA capA hown hgrow
                have HWA := Lib.hid p1
                have HOA := Lib.hid p2
                have HBA := Lib.hid p3
                clear hown hgrow hlies hltA p1 p2 p3 HPA HOW
                go_wp2_with fail
                go_roundw
                case rel => exact ⟨i + 1, by omega, by go_num, HOA, HWA, HBA⟩
                case measure => simp [intOf]; omega
      · obtain rfl : i = ps.length := by omega
        have HCP := Lib.hid (HPR.out wr _ (HO.out.pcs HBw.out f1))
        clear HPR o2 o3
        go_wp2_with fail
        ((with_reducible refine HCP.out.mono ?_))
        rintro e wA ⟨A, c, rfl, hm, bA⟩
        have HBA := Lib.hid (HBw.out.trans (bA.mono HSZ))
        have HCN := Lib.hid (HNE.out wA _ ((HO.out.below bA).pcs HBA.out f1))
        have HbA := Lib.hid bA
        have hl0 : ([] : List (Nat × Nat × Nat)).length = 0 := rfl
        clear hm bA HNE HCP
        go_wp2_with fail
        ((with_reducible refine HCN.out.mono ?_))
        rintro e wB ⟨AN, cN, vsN, rfl, hrN, hmN, bB⟩
        have HbB : Hid (Below wr.heap.size wr wB) := Lib.hid (HbA.out.trans (bB.mono HbA.out.size))
        have HBB : Hid (Below w.heap.size w wB) := Lib.hid (HBA.out.trans (bB.mono HBA.out.size))
        have HCM := Lib.hid (HMG.out (fun g => g < wB.heap.size) wB AW cW vsW (w1'.keep (fun g hg => HBB.out.block g hg) fun g hg => Nat.lt_of_lt_of_le hg HBB.out.size) ((ReadsS.of_own w2').keep (fun g hg => HbB.out.block g hg.2) fun g hg => Nat.lt_of_lt_of_le hg.2 HbB.out.size) (fun _ h => h))
        have HRN := Lib.hid hrN
        have HMN := Lib.hid hmN
        clear hrN hmN bB HCN HMG w1' w2'
        go_wp2_with fail
        ((with_reducible refine HCM.out.mono ?_))
        rintro e wC ⟨AM, cM, vsM, rfl, hrM, ownM, bC⟩
        have HCS := Lib.hid (HSM.out (NewG wA wB) (fun g => g < wB.heap.size ∨ NewG wB wC g) wC AN AM cN cM vsN vsM (HRN.out.keep (fun g hg => bC.block g hg.2) fun _ h => h) (HMN.out.keep (fun g hg => bC.block g hg.2) fun _ h => h) hrM ((ReadsS.of_own ownM).keep (fun _ _ => rfl) fun g hg => .inr hg) (fun g hg => Nat.lt_of_lt_of_le hg.2 bC.size) (fun g hg => by
          rcases hg with hg | hg
          · exact Nat.lt_of_lt_of_le hg bC.size
          · exact hg.2))
        have HBC : Hid (Below w.heap.size w wC) := Lib.hid (HBB.out.trans (bC.mono HBB.out.size))
        clear hrM ownM bC HCM HRN HMN HSM
        go_wp2_with fail
        ((with_reducible refine HCS.out.mono ?_))
        rintro e wD ⟨rfl, bD⟩
        have HBD : Hid (Below w.heap.size w wD) := Lib.hid (HBC.out.trans (bD.mono HBC.out.size))
        clear bD HCS
        go_wp2_with fail
        ((with_reducible refine (l_awake wD).mono ?_))
        rintro e wE ⟨rfl, bE⟩
        have HBE := Lib.hid (HBD.out.trans (bE.mono HBD.out.size))
        clear bE
        go_wp2_with fail
        go_ret
        exact ⟨rfl, HBE.out⟩

end Go.Proofs.Ytfnloonmeilhlaa
namespace Go.Proofs.Ytfnloonmeilhlaa
open Go.RowKit Go.Pub Go.ChangeShapes Go.WideShapes
set_option maxRecDepth 100000 in
theorem open_pcsA {H : Type} {enc : TypeId × Value → H} {W : World} {r : Reach} {b0 : Nat} {v : Value} {d : DataW H} {p : List MemPlace} (hv : Value.okWide Try.prog W r b0 22 v) (h : DataW.Trod enc Try.prog W 0 (fun _ => true) true 22 v d p) (hw : Wt Try.prog 22 d) :
    ∃ ps, PcsR W (fun g => g < W.heap.size) v ps ∧ OkPs ps := by
  obtain ⟨a0, len0, cap0, rfl⟩ := okWide_slice Try.underlying22 hv
  obtain ⟨fuel, hf⟩ := h
  obtain ⟨ps, A, c, e, hp, ho⟩ := open_pcs hf hw
  have e1 : [Value.slice a0 len0 cap0] = [.slice A ps.length c] := e
  injection e1 with e1 _
  rw [e1]
  exact ⟨ps, hp, ho⟩

end Go.Proofs.Ytfnloonmeilhlaa
