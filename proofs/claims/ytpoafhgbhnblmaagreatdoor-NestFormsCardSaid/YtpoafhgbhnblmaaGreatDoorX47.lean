/-
  Texts of the proof, put together (what this law reaches): NfQ, Row, RowTC.
-/
import Derived.Test.YtpoafhgbhnblmaaGreatDoorX30
import Derived.Test.YtpoafhgbhnblmaaGreatDoorX33
import Derived.Test.YtpoafhgbhnblmaaGreatDoorX15
import Derived.Deep.CutBlock
import Derived.Deep.DeepCutAuto
import Derived.Below
import Derived.ChangeSame
import Derived.ProofKit
import Derived.Test.YtpoafhgbhnblmaaGreatDoorX09
import Derived.Test.YtpoafhgbhnblmaaGreatDoorProg
import Derived.SliceStrings
import Derived.OpenShut
import Derived.Carry
set_option linter.unusedVariables false
set_option linter.unusedSimpArgs false
namespace Go.Proofs.YtpoafhgbhnblmaaGreatDoor
open Go.RowKit Go.Pub
mutual
def szB : BkT → Nat
  | .mk _ _ _ _ _ _ _ _ ks => szK ks + 1
def szK : List BkT → Nat
  | [] => 0
  | b :: bs => szB b + szK bs
end
theorem szK_mem : ∀ {bs : List BkT} {b : BkT}, b ∈ bs → szK (ksT b) < szK bs
  | c :: bs, b, h => by
    rw [szK]
    rcases List.mem_cons.1 h with rfl | h
    · obtain ⟨k, lv, i, t, d, ti, a, l, ks⟩ := b
      rw [szB]; show szK ks < _; omega
    · have := szK_mem h; omega
/-- No block holds more than a hundred blocks. -/
inductive LenK : List BkT → Prop
  | nil : LenK []
  | cons (k lv : Nat) (i t d ti : ByteArray) (a : AttrL) (l : ByteArray) (ks bs : List BkT) : ks.length ≤ 100 → LenK ks → LenK bs → LenK (.mk k lv i t d ti a l ks :: bs)
theorem LenK.mem : ∀ {bs : List BkT} {b : BkT}, LenK bs → b ∈ bs → (ksT b).length ≤ 100 ∧ LenK (ksT b)
  | _, b, .cons k lv i t d ti a l ks bs h1 h2 h3, hb => by
    rcases List.mem_cons.1 hb with rfl | hb
    · exact ⟨h1, h2⟩
    · exact LenK.mem h3 hb
theorem lenK_of : ∀ (N : Nat) (bs : List BkT) (n p : Nat), szK bs ≤ N → WfK n p (srcK bs) → LenK bs
  | N, [], n, p, _, _ => .nil
  | 0, b :: bs, n, p, h, _ => by
    obtain ⟨k, lv, i, t, d, ti, a, l, ks⟩ := b
    rw [szK, szB] at h; omega
  | N + 1, b :: bs, n, p, h, hw => by
    obtain ⟨k, lv, i, t, d, ti, a, l, ks⟩ := b
    rw [szK, szB] at h
    rw [srcK, srcB] at hw
    cases hw with
    | cons n p k lv i t d ti a l ks' bs' h1 h2 h3 h4 h5 =>
      exact .cons _ _ _ _ _ _ _ _ _ _ (by rw [srcK_len] at h3; exact h3) (lenK_of N ks _ _ (by omega) h4) (lenK_of N bs _ _ (by omega) h5)
theorem srcK_snoc (bs : List BkT) (k : Nat) (h : k < bs.length) : srcK (bs.take (k + 1)) = srcK (bs.take k) ++ [srcB bs[k]] := by
  have hm : ∀ l : List BkT, srcK l = l.map srcB := fun l => by
    induction l with
    | nil => rfl
    | cons b l ih => rw [srcK, ih]; rfl
  rw [hm, hm, List.take_succ_eq_append_getElem h, List.map_append]; rfl
/-- Blocks in a row of the call's own; what is read of them is new or lies in S0. -/
def KRow (w : World) (base : Nat) (S0 : Nat → Prop) (v : Value) (bs : List BkT) : Prop :=
  ∃ (S : Nat → Prop) (vs : List (Array Value)), (∀ g, S g → (S0 g ∨ base ≤ g) ∧ g < w.heap.size ∧ v.ownBlock ≠ some g) ∧ RepK w S vs bs ∧ w.ownsRow base 46 11 v bs.length (vs.flatMap Array.toList)
section
variable {w w' : World} {base : Nat} {S0 : Nat → Prop} {v : Value} {bs : List BkT}
theorem KRow.nil (w : World) (base : Nat) (S0 : Nat → Prop) : KRow w base S0 (.slice none 0 0) [] := ⟨fun _ => False, [], fun _ h => h.elim, .nil, World.ownsRow_nil _ _ _ _⟩
theorem KRow.push {S T : Nat → Prop} {vs : List (Array Value)} {W1 w2 : World} {vb : Array Value} {b : BkT} {g cap H : Nat} {tmp : Obj} (hS : ∀ g, S g → (S0 g ∨ base ≤ g) ∧ g < w.heap.size ∧ v.ownBlock ≠ some g) (hk : RepK w S vs bs) (hbl : ∀ g, S g → W1.heap[g]? = w.heap[g]?) (hsz : w.heap.size ≤ W1.heap.size)
    (hT : ∀ k, T k → (S0 k ∨ base ≤ k) ∧ k < W1.heap.size ∧ v.ownBlock ≠ some k)
    (hb : RepB W1 T vb b) (hown : w2.ownsRow base 46 11 (.slice (some ⟨g, 0, none⟩) (bs.length + 1) cap) (bs.length + 1) (vs.flatMap Array.toList ++ vb.toList))
    (hgrow : (W1.alloc tmp).grownBy w2 v.ownBlock) (hlies : v.ownBlock = some g ∨ g = H) (hH : W1.heap.size ≤ H) :
    KRow w2 base S0 (.slice (some ⟨g, 0, none⟩) (bs.length + 1) cap) (bs ++ [b]) := by
  have hsz2 := hgrow.size
  have hkeep : ∀ k, k < W1.heap.size → v.ownBlock ≠ some k → w2.heap[k]? = W1.heap[k]? := fun k hk hne =>
    (hgrow.block k (by simp; omega) fun e => hne e.symm).trans (Below.heap_alloc W1 tmp k hk)
  have hne : ∀ x, x < W1.heap.size → v.ownBlock ≠ some x → (Value.slice (some ⟨g, 0, none⟩) (bs.length + 1) cap).ownBlock ≠ some x := fun x h1 h2 e => by
    have : g = x := by simpa [Value.ownBlock] using e
    subst this
    rcases hlies with hl | hl
    · exact h2 hl
    · omega
  refine ⟨fun x => S x ∨ T x, vs ++ [vb], ?_, ?_, ?_⟩
  · rintro x (hx | hx)
    · obtain ⟨h1, h2, h3⟩ := hS x hx
      exact ⟨h1, by simp at hsz2; omega, hne x (by omega) h3⟩
    · obtain ⟨h1, h2, h3⟩ := hT x hx
      exact ⟨h1, by simp at hsz2; omega, hne x h2 h3⟩
  · refine RepK.snoc (hk.keep (fun x hx => ?_) fun _ h => .inl h) (hb.keep (fun x hx => hkeep x (hT x hx).2.1 (hT x hx).2.2) fun _ h => .inr h)
    obtain ⟨h1, h2, h3⟩ := hS x hx
    exact (hkeep x (by omega) h3).trans (hbl x hx)
  · rw [List.flatMap_append, List.length_append]
    simpa using hown
theorem KRow.kids (h : KRow w base S0 v bs) : ∃ A c, v = .slice A bs.length c ∧ KidsV w (fun g => S0 g ∨ Rg base w g) (.slice A bs.length c) bs := by
  obtain ⟨S, vs, hS, hk, ho⟩ := h
  obtain ⟨A, c, rfl⟩ := own_slice ho
  exact ⟨A, c, rfl, A, c, vs, rfl, hk.keep (fun _ _ => rfl) fun g hg => (hS g hg).1.imp id fun h => ⟨h, (hS g hg).2.1⟩, (ReadsS.of_own ho).keep (fun _ _ => rfl) fun g hg => .inr hg⟩
theorem KRow.form (h : KRow w base S0 v bs) : ∃ A c, v = .slice A bs.length c := by
  obtain ⟨S, vs, hS, hk, ho⟩ := h
  exact own_slice ho
end
/-- The copy of a block in its box. -/
structure SrW (k lv : Nat) (i t d ti id : ByteArray) (v7 v8 : Value) (A4 : Option Addr) (n4 c4 : Nat) (l' : ByteArray) (wr : World) (AL : Option Addr) (nL cL : Nat) (wx : World) : Prop where
  blk : Blk wx wr.heap.size 46 #[.int .i64 k, .int .i64 lv, .string i, .string t, .string d, .string ti, .string id, v7, v8, .slice AL nL cL, .slice A4 n4 c4]
  bel : Below wr.heap.size wr wx
  src : SrcV wx (fun g => wr.heap.size < g ∧ g < wx.heap.size) (.slice AL nL cL) l'
theorem RepB.of {w : World} {S : Nat → Prop} {kind level : Nat} {info text dest title : ByteArray} {att : AttrL} {line : ByteArray} {kids : List BkT} {A1 A2 A4 : Option Addr} {c1 c2 c4 n : Nat} {vL : Value} (ha : AttR w S att A1 A2) (hl : SrcV w S vL line) (hk : KidsV w S (.slice A4 n c4) kids) :
    RepB w S #[.int .i64 kind, .int .i64 level, .string info, .string text, .string dest, .string title, .string att.id, .slice A1 att.cl.length c1, .slice A2 att.pr.length c2, vL, .slice A4 n c4] (.mk kind level info text dest title att line kids) := by
  obtain ⟨A, c, vs, e, hr, hc⟩ := hk
  injection e with e1 e2 e3
  subst e1 e2 e3
  exact .mk _ _ _ _ _ _ _ _ _ _ _ _ _ _ _ _ vs ha hl hr hc
theorem SrcV.slc {w : World} {S : Nat → Prop} {v : Value} {l : ByteArray} (h : SrcV w S v l) : ∃ A c, v = .slice A (if l.size = 0 then 0 else 1) c := by
  unfold SrcV at h
  by_cases hz : l.size = 0
  · rw [if_pos hz] at h ⊢; exact ⟨_, _, h⟩
  · rw [if_neg hz] at h ⊢
    obtain ⟨A, c, e, _⟩ := h
    exact ⟨A, c, e⟩
def SrcPost (S : Nat → Prop) (bs : List BkT) (w : World) (e : Ending) (w' : World) : Prop :=
  Below w.heap.size w w' ∧ ∃ A c, e = .returned (.slice A bs.length c) ∧ KidsV w' (fun g => S g ∨ Rg w.heap.size w' g) (.slice A bs.length c) (srcK bs)
/-- The loop's state. -/
def SrRel (S : Nat → Prop) (bs : List BkT) (w : World) (v3 v4 : Value) (wr : World) : Prop :=
  ∃ j : Nat, v4 = .int .i64 j ∧ j ≤ bs.length ∧ Below w.heap.size w wr ∧ Hid (KRow wr w.heap.size S v3 (srcK (bs.take j)))
set_option maxRecDepth 100000 in
set_option maxHeartbeats 4000000 in
theorem l_sourced : ∀ (N : Nat) (bs : List BkT), szK bs < N → LenK bs → bs.length ≤ 100 → ∀ (A : Option Addr) (n c : Nat) (S : Nat → Prop) (w : World), KidsV w S (.slice A n c) bs → (∀ g, S g → g < w.heap.size) →
    Calls Tryz.prog 20 #[.slice A n c] w (SrcPost S bs w) := by
  intro N
  induction N with
  | zero => intro bs h; exact absurd h (Nat.not_lt_zero _)
  | succ N ih =>
  intro bs hsz hlk hl100 A n c S w hK hS
  have hn : n = bs.length := by obtain ⟨A', c', vs, e, _⟩ := hK; injection e
  subst hn
  obtain ⟨i0, hi0, hz0, hz1, hz2⟩ := info_parts block_info
  have HK := Lib.hid hK
  have HS := Lib.hid hS
  have HIH := Lib.hid ih
  have HLK := Lib.hid hlk
  clear hK hS ih hlk
  go_enter Tryz.func20, Tryz.ntmps20
  go_wp2_with fail
  go_loopw [3, 4] (fun v3 v4 wr => SrRel S bs w v3 v4 wr) (fun _ v4 _ => bs.length - (intOf v4).toNat)
  case atStart => exact ⟨0, rfl, Nat.zero_le _, Below.refl _ _, Lib.hid (KRow.nil _ _ _)⟩
  case round =>
    obtain ⟨j, rfl, hj, hbw, HR⟩ := hrel
    obtain ⟨A3, c3, rfl⟩ := HR.out.form
    have hzr := hbw.size
    by_cases hlt : j < bs.length
    · have HBW := Lib.hid hbw
      have hKr : KidsV wr S (.slice A bs.length c) bs := HK.out.keep (fun g hg => hbw.block g (HS.out g hg)) fun _ h => h
      obtain ⟨g, off, c', e', hg, hcell⟩ := hKr.get (by omega)
      injection e' with e1 _ e2
      subst e1 e2
      obtain ⟨vb, hvb, hcs⟩ := hcell j hlt
      have hmem : bs[j] ∈ bs := List.getElem_mem hlt
      have HLj := Lib.hid (HLK.out.mem hmem)
      have hzj := szK_mem hmem
      have HSn := Lib.hid (srcK_snoc bs j hlt)
      have hol := Lib.hid (show (srcK (bs.take j)).length = j by rw [srcK_len, List.length_take]; omega)
      generalize srcK (bs.take j) = out at *
      generalize bs[j] = bj at *
      clear hcell hKr hmem
      have hcs' := fun i hi => hcs i hi
      cases hvb with
      | mk kind level info text dest title att line kids A1 A2 A4 c1 c2 c4 vL vs ha hl hr hc =>
      obtain ⟨AL, cL, rfl⟩ := SrcV.slc hl
      have HL0 : Hid (line.size = 0 → AL = none ∧ cL = 0) := Lib.hid fun hz => by
        unfold SrcV at hl
        rw [if_pos hz] at hl
        injection hl with e1 _ e3
        exact ⟨e1, e3⟩
      have hnl : (line.size = 0 ∧ (if line.size = 0 then 0 else 1) = 0) ∨ (line.size ≠ 0 ∧ (if line.size = 0 then 0 else 1) = 1) := by
        by_cases hz : line.size = 0
        · exact .inl ⟨hz, if_pos hz⟩
        · exact .inr ⟨hz, if_neg hz⟩
      clear hl
      generalize (if line.size = 0 then 0 else 1) = nL at *
      have HA := Lib.hid ha
      have HKd : Hid (KidsV wr S (.slice A4 kids.length c4) kids) := Lib.hid ⟨A4, c4, vs, rfl, hr, hc⟩
      have q0 : wr.cell? ⟨g, off + j * 11, none⟩ = some (.int .i64 kind) := hcs 0 (by omega)
      have q1 : wr.cell? ⟨g, off + j * 11 + 1, none⟩ = some (.int .i64 level) := hcs 1 (by omega)
      have q2 : wr.cell? ⟨g, off + j * 11 + 2, none⟩ = some (.string info) := hcs 2 (by omega)
      have q3 : wr.cell? ⟨g, off + j * 11 + 3, none⟩ = some (.string text) := hcs 3 (by omega)
      have q4 : wr.cell? ⟨g, off + j * 11 + 4, none⟩ = some (.string dest) := hcs 4 (by omega)
      have q5 : wr.cell? ⟨g, off + j * 11 + 5, none⟩ = some (.string title) := hcs 5 (by omega)
      have q6 : wr.cell? ⟨g, off + j * 11 + 6, none⟩ = some (.string att.id) := hcs 6 (by omega)
      have q7 : wr.cell? ⟨g, off + j * 11 + 7, none⟩ = some (.slice A1 att.cl.length c1) := hcs 7 (by omega)
      have q8 : wr.cell? ⟨g, off + j * 11 + 8, none⟩ = some (.slice A2 att.pr.length c2) := hcs 8 (by omega)
      have q9 : wr.cell? ⟨g, off + j * 11 + 9, none⟩ = some (.slice AL nL cL) := hcs 9 (by omega)
      have q10 : wr.cell? ⟨g, off + j * 11 + 10, none⟩ = some (.slice A4 kids.length c4) := hcs 10 (by omega)
      have HW0 : Hid (Blk (wr.alloc (.cells #[.int .i64 kind, .int .i64 level, .string info, .string text, .string dest, .string title, .string att.id, .slice A1 att.cl.length c1, .slice A2 att.pr.length c2, .slice AL nL cL, .slice A4 kids.length c4] 46)) wr.heap.size 46 #[.int .i64 kind, .int .i64 level, .string info, .string text, .string dest, .string title, .string att.id, .slice A1 att.cl.length c1, .slice A2 att.pr.length c2, .slice AL nL cL, .slice A4 kids.length c4] ∧ Below wr.heap.size wr (wr.alloc (.cells #[.int .i64 kind, .int .i64 level, .string info, .string text, .string dest, .string title, .string att.id, .slice A1 att.cl.length c1, .slice A2 att.pr.length c2, .slice AL nL cL, .slice A4 kids.length c4] 46))) := Lib.hid ⟨Blk.new _ _ _, (Below.refl _ _).alloc (Nat.le_refl _) _⟩
      clear hcs hcs' ha hr hc hbw
      go_upto_if 19 with fail
      go_cut [] (fun wx => ∃ AL' nL' cL', SrW kind level info text dest title att.id (.slice A1 att.cl.length c1) (.slice A2 att.pr.length c2) A4 kids.length c4 (if line.size = 0 then line else xT) wr AL' nL' cL' wx)
      case first =>
        obtain ⟨k0, k1, k2, k3, k4, k5, k6, k7, k8, k9, k10, y0, y1, y2, y3, y4, y5, y6, y7, y8, y9, y10⟩ := mk_facts HW0.out.1
        rcases hnl with ⟨hz, rfl⟩ | ⟨hz, rfl⟩
        · have HE := Lib.hid (HL0.out hz)
          have HZ := Lib.hid hz
          clear hz
          go_wp2_with fail
          go_meet
          refine ⟨AL, 0, cL, HW0.out.1, HW0.out.2, ?_⟩
          rw [if_pos HZ.out]
          unfold SrcV
          rw [if_pos HZ.out, HE.out.1, HE.out.2]
        · have HZ := Lib.hid hz
          clear hz
          go_wp2_with fail
          go_meet
          refine ⟨some ⟨wr.heap.size + 1, 0, none⟩, 1, 1, (Blk.new _ _ _).alloc _, ((Below.refl _ _).alloc (Nat.le_refl _) _).alloc (by simp) _, ?_⟩
          rw [if_neg HZ.out]
          unfold SrcV
          rw [if_neg (by decide)]
          refine ⟨_, _, rfl, ReadsS.block (t := 55) (cs := #[.int .i64 1, .string ⟨#[120]⟩, .string ⟨#[]⟩, .string ⟨#[]⟩, .string ⟨#[]⟩, .slice none 0 0, .slice none 0 0, .slice none 0 0, .slice none 0 0, .slice none 0 0]) ?_ ⟨Nat.lt_succ_self _, by simp⟩ rfl (by decide)⟩
          have := heap_alloc_new (wr.alloc (.cells #[.int .i64 kind, .int .i64 level, .string info, .string text, .string dest, .string title, .string att.id, .slice A1 att.cl.length c1, .slice A2 att.pr.length c2, .slice (some ⟨wr.heap.size + 1, 0, none⟩) 1 1, .slice A4 kids.length c4] 46)) (.cells #[.int .i64 1, .string ⟨#[120]⟩, .string ⟨#[]⟩, .string ⟨#[]⟩, .string ⟨#[]⟩, .slice none 0 0, .slice none 0 0, .slice none 0 0, .slice none 0 0, .slice none 0 0] 55)
          rw [World.size_alloc] at this
          exact this
      case rest =>
      rename World => wx
      obtain ⟨AL', nL', cL', hx⟩ := hcut
      have hwx := hx.bel
      have hzx : wr.heap.size < wx.heap.size := hx.blk.lt
      have HX := Lib.hid hx
      obtain ⟨k0, k1, k2, k3, k4, k5, k6, k7, k8, k9, k10, y0, y1, y2, y3, y4, y5, y6, y7, y8, y9, y10⟩ := mk_facts hx.blk
      have HC : Hid (Calls Tryz.prog 20 #[.slice A4 kids.length c4] wx (SrcPost S kids wx)) := Lib.hid (HIH.out kids (by have : szK kids < szK bs := hzj; omega) HLj.out.2 HLj.out.1 A4 kids.length c4 S wx (HKd.out.keep (fun g hg => hwx.block g (by have := HS.out g hg; omega)) fun _ h => h) (fun g hg => by have := HS.out g hg; omega))
      clear HW0 HIH hx q0 q1 q2 q3 q4 q5 q6 q7 q8 q9 q10
      go_wp2_with fail
      ((with_reducible refine (HC.out).mono ?_))
      rintro e w2 ⟨b2, A5, c5, rfl, hk5⟩
      have hz2' := b2.size
      have hblk2 := HX.out.blk.below b2 HX.out.blk.lt
      obtain ⟨l0, l1, l2, l3, l4, l5, l6, l7, l8, l9, l10, u0, u1, u2, u3, u4, u5, u6, u7, u8, u9, u10⟩ := mk_facts hblk2
      have hblk3 := hblk2.set_ 10 (.slice A5 kids.length c5)
      obtain ⟨m0, m1, m2, m3, m4, m5, m6, m7, m8, m9, m10, x0, x1, x2, x3, x4, x5, x6, x7, x8, x9, x10⟩ := mk_facts (x10 := .slice A5 kids.length c5) hblk3
      obtain ⟨Sr, vsr, hSr, hkr, hown⟩ := HR.out
      have hb12 : Below wr.heap.size wr w2 := hwx.trans (b2.mono (by omega))
      have hrow := hown.lt
      have hown2 := own_below hown hb12
      have hneB : (Value.slice A3 out.length c3).ownBlock ≠ some wr.heap.size := fun e => by have := hrow _ e; omega
      have hown3 := hown2.kept (only_store (only_refl w2 (some wr.heap.size)) 10 (.slice A5 kids.length c5)) (.inr hneB)
      have hab : AnyB #[.int .i64 kind, .int .i64 level, .string info, .string text, .string dest, .string title, .string att.id, .slice A1 att.cl.length c1, .slice A2 att.pr.length c2, .slice AL' nL' cL', .slice A5 kids.length c5] := ⟨_, _, _, _, _, _, _, _, _, _, _, _, _, _, _, _, _, _, _, rfl⟩
      have hkeep : ∀ g, g < w2.heap.size → g ≠ wr.heap.size → (w2.setCell ⟨wr.heap.size, 10, none⟩ (.slice A5 kids.length c5)).heap[g]? = w2.heap[g]? := fun g _ h2 => Below.heap_setCell w2 ⟨wr.heap.size, 10, none⟩ _ g h2
      have HREP : Hid (RepB (w2.setCell ⟨wr.heap.size, 10, none⟩ (.slice A5 kids.length c5)) (fun k => S k ∨ (wr.heap.size < k ∧ k < w2.heap.size)) #[.int .i64 kind, .int .i64 level, .string info, .string text, .string dest, .string title, .string att.id, .slice A1 att.cl.length c1, .slice A2 att.pr.length c2, .slice AL' nL' cL', .slice A5 kids.length c5] (srcB (.mk kind level info text dest title att line kids))) := Lib.hid (by
        rw [srcB]
        refine RepB.of (HA.out.keep (fun g hg => ?_) fun g hg => .inl hg) (HX.out.src.keep (fun g hg => ?_) fun g hg => .inr ⟨hg.1, by omega⟩) (hk5.keep (fun g hg => ?_) fun g hg => hg.imp id fun h => ⟨by have := h.1; omega, h.2⟩)
        · have := HS.out g hg
          exact (hkeep g (by omega) (by omega)).trans (hb12.block g (by omega))
        · exact (hkeep g (by omega) (by omega)).trans (b2.block g hg.2)
        · rcases hg with hg | hg
          · have := HS.out g hg
            exact hkeep g (by omega) (by omega)
          · have := hg.1
            exact hkeep g hg.2 (by omega))
      have HSR := Lib.hid hSr
      have HKR := Lib.hid hkr
      have HB12 := Lib.hid hb12
      have HKP := Lib.hid hkeep
      have hb3 := (HBW.out.trans (hb12.mono hzr)).setCell (p := ⟨wr.heap.size, 10, none⟩) hzr (.slice A5 kids.length c5)
      have HB3 := Lib.hid hb3
      clear hSr hkr hown hown2 hb12 hkeep hb3 hk5 b2 hblk2 hblk3 HC hwx k0 k1 k2 k3 k4 k5 k6 k7 k8 k9 k10 y0 y1 y2 y3 y4 y5 y6 y7 y8 y9 y10
      go_wp2_with (at_builtin; refine wpList_append_lies _ rfl _ _ 25 rfl w.heap.size 46 i0 _ 11 192 Tryz.underlying25 hi0 hz0 hz1 hz2 rfl (by decide) _ _ _ rfl (hown3.alloc _) ⟨w2.heap.size, 0, none⟩ 1 1 _ rfl hab.len ?c1 hab.one (by decide) ?c3 ?c4 ?c5 (w2.heap.size + 1) ?c6 ?_)
      case c3 => have := hol.out; unfold maxLen; omega
      case c4 => have := hol.out; omega
      case c5 => simp; omega
      case c6 => simp
      intro g7 cap7 w4 hown4 hgrow hlies hlt4
      have HR4 := Lib.hid (KRow.push (T := fun k => S k ∨ (wr.heap.size < k ∧ k < w2.heap.size)) HSR.out HKR.out (fun g hg => by
          have := HSR.out g hg
          have h2 := HB12.out.size
          exact (HKP.out g (by omega) (by omega)).trans (HB12.out.block g this.2.1)) (by have := HB12.out.size; simpa using this)
        (fun k hk => by
          have h2 := HB12.out.size
          rcases hk with hk | hk
          · have := HS.out k hk
            exact ⟨.inl hk, by simp; omega, fun e => by have := hrow k e; omega⟩
          · exact ⟨.inr (by omega), by simpa using hk.2, fun e => by have := hrow k e; omega⟩) HREP.out hown4 hgrow hlies (by simp))
      have hb4 := (HB3.out.alloc HB3.out.size (.cells #[.int .i64 kind, .int .i64 level, .string info, .string text, .string dest, .string title, .string att.id, .slice A1 att.cl.length c1, .slice A2 att.pr.length c2, .slice AL' nL' cL', .slice A5 kids.length c5] 46)).grown hgrow (by have := HB3.out.size; simp at this ⊢; omega) (fun k hk => (hrow k hk).1)
      have HB4 := Lib.hid hb4
      clear hown4 hgrow hlies hown3 hb4 HREP
      go_wp2_with fail
      go_roundw
      case rel => exact ⟨j + 1, by go_num, by omega, HB4.out, Lib.hid (by rw [HSn.out]; exact HR4.out)⟩
      case measure => simp [intOf]; omega
    · have hjl : j = bs.length := by omega
      subst hjl
      go_wp2_with fail
      go_ret
      refine ⟨hbw, ?_⟩
      have h := HR.out
      rw [List.take_length] at h
      obtain ⟨A', c', e', hk'⟩ := h.kids
      rw [srcK_len] at e' hk'
      injection e' with e1 _ e3
      subst e1 e3
      refine ⟨A3, c3, ?_, hk'⟩
      show Ending.returned (Value.slice A3 (srcK (List.take bs.length bs)).length c3) = _
      rw [List.take_length, srcK_len]

end Go.Proofs.YtpoafhgbhnblmaaGreatDoor
namespace Go.Pub
open Go.RowKit Go.WideShapes Go.ChangeShapes
section
variable {H : Type} {enc : TypeId × Value → H} {P : Program}
theorem post_of_below {f : Func} {s : ChangeSpec} {apart fresh handsOn again : Bool} {W W' : World} {args : Array Value} {v : Value} {ds gs : List (DataW H)} {before pa pv : List MemPlace}
    (hW : DataW.Whole enc P f.params.toList s.vars apart W args.toList ds gs before)
    (hres : ∀ (b : Nat) (sp : Nat → Bool) (hd : Bool), DataW.TrodAll enc P W' b sp hd f.resultTypes.toList (v.resultList f.resultTypes.size) (s.fn H (ds ++ gs)).results [])
    (hargs : ∀ sp : Nat → Bool, (∀ p ∈ before, sp p.block = true) → DataW.TrodAll enc P W' 0 sp true f.params.toList args.toList (s.fn H (ds ++ gs)).args pa)
    (hvars : ∀ sp : Nat → Bool, (∀ p ∈ before, sp p.block = true) → DataW.TrodVars enc P W' sp s.vars (s.fn H (ds ++ gs)).vars pv)
    (hps : before = pa ++ pv) (hb : Below W.heap.size W W')
    (hok : ∀ (j : Nat) (t : TypeId) (r : Value), f.resultTypes[j]? = some t → (v.resultList f.resultTypes.size)[j]? = some r → Value.okWide P W' .any 0 t r) :
    s.post enc P f apart fresh handsOn again W args v W' := by
  have hlt : ∀ p ∈ before, p.block < W.heap.size := fun p hp => hW.lt p hp
  have hold : ∀ p ∈ before, (fun b => decide (b < W.heap.size)) p.block = true := fun p hp => by simpa using hlt p hp
  refine ⟨ds, gs, before, [], pa, pv, hW, hres _ _ _, hargs _ hold, hvars _ hold, World.keptBut_mono (fun p hp => ⟨hp, ?_⟩) (hb.frame (· ∈ before)), fun _ => ?_⟩
  · rw [hps, List.mem_append] at hp
    exact Or.inr hp
  · obtain ⟨_, _, _, _, _, hz, hn⟩ := hW
    refine ⟨hok, _, _, ([] ++ pa) ++ pv, ⟨[] ++ pa, pv, trodAll_append (hargs _ (fun _ _ => rfl)) (hres _ _ _), hvars _ (fun _ _ => rfl), rfl, ?_, ?_⟩, ?_⟩
    · intro b off hp
      have hin : MemPlace.cell b off ∈ before := by rw [hps]; simpa using hp
      rw [hb.frozen (hlt _ hin)]
      exact hz b off hin
    · intro ha
      have := hn ha
      rw [hps] at this
      simpa using this
    · intro p hp _
      rw [hps]
      simpa using hp
end
end Go.Pub
namespace Go.Proofs.YtpoafhgbhnblmaaGreatDoor
open Go.RowKit Go.Pub Go.ChangeShapes Go.WideShapes
set_option maxRecDepth 100000 in
theorem open_strsC {H : Type} {enc : TypeId × Value → H} {W : World} {r : Reach} {b0 : Nat} {v : Value} {d : DataW H} {p : List MemPlace} (hv : Value.okWide Tryz.prog W r b0 22 v) (h : DataW.Trod enc Tryz.prog W 0 (fun _ => true) true 22 v d p) :
    ∃ zs A c, v = .slice A zs.length c ∧ Reads W W.heap.size 1 A zs.length (Pub.strs zs) ∧ zs.length ≤ maxLen ∧ (∀ x ∈ zs, x.size ≤ maxLen) ∧ zs.length ≤ c ∧ c ≤ maxLen := by
  obtain ⟨a0, len0, cap0, rfl⟩ := okWide_slice Tryz.underlying22 hv
  obtain ⟨fuel, hf⟩ := h
  rcases open_strings Tryz.underlying22 Tryz.underlying9 (by kernel_rfl) hf with ⟨e1, -⟩ | ⟨ad, len, cap, ss, e1, -, hl, hm, hlen, -, hc, hsz⟩
  · have e1 : [Value.slice a0 len0 cap0] = [.slice none 0 0] := e1
    injection e1 with e1 _
    exact ⟨[], none, 0, e1, Reads.none_, Nat.zero_le _, fun x hx => absurd hx (by simp), Nat.le_refl _, Nat.zero_le _⟩
  · have e1 : [Value.slice a0 len0 cap0] = [.slice (some ad) len cap] := e1
    injection e1 with e1 _
    simp at hlen
    have hlt : (ss.take len).length = len := by rw [List.length_take]; omega
    refine ⟨ss.take len, some ad, cap, by rw [hlt]; exact e1, ⟨by rw [hlt, strs_len, hlt]; omega, fun hn => ⟨ad, rfl, ?_, fun j u hu => ?_⟩⟩, by omega, fun x hx => hsz x (List.mem_of_mem_take hx), by rw [hlt]; exact hl, hm⟩
    · have := World.block_lt_of_cell? W _ (hc 0 (by omega))
      rwa [block_of_add] at this
    · have hj : j < (Pub.strs (ss.take len)).length := (List.getElem?_eq_some_iff.1 hu).1
      rw [strs_len] at hj
      rw [strs_at _ j hj] at hu
      injection hu with hu
      subst hu
      have := hc j (by omega)
      rw [this]
      simp [List.getD_eq_getElem?_getD, List.getElem?_eq_getElem (show j < ss.length by omega)]

end Go.Proofs.YtpoafhgbhnblmaaGreatDoor
