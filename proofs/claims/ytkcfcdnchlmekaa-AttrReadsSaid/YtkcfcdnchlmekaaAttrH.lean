/-
  attr.Parse.
-/
import Derived.Test.YtkcfcdnchlmekaaAttrG
import Derived.Outline
set_option linter.unusedVariables false
set_option linter.unusedSimpArgs false
namespace Go.Proofs.Ytkcfcdnchlmekaa
open Go.RowKit Go.Pub

def emptyA : AttrL := ⟨⟨#[]⟩, [], []⟩
def parseF (s : ByteArray) : Nat → Nat → Bool → AttrL → AttrL × Nat × Nat
  | 0, _, _, _ => (emptyA, 0, 5)
  | f + 1, i, sep, a =>
    if i < s.size then
      (if bt s i = 125 then (a, i + 1, 0)
       else if sep = false then (emptyA, 0, 5)
       else if (itemL a s i).2.1 = 0 then parseF s f (spAt s (itemL a s i).1) (decide ((itemL a s i).1 < spAt s (itemL a s i).1)) (itemL a s i).2.2
       else (emptyA, 0, (itemL a s i).2.1))
    else (emptyA, 0, 5)
/-- What Parse gives: the attributes, the place behind them, the error. -/
def parseL (s : ByteArray) (i : Int) : AttrL × Nat × Nat :=
  if 0 ≤ i ∧ i < s.size ∧ bt s i.toNat = 123 then parseF s (s.size + 1) (spAt s (i.toNat + 1)) true emptyA else (emptyA, 0, 5)

structure AttrVal (w : World) (base : Nat) (v : Value) (a : AttrL) : Prop where
  val : ∃ vC vP, v = .agg #[.string a.id, vC, vP] ∧ w.ownsRow base 9 1 vC a.cl.length (strs a.cl) ∧ w.ownsRow base 42 2 vP a.pr.length (prs a.pr)
  c32 : a.cl.length ≤ 32
  p32 : a.pr.length ≤ 32

def ParsePost (r : AttrL × Nat × Nat) (w : World) (e : Ending) (w' : World) : Prop :=
  ∃ v, e = .returned (.tuple #[v, .int .i64 r.2.1, .int .i64 r.2.2]) ∧ AttrVal w' w.heap.size v r.1 ∧ Below w.heap.size w w'

/-- What stands in memory at the head of Parse's loop. -/
structure PInv (s : ByteArray) (w : World) (k : Nat) (a : AttrL) (wr : World) : Prop where
  str : Blk wr w.heap.size 9 #[.string s]
  res : Blk wr (w.heap.size + 1) 27 #[.string ⟨#[]⟩, .slice none 0 0, .slice none 0 0]
  plc : Blk wr (w.heap.size + 1 + 1 + 1) 3 #[.int .i64 k]
  att : AttrAt wr (w.heap.size + 1 + 1) (w.heap.size + 1 + 1 + 1 + 1) a
  bel : Below w.heap.size w wr
theorem pinv_start (s : ByteArray) (w : World) (n : Nat) : PInv s w (n + 1) emptyA ((((w.alloc (.cells #[.string s] 9)).alloc (.cells #[.string ⟨#[]⟩, .slice none 0 0, .slice none 0 0] 27)).alloc (.cells #[.string ⟨#[]⟩, .slice none 0 0, .slice none 0 0] 27)).alloc (.cells #[.int .i64 ((n : Int) + 1)] 3)) := by
  refine ⟨(((Blk.new _ _ _).alloc _).alloc _).alloc _, ?_, ?_, ⟨.slice none 0 0, .slice none 0 0, ?_, World.ownsRow_nil _ _ _ _, World.ownsRow_nil _ _ _ _, by omega, by simp, by decide, by decide⟩, ?_⟩
  · have := ((Blk.new (w.alloc (.cells #[.string s] 9)) 27 #[.string ⟨#[]⟩, .slice none 0 0, .slice none 0 0]).alloc (.cells #[.string ⟨#[]⟩, .slice none 0 0, .slice none 0 0] 27)).alloc (.cells #[.int .i64 ((n : Int) + 1)] 3)
    simpa using this
  · have := Blk.new (((w.alloc (.cells #[.string s] 9)).alloc (.cells #[.string ⟨#[]⟩, .slice none 0 0, .slice none 0 0] 27)).alloc (.cells #[.string ⟨#[]⟩, .slice none 0 0, .slice none 0 0] 27)) 3 #[.int .i64 ((n : Int) + 1)]
    rw [nat_succ]
    simpa using this
  · have := (Blk.new ((w.alloc (.cells #[.string s] 9)).alloc (.cells #[.string ⟨#[]⟩, .slice none 0 0, .slice none 0 0] 27)) 27 #[.string ⟨#[]⟩, .slice none 0 0, .slice none 0 0]).alloc (.cells #[.int .i64 ((n : Int) + 1)] 3)
    show Blk _ _ _ #[.string ⟨#[]⟩, .slice none 0 0, .slice none 0 0]
    simpa using this
  · exact ((((Below.refl _ _).alloc (Nat.le_refl _) _).alloc (by simp) _).alloc (by simp; omega) _).alloc (by simp; omega) _
theorem own_only {w w' : World} {base size n g : Nat} {e : TypeId} {v : Value} {xs : List Value} (h : w.ownsRow base e size v n xs) (hg : w.grownBy w' (some g)) (hlt : g < base) : w'.ownsRow base e size v n xs :=
  h.kept hg (by
    cases hv : v.ownBlock with
    | none => exact Or.inl rfl
    | some b =>
      right
      intro e0
      have := (h.lt b hv).1
      injection e0 with e0
      omega)
theorem pinv_spaces {s : ByteArray} {w wr w1 : World} {k k1 : Nat} {a : AttrL} (h : PInv s w k a wr) (hb : Blk w1 (w.heap.size + 1 + 1 + 1) 3 #[.int .i64 k1]) (hg : wr.grownBy w1 (some (w.heap.size + 1 + 1 + 1))) : PInv s w k1 a w1 := by
  obtain ⟨vC, vP, hA⟩ := h.att
  refine ⟨h.str.grown hg (by simp; omega), h.res.grown hg (by simp), hb, ⟨vC, vP, hA.blk.grown hg (by simp), own_only hA.cls hg (by omega), own_only hA.prs hg (by omega), hA.lt, Nat.le_trans hA.le hg.size, hA.c32, hA.p32⟩, ?_⟩
  exact h.bel.grown hg h.bel.size (fun k hk => by injection hk with hk; omega)
theorem pinv_item {s : ByteArray} {w wr w1 : World} {k k1 : Nat} {a a1 : AttrL} (h : PInv s w k a wr) (hA : AttrAt w1 (w.heap.size + 1 + 1) (w.heap.size + 1 + 1 + 1 + 1) a1) (hg : BelowBut (w.heap.size + 1 + 1) (w.heap.size + 1 + 1 + 1 + 1) wr w1) :
    PInv s w k1 a1 (w1.setCell ⟨w.heap.size + 1 + 1 + 1, 0, none⟩ (.int .i64 k1)) := by
  obtain ⟨vC, vP, hA⟩ := hA
  refine ⟨(hg.blk h.str (by omega) (by omega)).far (by simp; omega) _, (hg.blk h.res (by omega) (by omega)).far (by simp) _, ?_, ⟨vC, vP, hA.blk.far (by simp) _, ownsRow_setCell_below hA.cls (by simp) _, ownsRow_setCell_below hA.prs (by simp) _, hA.lt, by simpa [World.setCell] using hA.le, hA.c32, hA.p32⟩, ?_⟩
  · have := (hg.blk h.plc (by omega) (by omega)).set_ 0 (.int .i64 k1)
    simpa using this
  · exact (h.bel.trans (hg.below (by omega) (by omega))).setCell (by simp; omega) _

theorem parseF_end (s : ByteArray) (f k : Nat) (b : Bool) (a : AttrL) (h : ¬ k < s.size) : parseF s f k b a = (emptyA, 0, 5) := by
  cases f with
  | zero => rfl
  | succ f => unfold parseF; rw [if_neg h]
theorem parseF_close (s : ByteArray) (f k : Nat) (b : Bool) (a : AttrL) (h : k < s.size) (hf : s.size < k + f) (hb : bt s k = 125) : parseF s f k b a = (a, k + 1, 0) := by
  obtain ⟨g, rfl⟩ : ∃ g, f = g + 1 := ⟨f - 1, by omega⟩
  unfold parseF; rw [if_pos h, if_pos hb]
theorem parseF_tight (s : ByteArray) (f k : Nat) (a : AttrL) (h : k < s.size) (hb : bt s k ≠ 125) : parseF s f k false a = (emptyA, 0, 5) := by
  cases f with
  | zero => rfl
  | succ f => unfold parseF; rw [if_pos h, if_neg hb, if_pos rfl]
theorem parseF_bad (s : ByteArray) (f k : Nat) (a : AttrL) (h : k < s.size) (hf : s.size < k + f) (hb : bt s k ≠ 125) (he : (itemL a s k).2.1 ≠ 0) : parseF s f k true a = (emptyA, 0, (itemL a s k).2.1) := by
  obtain ⟨g, rfl⟩ : ∃ g, f = g + 1 := ⟨f - 1, by omega⟩
  unfold parseF; rw [if_pos h, if_neg hb, if_neg (by decide), if_neg he]
theorem parseF_next (s : ByteArray) (f k : Nat) (a : AttrL) (h : k < s.size) (hf : s.size < k + f) (hb : bt s k ≠ 125) (he : (itemL a s k).2.1 = 0) : parseF s f k true a = parseF s (f - 1) (spAt s (itemL a s k).1) (decide ((itemL a s k).1 < spAt s (itemL a s k).1)) (itemL a s k).2.2 := by
  obtain ⟨g, rfl⟩ : ∃ g, f = g + 1 := ⟨f - 1, by omega⟩
  rw [Nat.add_sub_cancel, parseF, if_pos h, if_neg hb, if_neg (by decide), if_pos he]
theorem pinv_fail {s : ByteArray} {w wr : World} {k : Nat} {a : AttrL} (h : PInv s w k a wr) :
    Blk (((wr.setCell ⟨w.heap.size + 1, 0, none⟩ (.string ⟨#[]⟩)).setCell ⟨w.heap.size + 1, 1, none⟩ (.slice none 0 0)).setCell ⟨w.heap.size + 1, 2, none⟩ (.slice none 0 0)) (w.heap.size + 1) 27 #[.string ⟨#[]⟩, .slice none 0 0, .slice none 0 0] ∧
    AttrVal (((wr.setCell ⟨w.heap.size + 1, 0, none⟩ (.string ⟨#[]⟩)).setCell ⟨w.heap.size + 1, 1, none⟩ (.slice none 0 0)).setCell ⟨w.heap.size + 1, 2, none⟩ (.slice none 0 0)) w.heap.size (.agg #[.string ⟨#[]⟩, .slice none 0 0, .slice none 0 0]) emptyA ∧
    Below w.heap.size w (((wr.setCell ⟨w.heap.size + 1, 0, none⟩ (.string ⟨#[]⟩)).setCell ⟨w.heap.size + 1, 1, none⟩ (.slice none 0 0)).setCell ⟨w.heap.size + 1, 2, none⟩ (.slice none 0 0)) := by
  refine ⟨?_, ⟨⟨_, _, rfl, World.ownsRow_nil _ _ _ _, World.ownsRow_nil _ _ _ _⟩, by decide, by decide⟩, ((h.bel.setCell (by simp) _).setCell (by simp) _).setCell (by simp) _⟩
  have := ((h.res.set_ 0 (.string ⟨#[]⟩)).set_ 1 (.slice none 0 0)).set_ 2 (.slice none 0 0)
  simpa using this
theorem own_base {w : World} {base base' size n : Nat} {e : TypeId} {v : Value} {xs : List Value} (h : w.ownsRow base e size v n xs) (hb : base' ≤ base) : w.ownsRow base' e size v n xs := by
  obtain ⟨h1, h2⟩ := h
  refine ⟨h1, ?_⟩
  rcases h2 with h2 | ⟨g, cap, cur, hv, hg, r⟩
  · exact Or.inl h2
  · exact Or.inr ⟨g, cap, cur, hv, by omega, r⟩
theorem pinv_done {s : ByteArray} {w wr : World} {k : Nat} {a : AttrL} {vC vP : Value} (h : PInv s w k a wr) (hA : AttrCells wr (w.heap.size + 1 + 1) (w.heap.size + 1 + 1 + 1 + 1) a vC vP) :
    Blk (((wr.setCell ⟨w.heap.size + 1, 0, none⟩ (.string a.id)).setCell ⟨w.heap.size + 1, 1, none⟩ vC).setCell ⟨w.heap.size + 1, 2, none⟩ vP).drew (w.heap.size + 1) 27 #[.string a.id, vC, vP] ∧
    AttrVal (((wr.setCell ⟨w.heap.size + 1, 0, none⟩ (.string a.id)).setCell ⟨w.heap.size + 1, 1, none⟩ vC).setCell ⟨w.heap.size + 1, 2, none⟩ vP).drew w.heap.size (.agg #[.string a.id, vC, vP]) a ∧
    Below w.heap.size w (((wr.setCell ⟨w.heap.size + 1, 0, none⟩ (.string a.id)).setCell ⟨w.heap.size + 1, 1, none⟩ vC).setCell ⟨w.heap.size + 1, 2, none⟩ vP).drew := by
  refine ⟨?_, ⟨⟨_, _, rfl, ?_, ?_⟩, hA.c32, hA.p32⟩, (((h.bel.setCell (by simp) _).setCell (by simp) _).setCell (by simp) _).drew⟩
  · have := ((h.res.set_ 0 (.string a.id)).set_ 1 vC).set_ 2 vP
    simp at this
    exact this
  · exact own_base (ownsRow_setCell_below (ownsRow_setCell_below (ownsRow_setCell_below hA.cls (by simp) _) (by simp) _) (by simp) _) (by omega)
  · exact own_base (ownsRow_setCell_below (ownsRow_setCell_below (ownsRow_setCell_below hA.prs (by simp) _) (by simp) _) (by simp) _) (by omega)
theorem nameAt_pos (s : ByteArray) (i : Nat) (hi : i ≤ s.size) (h : nameB (nameAt s i) = true) : i < wordAt s i ∧ wordAt s i ≤ s.size := by
  have hwb := wEnd_bd s (s.size - i) i
  have hw1 : i ≤ wordAt s i := hwb.1
  have hw2 : wordAt s i ≤ s.size := hwb.2 hi
  unfold nameB at h
  simp only [Bool.and_eq_true, decide_eq_true_eq] at h
  have := h.1.1.1
  unfold nameAt at this
  rw [extract_size s i _ hw1 hw2] at this
  exact ⟨by omega, hw2⟩
theorem valL_bd (s : ByteArray) (i : Nat) (hi : i ≤ s.size) (h : (valL s i).2.2 = true) : i ≤ (valL s i).2.1 ∧ (valL s i).2.1 ≤ s.size := by
  unfold valL at h ⊢
  by_cases c : i < s.size ∧ bt s i = 34
  · rw [if_pos c] at h ⊢
    cases hq : qv s s.size (i + 1) [] with
    | none => rw [hq] at h; cases h
    | some p =>
      obtain ⟨l, j⟩ := p
      have := qv_len s _ _ _ l j hq
      show i ≤ j ∧ j ≤ s.size
      omega
  · rw [if_neg c] at h ⊢
    have hwb := wEnd_bd s (s.size - i) i
    exact ⟨hwb.1, hwb.2 hi⟩
theorem itemL_bd (a : AttrL) (s : ByteArray) (i : Nat) (hi : i < s.size) (he : (itemL a s i).2.1 = 0) : i < (itemL a s i).1 ∧ (itemL a s i).1 ≤ s.size := by
  unfold itemL at he ⊢
  by_cases c1 : bt s i = 35
  · rw [if_pos c1] at he ⊢
    by_cases c2 : nameB (nameAt s (i + 1)) = true
    · rw [if_pos c2] at he ⊢
      have := nameAt_pos s (i + 1) (by omega) c2
      by_cases c3 : a.id = ⟨#[]⟩
      · rw [if_pos c3]; exact ⟨by show i < wordAt s (i + 1); omega, this.2⟩
      · rw [if_neg c3] at he; cases he
    · rw [if_neg c2] at he; cases he
  · rw [if_neg c1] at he ⊢
    by_cases c4 : bt s i = 46
    · rw [if_pos c4] at he ⊢
      by_cases c2 : nameB (nameAt s (i + 1)) = true
      · rw [if_pos c2]
        have := nameAt_pos s (i + 1) (by omega) c2
        exact ⟨by show i < wordAt s (i + 1); omega, this.2⟩
      · rw [if_neg c2] at he; cases he
    · rw [if_neg c4] at he ⊢
      by_cases c2 : nameB (nameAt s i) = true
      · rw [if_pos c2] at he ⊢
        have hn := nameAt_pos s i (by omega) c2
        unfold pairItem at he ⊢
        by_cases c5 : wordAt s i < s.size ∧ bt s (wordAt s i) = 61
        · rw [if_pos c5] at he ⊢
          by_cases c6 : (valL s (wordAt s i + 1)).2.2 = true
          · rw [if_pos c6]
            have := valL_bd s (wordAt s i + 1) (by omega) c6
            exact ⟨by show i < (valL s (wordAt s i + 1)).2.1; omega, this.2⟩
          · rw [if_neg c6] at he; cases he
        · rw [if_neg c5] at he; cases he
      · rw [if_neg c2] at he; cases he
theorem parse_ret {W : World} {g : Nat} {x y z a5 a6 : Value} {P : Ending → World → Prop} {act : Act} (hr : Blk W g 27 #[x, y, z]) (h4 : act.tmps.getD 4 undef = .pointer (some ⟨g, 0, none⟩))
    (h5 : act.tmps.getD 5 undef = a5) (h6 : act.tmps.getD 6 undef = a6) (hd : act.defers = []) (hP : P (.returned (.tuple #[.agg #[x, y, z], a5, a6])) W) : bodyPost Try.prog Try.f18 P Exit.ret act W := by
  have c0 : W.cell? ⟨g, 0, none⟩ = some x := hr.cell 0
  have c1 : W.cell? ⟨g, 1, none⟩ = some y := hr.cell 1
  have c2 : W.cell? ⟨g, 2, none⟩ = some z := hr.cell 2
  refine bodyPost_ret (v := .tuple #[.agg #[x, y, z], a5, a6]) ?_ hd hP
  rw [Array.getD_eq_getD_getElem?] at h4 h5 h6
  simp [results, Try.results18, go_sem, h4, h5, h6, c0, c1, c2]

set_option maxRecDepth 100000 in
set_option maxHeartbeats 2000000 in
theorem parse_in (w : World) (s : ByteArray) (n : Nat) (hs : s.size ≤ 1000000) (hn : n < s.size) (hb : bt s n = 123) :
    Calls Try.prog 18 #[.string s, .int .i64 n] w (ParsePost (parseF s (s.size + 1) (spAt s (n + 1)) true emptyA) w) := by
  have hlt : ((s[n].toNat : Nat) : Int) < 256 := by rw [get_bt s n hn]; have := bt_lt s n; omega
  have z1 : (((s[n].toNat : Nat) : Int) != 123) = false := by rw [get_bt s n hn, hb]; rfl
  have d1 : decide (s.size ≤ n) = false := decide_eq_false (by omega)
  clear hb
  have HS := Lib.hid (pinv_start s w n)
  have hsb := spEnd_bd s (s.size - (n + 1)) (n + 1)
  have hsb1 : n + 1 ≤ spAt s (n + 1) := hsb.1
  have hsb2 : spAt s (n + 1) ≤ s.size := hsb.2 (by omega)
  clear hsb
  generalize hR : parseF s (s.size + 1) (spAt s (n + 1)) true emptyA = R at *
  have HR := Lib.hid hR
  clear hR
  go_enter Try.func18, Try.ntmps18
  go_wp2_with fail
  refine (spaces_any _ s (n + 1) w.heap.size (w.heap.size + 1 + 1 + 1) hs HS.out.str HS.out.plc (by omega) (by omega)).mono ?_
  rintro e w1 ⟨rfl, hk1, hg1⟩
  have HP := Lib.hid (pinv_spaces HS.out hk1 hg1)
  clear hk1 hg1
  go_wp2_with fail
  go_loopw [11] (fun sep wr => ∃ (k f : Nat) (b : Bool) (a : AttrL), sep = .bool b ∧ Hid (PInv s w k a wr) ∧ Hid (parseF s f k b a = R) ∧ s.size < k + f ∧ k ≤ s.size) (fun _ wr => s.size - cellNat wr (w.heap.size + 1 + 1 + 1))
  case atStart => exact ⟨spAt s (n + 1), s.size + 1, true, emptyA, rfl, HP, HR, by omega, hsb2⟩
  case round =>
    obtain ⟨k, f, b, a, rfl, KP, KR, hkf, hks⟩ := hrel
    have c1 : wr.cell? ⟨w.heap.size, 0, none⟩ = some (.string s) := KP.out.str.cell 0
    have c2 : wr.cell? ⟨w.heap.size + 1 + 1 + 1, 0, none⟩ = some (.int .i64 k) := KP.out.plc.cell 0
    have r0 : wr.cell? ⟨w.heap.size + 1, 0, none⟩ = some (.string ⟨#[]⟩) := KP.out.res.cell 0
    have r1 : wr.cell? ⟨w.heap.size + 1, 1, none⟩ = some (.slice none 0 0) := KP.out.res.cell 1
    have r2 : wr.cell? ⟨w.heap.size + 1, 2, none⟩ = some (.slice none 0 0) := KP.out.res.cell 2
    have q0 := KP.out.res.frozen 0
    have q1 := KP.out.res.frozen 1
    have q2 := KP.out.res.frozen 2
    by_cases hk : k < s.size
    · have hlk : ((s[k].toNat : Nat) : Int) < 256 := by rw [get_bt s k hk]; have := bt_lt s k; omega
      have dk : decide (s.size ≤ k) = false := decide_eq_false (by omega)
      by_cases h125 : bt s k = 125
      · have z2 : (((s[k].toNat : Nat) : Int) == 125) = true := by rw [get_bt s k hk, h125]; rfl
        have hT : Hid (R = (a, k + 1, 0)) := Lib.hid (by rw [← KR.out, parseF_close s f k b a hk hkf h125])
        obtain ⟨vC, vP, hA⟩ := KP.out.att
        have KA := Lib.hid hA
        have a0 : wr.cell? ⟨w.heap.size + 1 + 1, 0, none⟩ = some (.string a.id) := hA.blk.cell 0
        have a1 : wr.cell? ⟨w.heap.size + 1 + 1, 1, none⟩ = some vC := hA.blk.cell 1
        have a2 : wr.cell? ⟨w.heap.size + 1 + 1, 2, none⟩ = some vP := hA.blk.cell 2
        obtain ⟨AC, cC, rfl⟩ := own_slice hA.cls
        obtain ⟨AP, cP, rfl⟩ := own_slice hA.prs
        clear h125 hA
        have hfin := Lib.hid (pinv_done KP.out KA.out)
        go_wp2
        go_region
        go_wp2
        refine parse_ret hfin.out.1 rfl rfl rfl rfl ?_
        rw [hT.out]
        exact ⟨_, rfl, hfin.out.2.1, hfin.out.2.2⟩
      · have z2 : (((s[k].toNat : Nat) : Int) == 125) = false := by rw [get_bt s k hk, beq_eq_false_iff_ne]; omega
        cases b
        · have hT : Hid (R = (emptyA, 0, 5)) := Lib.hid (by rw [← KR.out, parseF_tight s f k a hk h125])
          have hfin := Lib.hid (pinv_fail KP.out)
          clear h125
          go_wp2
          refine parse_ret hfin.out.1 rfl rfl rfl rfl ?_
          rw [hT.out]
          exact ⟨_, rfl, hfin.out.2.1, hfin.out.2.2⟩
        · have HI := Lib.hid (item_clos wr s k (w.heap.size + 1 + 1) w.heap.size (w.heap.size + 1 + 1 + 1) (w.heap.size + 1 + 1 + 1 + 1) a hs KP.out.str KP.out.plc KP.out.att (by omega) (by omega) hk)
          have hbd := Lib.hid (itemL_bd a s k hk)
          have hbad := Lib.hid (parseF_bad s f k a hk hkf h125)
          have hnxt := Lib.hid (parseF_next s f k a hk hkf h125)
          clear h125
          generalize itemL a s k = T at *
          obtain ⟨t, en, a1⟩ := T
          by_cases he : en = 0
          · obtain ⟨hb1, hb2⟩ := hbd.out he
            have hN := Lib.hid (hnxt.out he)
            clear hnxt hbad
            subst he
            have hsp := spEnd_bd s (s.size - t) t
            have hsp1 : t ≤ spAt s t := hsp.1
            have hsp2 : spAt s t ≤ s.size := hsp.2 hb2
            clear hsp
            go_wp2_with fail
            ((with_reducible refine HI.out.mono ?_))
            rintro e w2 ⟨rfl, w3, rfl, hA3, hb3⟩
            have KP2 := Lib.hid (pinv_item (k1 := t) KP.out hA3 hb3)
            go_wp2_with fail
            refine (spaces_any _ s t w.heap.size (w.heap.size + 1 + 1 + 1) hs KP2.out.str KP2.out.plc (by omega) hb2).mono ?_
            rintro e w4 ⟨rfl, hk4, hg4⟩
            have KP4 := Lib.hid (pinv_spaces KP2.out hk4 hg4)
            go_wp2
            go_roundw
            case rel => exact ⟨spAt s t, f - 1, decide (t < spAt s t), a1, rfl, KP4, Lib.hid (by rw [← KR.out, hN.out]), by omega, hsp2⟩
            case measure =>
              rw [cellNat_of KP.out.plc, cellNat_of KP4.out.plc]; omega
          · have hT : Hid (R = (emptyA, 0, en)) := Lib.hid (by rw [← KR.out, hbad.out he])
            have z3 : ((en : Int) != 0) = true := by simp; exact he
            clear hnxt hbad hbd
            go_wp2_with fail
            ((with_reducible refine HI.out.mono ?_))
            rintro e w2 ⟨rfl, w3, rfl, hA3, hb3⟩
            have KP2 := Lib.hid (pinv_item (k1 := t) KP.out hA3 hb3)
            have r0 := KP2.out.res.cell 0
            have r1 := KP2.out.res.cell 1
            have r2 := KP2.out.res.cell 2
            simp at r0 r1 r2
            have q0 := KP2.out.res.frozen 0
            have q1 := KP2.out.res.frozen 1
            have q2 := KP2.out.res.frozen 2
            have hfin := Lib.hid (pinv_fail KP2.out)
            go_wp2
            refine parse_ret hfin.out.1 rfl rfl rfl rfl ?_
            rw [hT.out]
            exact ⟨_, rfl, hfin.out.2.1, hfin.out.2.2⟩
    · have hT : Hid (R = (emptyA, 0, 5)) := Lib.hid (by rw [← KR.out, parseF_end s f k b a hk])
      have hfin := Lib.hid (pinv_fail KP.out)
      go_wp2
      refine parse_ret hfin.out.1 rfl rfl rfl rfl ?_
      rw [hT.out]
      exact ⟨_, rfl, hfin.out.2.1, hfin.out.2.2⟩

/-- The world of Parse where it fails at once. -/
def failW (w : World) (s : ByteArray) : World := ((w.alloc (.cells #[.string s] 9)).alloc (.cells #[.string ⟨#[]⟩, .slice none 0 0, .slice none 0 0] 27))
theorem failW_ok (w : World) (s : ByteArray) : Blk (failW w s) (w.heap.size + 1) 27 #[.string ⟨#[]⟩, .slice none 0 0, .slice none 0 0] ∧ AttrVal (failW w s) w.heap.size (.agg #[.string ⟨#[]⟩, .slice none 0 0, .slice none 0 0]) emptyA ∧ Below w.heap.size w (failW w s) := by
  refine ⟨?_, ⟨⟨_, _, rfl, World.ownsRow_nil _ _ _ _, World.ownsRow_nil _ _ _ _⟩, by decide, by decide⟩, ((Below.refl _ _).alloc (Nat.le_refl _) _).alloc (by simp) _⟩
  have := Blk.new (w.alloc (.cells #[.string s] 9)) 27 #[.string ⟨#[]⟩, .slice none 0 0, .slice none 0 0]
  simp at this
  exact this

set_option maxRecDepth 100000 in
set_option maxHeartbeats 2000000 in
theorem parse_out (w : World) (s : ByteArray) (i : Int) (hs : s.size ≤ 1000000) (h : i < 0 ∨ (0 ≤ i ∧ (s.size : Int) ≤ i) ∨ (∃ n : Nat, i = n ∧ n < s.size ∧ bt s n ≠ 123)) :
    Calls Try.prog 18 #[.string s, .int .i64 i] w (ParsePost (emptyA, 0, 5) w) := by
  have hfin := Lib.hid (failW_ok w s)
  rcases h with h | ⟨h0, h⟩ | ⟨n, rfl, hn, hb⟩
  · have d0 : decide (i < 0) = true := decide_eq_true h
    go_enter Try.func18, Try.ntmps18
    go_wp2
    refine parse_ret hfin.out.1 rfl rfl rfl rfl ?_
    exact ⟨_, rfl, hfin.out.2.1, hfin.out.2.2⟩
  · have d0 : decide (i < 0) = false := decide_eq_false (by omega)
    have d1 : decide ((s.size : Int) ≤ i) = true := decide_eq_true h
    go_enter Try.func18, Try.ntmps18
    go_wp2
    refine parse_ret hfin.out.1 rfl rfl rfl rfl ?_
    exact ⟨_, rfl, hfin.out.2.1, hfin.out.2.2⟩
  · have hlt : ((s[n].toNat : Nat) : Int) < 256 := by rw [get_bt s n hn]; have := bt_lt s n; omega
    have z1 : (((s[n].toNat : Nat) : Int) != 123) = true := by rw [get_bt s n hn]; simp; omega
    have d1 : decide (s.size ≤ n) = false := decide_eq_false (by omega)
    clear hb
    go_enter Try.func18, Try.ntmps18
    go_wp2
    refine parse_ret hfin.out.1 rfl rfl rfl rfl ?_
    exact ⟨_, rfl, hfin.out.2.1, hfin.out.2.2⟩

theorem parse_any (w : World) (s : ByteArray) (i : Int) (hs : s.size ≤ 1000000) : Calls Try.prog 18 #[.string s, .int .i64 i] w (ParsePost (parseL s i) w) := by
  unfold parseL
  by_cases h : 0 ≤ i ∧ i < s.size ∧ bt s i.toNat = 123
  · rw [if_pos h]
    obtain ⟨n, rfl⟩ : ∃ n : Nat, i = n := ⟨i.toNat, by omega⟩
    exact parse_in w s n hs (by omega) h.2.2
  · rw [if_neg h]
    refine parse_out w s i hs ?_
    by_cases h0 : i < 0
    · exact Or.inl h0
    · by_cases h1 : (s.size : Int) ≤ i
      · exact Or.inr (Or.inl ⟨by omega, h1⟩)
      · refine Or.inr (Or.inr ⟨i.toNat, by omega, by omega, fun hb => h ⟨by omega, by omega, hb⟩⟩)
end Go.Proofs.Ytkcfcdnchlmekaa
