/-
  Texts of the proof, put together (what this law reaches): ScVA, ScTO, AttrN, AttrZ, ScVB, ScVC, ScU, ScY.
-/
import Derived.Test.YtcjkgmfidkgamaaGreatDoorE06
import Derived.Test.YtcjkgmfidkgamaaGreatDoorE01
import Derived.Test.YtcjkgmfidkgamaaGreatDoorE04
import Derived.Test.YtcjkgmfidkgamaaGreatDoorE02
import Derived.Test.YtcjkgmfidkgamaaGreatDoorE03
import Derived.WalkKit
import Derived.WalkSpells
import Derived.Lib.Builder
import Derived.Lib.OthersKept
import Derived.Lib.FrozenHead2
import Derived.Lib.RuneBytes
import Derived.Deep.RegionHeld3
import Derived.Deep.AppendLies
import Derived.Laws.StructEq
import Derived.RangeFuncOwn
import Derived.RangeFuncWrites
set_option linter.unusedVariables false
set_option linter.unusedSimpArgs false
namespace Go.Pub
def gdC (c : Nat) : Prop := Scalar c ∧ uncleanB (c : Int) = false
/-- Clean text. -/
def ValL (l : List UInt8) : Prop := ∃ cs : List Nat, (∀ c ∈ cs, gdC c) ∧ l = cs.flatMap fun c : Nat => encL (c : Int)
theorem ValL.nil : ValL [] := ⟨[], fun c h => (List.not_mem_nil h).elim, rfl⟩
theorem ValL.app {a b : List UInt8} (ha : ValL a) (hb : ValL b) : ValL (a ++ b) := by
  obtain ⟨cs, h1, rfl⟩ := ha
  obtain ⟨ds, h2, rfl⟩ := hb
  exact ⟨cs ++ ds, fun c hc => (List.mem_append.1 hc).elim (h1 c) (h2 c), by rw [List.flatMap_append]⟩
theorem ValL.one {c : Nat} (h : gdC c) : ValL (encL (c : Int)) := ⟨[c], fun d hd => by rw [List.mem_singleton] at hd; subst hd; exact h, by simp⟩
theorem encL_ascii (n : Nat) (h : n < 128) : encL (n : Int) = [UInt8.ofNat n] := by
  rw [encL_nat n (valid_of n (by omega)), encN_one n h]; rfl
theorem gd_ascii {n : Nat} (h : n < 128) : gdC n ↔ (n = 10 ∨ (32 ≤ n ∧ n ≠ 127)) := by
  unfold gdC Scalar uncleanB
  simp
  omega
theorem ValL.byte {b : UInt8} (h : b.toNat = 10 ∨ (32 ≤ b.toNat ∧ b.toNat < 127)) : ValL [b] := by
  have h2 : ValL (encL (b.toNat : Int)) := ValL.one ((gd_ascii (by omega)).2 (by omega))
  rw [encL_ascii _ (by omega)] at h2
  rwa [UInt8.ofNat_toNat] at h2
theorem enc_big {c : Nat} (h : Scalar c) (hc : ¬ c < 128) : ∀ b ∈ encL (c : Int), 128 ≤ b.toNat := by
  rw [encL_scalar c h]
  intro b hb
  unfold Scalar at h
  by_cases h1 : c < 2048
  · rw [encN_two c hc h1] at hb
    have hb : b ∈ [UInt8.ofNat (192 + c / 64), UInt8.ofNat (128 + c % 64)] := hb
    simp only [List.mem_cons, List.not_mem_nil, or_false] at hb
    rcases hb with rfl | rfl <;> rw [ofNat_toNat _ (by omega)] <;> omega
  · by_cases h2 : c < 65536
    · rw [encN_three c hc h1 h2] at hb
      have hb : b ∈ [UInt8.ofNat (224 + c / 4096), UInt8.ofNat (128 + c / 64 % 64), UInt8.ofNat (128 + c % 64)] := hb
      simp only [List.mem_cons, List.not_mem_nil, or_false] at hb
      rcases hb with rfl | rfl | rfl <;> rw [ofNat_toNat _ (by omega)] <;> omega
    · rw [encN_four c hc h1 h2] at hb
      have hb : b ∈ [UInt8.ofNat (240 + c / 262144), UInt8.ofNat (128 + c / 4096 % 64), UInt8.ofNat (128 + c / 64 % 64), UInt8.ofNat (128 + c % 64)] := hb
      simp only [List.mem_cons, List.not_mem_nil, or_false] at hb
      rcases hb with rfl | rfl | rfl | rfl <;> rw [ofNat_toNat _ (by omega)] <;> omega
def Vg (E : Nat → List UInt8) (G : Nat → Prop) (l : List UInt8) : Prop := ∃ cs : List Nat, (∀ c ∈ cs, G c) ∧ l = cs.flatMap E
theorem vg_split (E : Nat → List UInt8) (G : Nat → Prop) (hs : ∀ c, G c → c < 128 → ∃ u, E c = [u]) (hb : ∀ c, G c → ¬ c < 128 → ∀ b ∈ E c, 128 ≤ b.toNat) : ∀ (cs : List Nat) (a b : List UInt8) (x : UInt8), (∀ c ∈ cs, G c) → cs.flatMap E = a ++ x :: b → x.toNat < 128 → Vg E G a ∧ Vg E G [x] ∧ Vg E G b := by
  intro cs
  have one : ∀ c, G c → Vg E G (E c) := fun c h => ⟨[c], fun d hd => by rw [List.mem_singleton] at hd; subst hd; exact h, by simp⟩
  induction cs with
  | nil =>
    intro a b x _ h _
    have := congrArg List.length h
    simp at this
  | cons c cs ih =>
    intro a b x hc h hx
    have hg := hc c List.mem_cons_self
    have hcs : ∀ d ∈ cs, G d := fun d hd => hc d (List.mem_cons_of_mem _ hd)
    rw [List.flatMap_cons] at h
    rcases List.append_eq_append_iff.1 h with ⟨a', h1, h2⟩ | ⟨c', h1, h2⟩
    · obtain ⟨g1, g2, g3⟩ := ih a' b x hcs h2 hx
      obtain ⟨ds, d1, d2⟩ := g1
      exact ⟨⟨c :: ds, fun d hd => by
        rcases List.mem_cons.1 hd with rfl | hd
        · exact hg
        · exact d1 d hd, by rw [h1, d2, List.flatMap_cons]⟩, g2, g3⟩
    · cases c' with
      | nil =>
        have h2 : cs.flatMap E = [] ++ x :: b := h2.symm
        obtain ⟨g1, g2, g3⟩ := ih [] b x hcs h2 hx
        rw [List.append_nil] at h1
        exact ⟨by rw [← h1]; exact one c hg, g2, g3⟩
      | cons y c' =>
        have h3 : x = y ∧ b = c' ++ cs.flatMap E := by
          have h2 : x :: b = y :: (c' ++ cs.flatMap E) := h2
          injection h2 with e1 e2
          exact ⟨e1, e2⟩
        obtain ⟨rfl, rfl⟩ := h3
        by_cases h128 : c < 128
        · obtain ⟨u, hu⟩ := hs c hg h128
          rw [hu] at h1
          cases a with
          | nil =>
            injection h1 with e1 e2
            subst e2
            exact ⟨⟨[], fun d hd => (List.not_mem_nil hd).elim, rfl⟩, by rw [← e1, ← hu]; exact one c hg, ⟨cs, hcs, rfl⟩⟩
          | cons z a =>
            have := congrArg List.length h1
            simp at this
        · have := hb c hg h128 x (by rw [h1]; simp)
          omega
theorem val_split (cs : List Nat) (a b : List UInt8) (x : UInt8) (h1 : ∀ c ∈ cs, gdC c) (h2 : (cs.flatMap fun c : Nat => encL (c : Int)) = a ++ x :: b) (hx : x.toNat < 128) : ValL a ∧ ValL [x] ∧ ValL b :=
  vg_split (fun c : Nat => encL (c : Int)) gdC (fun c _ h => ⟨_, encL_ascii c h⟩) (fun c h hc => enc_big h.1 hc) cs a b x h1 h2 hx
theorem ValL.split {l a b : List UInt8} {x : UInt8} (h : ValL l) (e : l = a ++ x :: b) (hx : x.toNat < 128) : ValL a ∧ ValL [x] ∧ ValL b := by
  obtain ⟨cs, h1, rfl⟩ := h
  exact val_split cs a b x h1 e hx
theorem ValL.of_pts {s : ByteArray} (hv : ∀ p ∈ pts s, p ≠ (65533, 1) ∧ uncleanB p.1 = false) : ValL (bytesL s) := by
  rw [pts_ptsL] at hv
  refine ⟨(ptsL (bytesL s)).map (·.1), fun c hc => ?_, ?_⟩
  · obtain ⟨p, hp, rfl⟩ := List.mem_map.1 hc
    exact ⟨ptsL_scalar _ _ (Nat.le_refl _) p hp, (hv p hp).2⟩
  · rw [List.flatMap_map]
    exact (ptsL_back _ (bytesL s) (Nat.le_refl _) fun p hp => (hv p hp).1).symm
theorem sfx_subV (s : ByteArray) (a e : Nat) (hae : a ≤ e) : sfx s a = sub s a e ++ sfx s e := by
  have h1 : sub s a e = (sfx s a).take (e - a) := rfl
  have h2 : sfx s e = (sfx s a).drop (e - a) := by unfold sfx; rw [List.drop_drop, show a + (e - a) = e by omega]
  rw [h1, h2, List.take_append_drop]
/-- Behind a byte that stands for itself the text is clean again; and ahead of it. -/
theorem val_from {s : ByteArray} {i e : Nat} (h : ValL (sfx s i)) (hi : i ≤ e) (he : e < s.size) (hb : bt s e < 128) : ValL (sub s i e) ∧ ValL (sfx s (e + 1)) := by
  have e1 : sfx s i = sub s i e ++ s.get! e :: sfx s (e + 1) := by rw [sfx_subV s i e hi, sfx_cons s e he]
  obtain ⟨g1, _, g3⟩ := h.split e1 hb
  exact ⟨g1, g3⟩
theorem val_at {s : ByteArray} {i e : Nat} (h : ValL (sfx s i)) (hi : i ≤ e) (he : e < s.size) (hb : bt s e < 128) : ValL (sfx s e) := by
  have e1 : sfx s i = sub s i e ++ s.get! e :: sfx s (e + 1) := by rw [sfx_subV s i e hi, sfx_cons s e he]
  obtain ⟨_, g2, g3⟩ := h.split e1 hb
  rw [sfx_cons s e he]
  exact g2.app g3
/-- The first character. -/
theorem val_head {s : ByteArray} {i : Nat} (h : ValL (sfx s i)) (hi : i < s.size) : gdC (Utf8.decode s i).1 ∧ sub s i (i + (Utf8.decode s i).2) = encL ((Utf8.decode s i).1 : Int) ∧ ValL (sfx s (i + (Utf8.decode s i).2)) := by
  obtain ⟨cs, h1, h2⟩ := h
  cases cs with
  | nil =>
    rw [sfx_cons s i hi] at h2
    cases h2
  | cons c cs =>
    have hg := h1 c List.mem_cons_self
    rw [List.flatMap_cons] at h2
    have hd : Utf8.decode s i = (c, (encL (c : Int)).length) := by
      rw [show Utf8.decode s i = decL (sfx s i) from decode_decL s i, h2]
      exact decL_enc c hg.1 _
    have hr : ValL (cs.flatMap fun c : Nat => encL (c : Int)) := ⟨cs, fun d hd => h1 d (List.mem_cons_of_mem _ hd), rfl⟩
    generalize (cs.flatMap fun c : Nat => encL (c : Int)) = r at *
    generalize Utf8.decode s i = D at *
    subst hd
    simp only []
    generalize encL (c : Int) = L at *
    have h3 : sub s i (i + L.length) = (sfx s i).take (i + L.length - i) := rfl
    have h4 : sfx s (i + L.length) = (sfx s i).drop L.length := by unfold sfx; rw [List.drop_drop]
    refine ⟨hg, ?_, ?_⟩
    · rw [h3, h2, Nat.add_sub_cancel_left, List.take_left]
    · rw [h4, h2, List.drop_left]
      exact hr
/-- Line feeds as spaces. -/
theorem unLF_enc {c : Nat} (h : Scalar c) : unLF (encL (c : Int)) = encL ((if c = 10 then 32 else c : Nat) : Int) := by
  by_cases h10 : c = 10
  · subst h10
    rw [if_pos rfl, encL_ascii 10 (by decide), encL_ascii 32 (by decide)]; rfl
  · rw [if_neg h10]
    have key : ∀ l : List UInt8, (∀ b ∈ l, b ≠ 10) → unLF l = l := by
      intro l
      induction l with
      | nil => intro _; rfl
      | cons b l ih => intro hl; rw [unLF_cons, if_neg (hl b List.mem_cons_self), ih fun x hx => hl x (List.mem_cons_of_mem _ hx)]
    refine key _ fun b hb e => ?_
    by_cases h128 : c < 128
    · rw [encL_ascii c h128, List.mem_singleton] at hb
      rw [hb] at e
      have := congrArg UInt8.toNat e
      rw [ofNat_toNat _ (by omega)] at this
      exact h10 this
    · have := enc_big h h128 b hb
      rw [e] at this
      exact absurd this (by decide)
theorem ValL.unLF {l : List UInt8} (h : ValL l) : ValL (unLF l) := by
  obtain ⟨cs, h1, rfl⟩ := h
  refine ⟨cs.map fun c => if c = 10 then 32 else c, fun c hc => ?_, ?_⟩
  · obtain ⟨d, hd, rfl⟩ := List.mem_map.1 hc
    split
    · exact (gd_ascii (by decide)).2 (.inr ⟨by decide, by decide⟩)
    · exact h1 d hd
  · induction cs with
    | nil => rfl
    | cons c cs ih =>
      rw [List.flatMap_cons, List.map_cons, List.flatMap_cons, ← ih fun d hd => h1 d (List.mem_cons_of_mem _ hd), ← unLF_enc (h1 c List.mem_cons_self).1]
      unfold Go.Pub.unLF
      rw [List.map_append]
theorem unLF_no (l : List UInt8) : ∀ b ∈ unLF l, b ≠ 10 := by
  intro b hb e
  unfold unLF at hb
  obtain ⟨c, hc, rfl⟩ := List.mem_map.1 hb
  split at e
  · cases e
  · exact absurd e (by assumption)
theorem ValL.tail {l b : List UInt8} {x : UInt8} (h : ValL l) (e : l = x :: b) (hx : x.toNat < 128) : ValL b := (h.split (a := []) e hx).2.2
theorem ValL.init {l a : List UInt8} {x : UInt8} (h : ValL l) (e : l = a ++ [x]) (hx : x.toNat < 128) : ValL a := (h.split e hx).1
/-- A line of clean text. -/
def LineL (l : List UInt8) : Prop := ValL l ∧ ∀ b ∈ l, b ≠ 10
theorem codeT_line' {l : List UInt8} (h : ValL l) : LineL (codeT l) := by
  unfold codeT
  split
  · rename_i hc
    obtain ⟨_, h1, h2⟩ := hc
    have hv := h.unLF
    have hn := unLF_no l
    generalize unLF l = m at *
    cases m with
    | nil => cases h1
    | cons x m =>
      injection h1 with h1
      subst h1
      have hm : ValL m := hv.tail rfl (by decide)
      show LineL (m.dropLast)
      rcases List.eq_nil_or_concat m with rfl | ⟨a, y, rfl⟩
      · exact ⟨ValL.nil, fun b hb => (List.not_mem_nil hb).elim⟩
      · have hy : y = 32 := by
          rw [List.getLast?_cons, List.concat_eq_append] at h2
          simp at h2
          exact h2
        subst hy
        rw [List.concat_eq_append] at hm hn ⊢
        rw [List.dropLast_concat]
        exact ⟨hm.init rfl (by decide), fun b hb => hn b (by simp [hb])⟩
  · exact ⟨h.unLF, unLF_no l⟩
end Go.Pub
namespace Go.Pub
theorem map_some {α β : Type} {f : α → β} {o : Option α} {b : β} (h : o.map f = some b) : ∃ a, o = some a ∧ f a = b := by
  cases o with
  | none => cases h
  | some a => exact ⟨a, rfl, Option.some.inj h⟩
theorem covP_len : ∀ (l : List PcL) (a b : Nat), covP l a b → l.length + a ≤ b
  | [], a, b, h => by
    have h : a = b := h
    simp; omega
  | p :: l, a, b, h => by
    have h3 := covP_len l p.nd b h.2.2
    have h1 := h.1
    have h2 := h.2.1
    rw [List.length_cons]; omega
theorem scanP_len (s : ByteArray) : (scanP s).length ≤ s.size := by have := covP_len _ _ _ (scanP_cov s); omega
end Go.Pub
namespace Go.Pub
theorem bytesL_get? (s : ByteArray) (k : Nat) (h : k < s.size) : (bytesL s)[k]? = some (s.get! k) := by
  unfold bytesL
  rw [Array.getElem?_toList]
  have : s.get! k = s.data[k]! := rfl
  rw [this, getElem!_pos s.data k h, Array.getElem?_eq_getElem h]
end Go.Pub
namespace Go.Proofs.YtcjkgmfidkgamaaGreatDoor
open Go.RowKit Go.Pub
end Go.Proofs.YtcjkgmfidkgamaaGreatDoor
namespace Go.Pub
theorem wEnd_all {s : ByteArray} : ∀ (f i : Nat), wEnd s f i = s.size → ∀ j, i ≤ j → j < s.size → partN (bt s j) = true
  | 0, i, h, j, h1, h2 => by
    have : i = s.size := h
    omega
  | f + 1, i, h, j, h1, h2 => by
    unfold wEnd at h
    split at h
    · rename_i hc
      by_cases e : j = i
      · subst e; exact hc.2
      · exact wEnd_all f (i + 1) h j (by omega) h2
    · omega
theorem name_parts {x : ByteArray} (h : nameB x = true) : (∀ b ∈ bytesL x, partN b.toNat = true) ∧ 1 ≤ x.size ∧ letterN (bt x 0) = true := by
  unfold nameB at h
  simp only [Bool.and_eq_true, decide_eq_true_eq, beq_iff_eq] at h
  refine ⟨fun b hb => ?_, h.1.1.1, h.1.2⟩
  obtain ⟨j, hj⟩ := List.mem_iff_getElem?.1 hb
  have hj' : j < x.size := by
    rcases Nat.lt_or_ge j x.size with hlt | hge
    · exact hlt
    · rw [List.getElem?_eq_none (by rw [bytesL_length]; exact hge)] at hj; cases hj
  have := wEnd_all _ 0 h.2 j (Nat.zero_le _) hj'
  rw [bytesL_get? x j hj'] at hj
  injection hj with hj
  rw [← hj]; exact this
end Go.Pub
namespace Go.Proofs.YtcjkgmfidkgamaaGreatDoor
open Go.RowKit Go.Pub
end Go.Proofs.YtcjkgmfidkgamaaGreatDoor
namespace Go.Pub
def TextOk (t : ByteArray) : Prop := 0 < t.size ∧ LineL (bytesL t)
def ArgOk (t : ByteArray) : Prop := LineL (bytesL t) ∧ ∀ b ∈ bytesL t, b ≠ 124 ∧ b ≠ 123 ∧ b ≠ 125
def bad7 (b : UInt8) : Bool := b == 91 || b == 93 || b == 59 || b == 64 || b == 123 || b == 36 || b == 96
def PartOk (t : ByteArray) : Prop := LineL (bytesL t) ∧ (t.size = 0 ∨ (bt t 0 ≠ 32 ∧ bt t (t.size - 1) ≠ 32)) ∧ ∀ b ∈ bytesL t, bad7 b = false
def AutoOk (d : ByteArray) : Prop := ∃ n, 2 ≤ n ∧ n ≤ 20 ∧ n < d.size ∧ (∀ j, j < n → letterN (bt d j) = true) ∧ bt d n = 58 ∧ LineL (bytesL d) ∧ ∀ b ∈ bytesL d, b ≠ 32 ∧ b ≠ 60 ∧ b ≠ 62
def LeafOk (x : InL) : Prop :=
  (∃ k t, (k = 1 ∨ k = 4 ∨ k = 5) ∧ TextOk t ∧ x = spn k t) ∨
  (∃ k t, (k = 12 ∨ k = 14) ∧ nameB t = true ∧ x = spn k t) ∨
  (∃ t, nameB t = true ∧ x = { kind := 14, text := t, title := ⟨#[112, 97, 103, 101]⟩ }) ∨
  (∃ t zs, nameB t = true ∧ zs.length ≤ 8 ∧ (∀ a ∈ zs, ArgOk a) ∧ x = { kind := 15, text := t, args := zs }) ∨
  (∃ cs, cs ≠ [] ∧ (∀ c ∈ cs, nameB c.key = true ∧ PartOk c.pre ∧ PartOk c.suf) ∧ x = { kind := 13, cites := cs }) ∨
  (∃ d, AutoOk d ∧ x = { kind := 16, dest := d })
/-- What a reader gives in clean text. -/
def RdOk (s : ByteArray) (r : InL × Nat) : Prop := (r.1.kind = 2 ∨ r.1.kind = 3 ∨ LeafOk r.1) ∧ ValL (sfx s r.2)
theorem val_to {s : ByteArray} {i e : Nat} (h : ValL (sfx s i)) (hi : i < e) (he : e ≤ s.size) (hb : bt s (e - 1) < 128) : ValL (sfx s e) := by
  have := (val_from (e := e - 1) h (by omega) (by omega) hb).2
  rwa [show e - 1 + 1 = e by omega] at this
theorem val_sp {s : ByteArray} {i : Nat} (h : ValL (sfx s i)) (hi : i ≤ s.size) : ValL (sfx s (spAt s i)) := by
  obtain ⟨h1, h2⟩ := spAt_spec s i
  obtain ⟨h3, h4⟩ := spAt_bd' s i
  by_cases e : spAt s i = i
  · rw [e]; exact h
  · exact val_to h (by omega) (h4 hi) (by rw [h1 _ (by omega) (by omega)]; decide)
theorem mem_sub {s : ByteArray} {a e : Nat} {b : UInt8} (h : b ∈ sub s a e) (he : e ≤ s.size) : ∃ j, a ≤ j ∧ j < e ∧ b = s.get! j := by
  obtain ⟨k, hk, e1⟩ := List.getElem_of_mem h
  have hl : (sub s a e).length ≤ e - a := by unfold sub; rw [List.length_take]; omega
  refine ⟨a + k, by omega, by omega, ?_⟩
  have h2 : (sub s a e)[k]? = some b := by rw [List.getElem?_eq_getElem hk, e1]
  have h3 : (sub s a e)[k]? = (bytesL s)[a + k]? := by
    unfold sub
    rw [List.getElem?_take_of_lt (by omega), List.getElem?_drop]
  rw [h3, byte9_at s (a + k) (by omega)] at h2
  exact (Option.some.inj h2).symm
theorem bt_nat (s : ByteArray) (j : Nat) : (s.get! j).toNat = bt s j := rfl
theorem line_sub {s : ByteArray} {a e : Nat} (h : ValL (sub s a e)) (he : e ≤ s.size) (hn : ∀ j, a ≤ j → j < e → bt s j ≠ 10) : LineL (bytesL (s.extract a e)) := by
  rw [bytesL_sub]
  refine ⟨h, fun b hb e10 => ?_⟩
  obtain ⟨j, h1, h2, rfl⟩ := mem_sub hb he
  exact hn j h1 h2 (by rw [← bt_nat, e10]; rfl)
theorem esc_ok {s : ByteArray} {i : Nat} {r : InL × Nat} (h : ValL (sfx s i)) (hi : i < s.size) (hb : bt s i = 92) (hr : escI s i = some r) : RdOk s r := by
  unfold escI at hr
  by_cases h1 : i + 1 < s.size
  · rw [if_pos h1] at hr
    by_cases h10 : bt s (i + 1) = 10
    · rw [if_pos h10] at hr
      have hr := Option.some.inj hr
      subst hr
      exact ⟨.inr (.inl rfl), val_sp (val_to h (by omega) (by omega) (by rw [show i + 2 - 1 = i + 1 by omega, h10]; decide)) (by omega)⟩
    · rw [if_neg h10] at hr
      cases hp : (decide (bt s (i + 1) < 128) && inB (bt s (i + 1) : Int) punctL)
      · rw [if_neg (by rw [hp]; exact Bool.false_ne_true)] at hr
        cases hr
      · rw [if_pos hp] at hr
        have hr := Option.some.inj hr
        subst hr
        rw [pun_eq _ (bt_lt s (i + 1))] at hp
        have hp : (33 ≤ bt s (i + 1) ∧ bt s (i + 1) ≤ 126) := by simp at hp; omega
        have hx : s.extract (i + 1) (i + 2) = mk [s.get! (i + 1)] := by rw [← byte_ext s (i + 1) h1, mk_bytesL]
        refine ⟨.inr (.inr (.inl ⟨1, _, .inl rfl, ⟨?_, ?_⟩, rfl⟩)), val_to h (by omega) (by omega) (by rw [show i + 2 - 1 = i + 1 by omega]; omega)⟩
        · rw [hx, mk_size]; exact Nat.succ_pos _
        · rw [hx, bytesL_mk']
          refine ⟨ValL.byte (by rw [bt_nat]; omega), fun b hb e => ?_⟩
          rw [List.mem_singleton] at hb
          rw [hb] at e
          exact h10 (by rw [← bt_nat, e]; rfl)
  · rw [if_neg h1] at hr
    cases hr
theorem val_beg {s : ByteArray} {i : Nat} {t : List UInt8} {x : UInt8} (h : ValL (sfx s i)) (hb : begB s i (t ++ [x]) = true) (hx : x.toNat < 128) : ValL (sfx s (i + t.length + 1)) := by
  obtain ⟨r, hr⟩ := List.isPrefixOf_iff_prefix.1 hb
  have e1 : sfx s i = t ++ x :: r := by rw [← hr]; simp
  have g := (h.split e1 hx).2.2
  have e2 : sfx s (i + t.length + 1) = (sfx s i).drop (t.length + 1) := by unfold sfx; rw [List.drop_drop]; congr 1
  rw [e2, e1]
  have e3 : (t ++ x :: r).drop (t.length + 1) = r := by
    have : t ++ x :: r = (t ++ [x]) ++ r := by simp
    rw [this, show t.length + 1 = (t ++ [x]).length by simp, List.drop_left]
  rw [e3]; exact g
theorem text_byte (b : UInt8) (h : 32 ≤ b.toNat ∧ b.toNat < 127) : TextOk ⟨#[b]⟩ := by
  refine ⟨Nat.succ_pos _, ValL.byte (b := b) (.inr h), fun c hc e => ?_⟩
  have hc : c ∈ [b] := hc
  rw [List.mem_singleton] at hc
  rw [hc] at e
  rw [e] at h
  exact absurd h.1 (by decide)
theorem text_enc {c : Nat} (h : goodC c = true) : TextOk (Utf8.encode (c : Int)) := by
  have hg : gdC c ∧ c ≠ 10 := by
    unfold goodC at h
    unfold gdC Scalar uncleanB
    simp at h ⊢
    omega
  have hb : bytesL (Utf8.encode (c : Int)) = encL (c : Int) := rfl
  refine ⟨?_, ?_⟩
  · rw [← bytesL_length, hb]
    exact (encL_length (c : Int)).1
  · rw [hb]
    refine ⟨ValL.one hg.1, fun b hb e => ?_⟩
    by_cases h128 : c < 128
    · rw [encL_ascii c h128, List.mem_singleton] at hb
      rw [hb] at e
      have := congrArg UInt8.toNat e
      rw [ofNat_toNat _ (by omega)] at this
      exact hg.2 this
    · have := enc_big hg.1.1 h128 b hb
      rw [e] at this
      exact absurd this (by decide)
theorem ent_ok {s : ByteArray} {i : Nat} {r : InL × Nat} (h : ValL (sfx s i)) (hi : i < s.size) (hr : entI s i = some r) : RdOk s r := by
  unfold entI at hr
  by_cases c1 : begB s i [38, 97, 109, 112, 59] = true
  · rw [if_pos c1] at hr
    have hr := Option.some.inj hr
    subst hr
    exact ⟨.inr (.inr (.inl ⟨1, _, .inl rfl, text_byte 38 (by decide), rfl⟩)), val_beg (t := [38, 97, 109, 112]) (x := 59) h c1 (by decide)⟩
  rw [if_neg c1] at hr
  by_cases c2 : begB s i [38, 108, 116, 59] = true
  · rw [if_pos c2] at hr
    have hr := Option.some.inj hr
    subst hr
    exact ⟨.inr (.inr (.inl ⟨1, _, .inl rfl, text_byte 60 (by decide), rfl⟩)), val_beg (t := [38, 108, 116]) (x := 59) h c2 (by decide)⟩
  rw [if_neg c2] at hr
  by_cases c3 : begB s i [38, 103, 116, 59] = true
  · rw [if_pos c3] at hr
    have hr := Option.some.inj hr
    subst hr
    exact ⟨.inr (.inr (.inl ⟨1, _, .inl rfl, text_byte 62 (by decide), rfl⟩)), val_beg (t := [38, 103, 116]) (x := 59) h c3 (by decide)⟩
  rw [if_neg c3] at hr
  by_cases c4 : begB s i [38, 113, 117, 111, 116, 59] = true
  · rw [if_pos c4] at hr
    have hr := Option.some.inj hr
    subst hr
    exact ⟨.inr (.inr (.inl ⟨1, _, .inl rfl, text_byte 34 (by decide), rfl⟩)), val_beg (t := [38, 113, 117, 111, 116]) (x := 59) h c4 (by decide)⟩
  rw [if_neg c4] at hr
  by_cases c5 : begB s i [38, 35] = true
  · rw [if_pos c5] at hr
    by_cases c6 : digK s i ≠ 0 ∧ i + 2 + digK s i < s.size ∧ bt s (i + 2 + digK s i) = 59 ∧ goodC (numV (sub s (i + 2) (i + 2 + digK s i))) = true
    · rw [if_pos c6] at hr
      have hr := Option.some.inj hr
      subst hr
      exact ⟨.inr (.inr (.inl ⟨1, _, .inl rfl, text_enc c6.2.2.2, rfl⟩)), (val_from h (by omega) c6.2.1 (by rw [c6.2.2.1]; decide)).2⟩
    · rw [if_neg c6] at hr
      cases hr
  · rw [if_neg c5] at hr
    cases hr
theorem size_sub' {s : ByteArray} {a e : Nat} (h : a < e) (he : e ≤ s.size) : 0 < (s.extract a e).size := by rw [ByteArray.size_extract]; omega
theorem dol_ok {s : ByteArray} {i : Nat} {r : InL × Nat} (h : ValL (sfx s i)) (hi : i < s.size) (hb : bt s i = 36) (hr : dolI s i = some r) : RdOk s r := by
  unfold dolI at hr
  by_cases c : dolE s i < s.size ∧ dolE s i ≠ i + 1 ∧ bt s (dolE s i) = 36 ∧ bt s (i + 1) ≠ 32 ∧ bt s (dolE s i - 1) ≠ 32 ∧ ¬ (dolE s i + 1 < s.size ∧ dgN (bt s (dolE s i + 1)) = true)
  · rw [if_pos c] at hr
    have hr := Option.some.inj hr
    subst hr
    have hge := toE_ge s (i + 1) fun b => b == 36 || b == 10
    have hin := toE_in s (i + 1) fun b => b == 36 || b == 10
    change i + 1 ≤ dolE s i at hge
    have h1 := (val_from h (Nat.le_refl _) hi (by rw [hb]; decide)).2
    obtain ⟨g1, g2⟩ := val_from h1 hge c.1 (by rw [c.2.2.1]; decide)
    refine ⟨.inr (.inr (.inl ⟨5, _, .inr (.inr rfl), ⟨size_sub' (by omega) (by omega), line_sub g1 (by omega) fun j a b => ?_⟩, rfl⟩)), g2⟩
    have := hin j a b
    simp at this
    exact this.2
  · rw [if_neg c] at hr
    cases hr
theorem codeT_ne {l : List UInt8} (h : l ≠ []) : codeT l ≠ [] := by
  have hne : unLF l ≠ [] := by
    cases l with
    | nil => exact absurd rfl h
    | cons b l => rw [unLF_cons]; simp
  unfold codeT
  by_cases c : (unLF l).any (· != 32) = true ∧ (unLF l).head? = some 32 ∧ (unLF l).getLast? = some 32
  · rw [if_pos c]
    obtain ⟨c1, c2, c3⟩ := c
    generalize unLF l = m at *
    cases m with
    | nil => exact absurd rfl hne
    | cons x m =>
      injection c2 with c2
      subst c2
      show m.dropLast ≠ []
      intro e
      rcases List.eq_nil_or_concat m with rfl | ⟨a, y, rfl⟩
      · cases c1
      · rw [List.concat_eq_append] at e c1 c3
        rw [List.dropLast_concat] at e
        subst e
        rw [List.getLast?_cons] at c3
        simp at c3
        subst c3
        cases c1
  · rw [if_neg c]; exact hne
theorem tick_in {s : ByteArray} {i : Nat} : ∀ j, i ≤ j → j < i + runF s i tick → bt s j = 96 := fun j a b => by
  have := (runF_all s tick (s.size - i) i (Nat.le_refl _)).1 j a b
  exact beq_iff_eq.1 this
theorem tick_out {s : ByteArray} {i : Nat} (h : i + runF s i tick < s.size) : bt s (i + runF s i tick) ≠ 96 := fun e => by
  have := (runF_all s tick (s.size - i) i (Nat.le_refl _)).2 h
  rw [e] at this
  cases this
theorem mk_pos {l : List UInt8} (h : l ≠ []) : 0 < (mk l).size := by rw [mk_size]; exact List.length_pos_iff.2 h
theorem sub_ne {s : ByteArray} {a e : Nat} (h : a < e) (he : e ≤ s.size) : sub s a e ≠ [] := by
  intro x
  have := congrArg List.length x
  unfold sub at this
  rw [List.length_take, List.length_drop, bytesL_length] at this
  simp at this
  omega
/-- Code text between two runs. -/
theorem tick_ok {s : ByteArray} {j k : Nat} {d : Bool} (h : ValL (sfx s j)) (hj : j < s.size) (hb : bt s j = 96) (hk : laterA s (j + runF s j tick) (runF s j tick) d = some k) : TextOk (mk (codeT (sub s (j + runF s j tick) k))) ∧ ValL (sfx s (k + runF s j tick)) := by
  have hp := tick_pos hj hb
  obtain ⟨k1, k2, k3, k4, _⟩ := laterA_spec hk
  have hle := runF_le s k tick
  have h1 : ValL (sfx s (j + runF s j tick)) := val_to h (by omega) (by omega) (by rw [tick_in (i := j) _ (by omega) (by omega)]; decide)
  have hlt : j + runF s j tick < k := by
    rcases Nat.lt_or_ge (j + runF s j tick) k with h | h
    · exact h
    · have e : j + runF s j tick = k := by omega
      exact absurd (by rw [e]; exact k3) (tick_out (s := s) (i := j) (by omega))
  obtain ⟨g1, _⟩ := val_from h1 (by omega) k2 (by rw [k3]; decide)
  refine ⟨⟨mk_pos (codeT_ne (sub_ne hlt (by omega))), by rw [bytesL_mk']; exact codeT_line' g1⟩, ?_⟩
  have h2 := val_at h1 (by omega) k2 (by rw [k3]; decide)
  refine val_to h2 (by omega) (by omega) ?_
  rw [tick_in (i := k) _ (by omega) (by omega)]; decide
theorem code_ok {s : ByteArray} {i : Nat} {r : InL × Nat} (h : ValL (sfx s i)) (hi : i < s.size) (hb : bt s i = 96) (hr : codeI s i = some r) : RdOk s r := by
  unfold codeI at hr
  obtain ⟨k, hk, rfl⟩ := map_some hr
  obtain ⟨g1, g2⟩ := tick_ok h hi hb hk
  exact ⟨.inr (.inr (.inl ⟨4, _, .inr (.inl rfl), g1, rfl⟩)), g2⟩
theorem math_ok {s : ByteArray} {i : Nat} {r : InL × Nat} (h : ValL (sfx s i)) (hi : i < s.size) (hb : bt s i = 36) (hr : mathI s i = some r) : RdOk s r := by
  unfold mathI at hr
  by_cases c : i + 1 < s.size ∧ bt s (i + 1) = 96
  · rw [if_pos c] at hr
    obtain ⟨k, hk, rfl⟩ := map_some hr
    have h1 := (val_from h (Nat.le_refl _) hi (by rw [hb]; decide)).2
    obtain ⟨g1, g2⟩ := tick_ok h1 c.1 c.2 hk
    obtain ⟨k1, k2, k3, k4, k5⟩ := laterA_spec hk
    obtain ⟨k6, k7⟩ := k5 rfl
    exact ⟨.inr (.inr (.inl ⟨5, _, .inr (.inr rfl), g1, rfl⟩)), (val_from g2 (Nat.le_refl _) k6 (by rw [k7]; decide)).2⟩
  · rw [if_neg c] at hr
    cases hr
theorem aut_ok {s : ByteArray} {i : Nat} {r : InL × Nat} (h : ValL (sfx s i)) (hi : i < s.size) (hb : bt s i = 60) (hr : autI s i = some r) : RdOk s r := by
  unfold autI at hr
  by_cases c : 2 ≤ autK s i - i - 1 ∧ autK s i - i - 1 ≤ 20 ∧ autK s i < s.size ∧ bt s (autK s i) = 58 ∧ autE s i < s.size ∧ bt s (autE s i) = 62
  · rw [if_pos c] at hr
    have hr := Option.some.inj hr
    subst hr
    obtain ⟨c1, c2, c3, c4, c5, c6⟩ := c
    have hge := toE_ge s (autK s i) fun b => b == 32 || b == 10 || b == 60 || b == 62
    have hin := toE_in s (autK s i) fun b => b == 32 || b == 10 || b == 60 || b == 62
    change autK s i ≤ autE s i at hge
    change ∀ j, autK s i ≤ j → j < autE s i → _ at hin
    have hl : ∀ j, i + 1 ≤ j → j < autK s i → letterN (bt s j) = true := fun j a b => (runF_all s letterN (s.size - (i + 1)) (i + 1) (Nat.le_refl _)).1 j a (by unfold autK at b; omega)
    have h58 : autK s i ≠ autE s i := fun e => by rw [e, c6] at c4; cases c4
    have hno : ∀ j, i + 1 ≤ j → j < autE s i → bt s j ≠ 10 ∧ bt s j ≠ 32 ∧ bt s j ≠ 60 ∧ bt s j ≠ 62 := fun j a b => by
      rcases Nat.lt_or_ge j (autK s i) with h | h
      · have := hl j a h
        unfold letterN at this
        simp at this
        omega
      · have := hin j h b
        simp at this
        omega
    have h1 := (val_from h (Nat.le_refl _) hi (by rw [hb]; decide)).2
    obtain ⟨g1, g2⟩ := val_from h1 (by omega) c5 (by rw [c6]; decide)
    have hx : ∀ j, j < autE s i - (i + 1) → bt (s.extract (i + 1) (autE s i)) j = bt s (i + 1 + j) := fun j hj => extract_bt s (i + 1) (autE s i) (by omega) j (by omega)
    refine ⟨.inr (.inr (.inr (.inr (.inr (.inr (.inr ⟨_, ⟨autK s i - i - 1, c1, c2, ?_, fun j hj => ?_, ?_, line_sub g1 (by omega) fun j a b => (hno j a b).1, fun b hb => ?_⟩, rfl⟩)))))), g2⟩
    · rw [ByteArray.size_extract]; omega
    · rw [hx j (by omega)]; exact hl _ (by omega) (by omega)
    · rw [hx _ (by omega), show i + 1 + (autK s i - i - 1) = autK s i by omega]; exact c4
    · rw [bytesL_sub] at hb
      obtain ⟨j, a1, a2, rfl⟩ := mem_sub hb (by omega)
      have := hno j a1 a2
      refine ⟨fun e => this.2.1 (by rw [← bt_nat, e]; rfl), fun e => this.2.2.1 (by rw [← bt_nat, e]; rfl), fun e => this.2.2.2 (by rw [← bt_nat, e]; rfl)⟩
  · rw [if_neg c] at hr
    cases hr
end Go.Pub
namespace Go.Pub
theorem part_ascii {b : Nat} (h : partN b = true) : b < 128 := by
  unfold partN letterN at h
  simp at h
  omega
theorem nmEnd_ok {s : ByteArray} {i k : Nat} (h : nmEnd s i = some k) : nameB (s.extract i k) = true ∧ i < k ∧ k ≤ s.size ∧ bt s (k - 1) < 128 := by
  obtain ⟨h1, h2, h3⟩ := nmEnd_bd h
  have hn : nameB (s.extract i k) = true := by
    unfold nmEnd at h
    by_cases hb : nameB (s.extract i (wordAt s i)) = true
    · rw [if_pos hb] at h
      have h := Option.some.inj h
      rw [← h]; exact hb
    · rw [if_neg hb] at h; cases h
  refine ⟨hn, h2, h3, ?_⟩
  have := (name_parts hn).1 (s.get! (k - 1)) (by
    rw [bytesL_sub]
    have e : (sub s i k)[k - 1 - i]? = some (s.get! (k - 1)) := by
      unfold sub
      rw [List.getElem?_take_of_lt (by omega), List.getElem?_drop, show i + (k - 1 - i) = k - 1 by omega, byte9_at s (k - 1) (by omega)]
    exact List.mem_of_getElem? e)
  exact part_ascii this
theorem args_ok {s : ByteArray} : ∀ (f k : Nat), k ≤ s.size → ValL (sfx s k) → (∀ a ∈ (argsF s f k).1, ArgOk a) ∧ ValL (sfx s (argsF s f k).2)
  | 0, k, _, h => ⟨fun a ha => (List.not_mem_nil ha).elim, h⟩
  | f + 1, k, hk, h => by
    unfold argsF
    by_cases c : k < s.size ∧ bt s k = 124
    · rw [if_pos c]
      obtain ⟨hl, hb⟩ := c
      obtain ⟨e1, e2⟩ := argE_bd s k hl
      have hin := toE_in s (k + 1) fun b => b == 124 || b == 123 || b == 125 || b == 10
      have hst := toE_stop s (k + 1) fun b => b == 124 || b == 123 || b == 125 || b == 10
      change ∀ j, k + 1 ≤ j → j < argE s k → _ at hin
      change argE s k < s.size → _ at hst
      have h1 := (val_from h (Nat.le_refl _) hl (by rw [hb]; decide)).2
      have hno : ∀ j, k + 1 ≤ j → j < argE s k → bt s j ≠ 10 ∧ bt s j ≠ 124 ∧ bt s j ≠ 123 ∧ bt s j ≠ 125 := fun j a b => by
        have := hin j a b
        simp at this
        omega
      have g : ValL (sub s (k + 1) (argE s k)) ∧ ValL (sfx s (argE s k)) := by
        by_cases he : argE s k < s.size
        · have hs : (bt s (argE s k) == 124 || bt s (argE s k) == 123 || bt s (argE s k) == 125 || bt s (argE s k) == 10) = true := hst he
          have h128 : bt s (argE s k) < 128 := by
            simp only [Bool.or_eq_true, beq_iff_eq] at hs
            omega
          exact ⟨(val_from h1 e1 he h128).1, val_at h1 e1 he h128⟩
        · have e : argE s k = s.size := by omega
          have e9 : sfx s (k + 1) = sub s (k + 1) (argE s k) ++ sfx s (argE s k) := sfx_subV s (k + 1) _ e1
          have e8 : sfx s (argE s k) = [] := sfx_nil s _ (by omega)
          rw [e8, List.append_nil] at e9
          exact ⟨by rw [← e9]; exact h1, by rw [e8]; exact ValL.nil⟩
      obtain ⟨i1, i2⟩ := args_ok f (argE s k) e2 g.2
      refine ⟨fun a ha => ?_, i2⟩
      rcases List.mem_cons.1 ha with rfl | ha
      · refine ⟨line_sub g.1 e2 fun j a b => (hno j a b).1, fun b hb => ?_⟩
        rw [bytesL_sub] at hb
        obtain ⟨j, a1, a2, rfl⟩ := mem_sub hb e2
        have := hno j a1 a2
        exact ⟨fun e => this.2.1 (by rw [← bt_nat, e]; rfl), fun e => this.2.2.1 (by rw [← bt_nat, e]; rfl), fun e => this.2.2.2 (by rw [← bt_nat, e]; rfl)⟩
      · exact i1 a ha
    · rw [if_neg c]
      exact ⟨fun a ha => (List.not_mem_nil ha).elim, h⟩
theorem use_ok {s : ByteArray} {i : Nat} {r : InL × Nat} (h : ValL (sfx s i)) (hi : i < s.size) (hr : useI s i = some r) : RdOk s r := by
  unfold useI at hr
  by_cases c : begB s i [123, 123] = true
  · rw [if_pos c] at hr
    have h2 : ValL (sfx s (i + 2)) := val_beg (t := [123]) (x := 123) h c (by decide)
    cases hn : nmEnd s (i + 2) with
    | none => rw [hn] at hr; cases hr
    | some k =>
      obtain ⟨n1, n2, n3, n4⟩ := nmEnd_ok hn
      have h3 := val_to h2 n2 n3 n4
      obtain ⟨g1, g2⟩ := args_ok (s := s) 8 k n3 h3
      have g3 := (argsF_bd s 8 k n3).2.2
      rw [hn, Option.bind_some] at hr
      by_cases d : begB s (argsF s 8 k).2 [125, 125] = true
      · rw [if_pos d] at hr
        have hr := Option.some.inj hr
        subst hr
        exact ⟨.inr (.inr (.inr (.inr (.inr (.inl ⟨_, _, n1, g3, g1, rfl⟩))))), val_beg (t := [125]) (x := 125) g2 d (by decide)⟩
      · rw [if_neg d] at hr
        cases hr
  · rw [if_neg c] at hr
    cases hr
theorem nam_ok {s : ByteArray} {i : Nat} {r : InL × Nat} (h : ValL (sfx s i)) (hi : i < s.size) (hr : namI s i = some r) : RdOk s r := by
  unfold namI at hr
  by_cases c : i + 1 < s.size ∧ (bt s (i + 1) = 94 ∨ bt s (i + 1) = 35)
  · rw [if_pos c] at hr
    have h2 : ValL (sfx s (i + 2)) := val_to h (by omega) (by omega) (by rw [show i + 2 - 1 = i + 1 by omega]; omega)
    cases hn : nmEnd s (i + 2) with
    | none => rw [hn] at hr; cases hr
    | some k =>
      obtain ⟨n1, n2, n3, n4⟩ := nmEnd_ok hn
      have h3 := val_to h2 n2 n3 n4
      rw [hn, Option.bind_some] at hr
      by_cases d : begB s k [93] = true
      · rw [if_pos d] at hr
        have hr := Option.some.inj hr
        subst hr
        refine ⟨.inr (.inr (.inr (.inl ⟨_, _, ?_, n1, rfl⟩))), val_beg (t := []) (x := 93) h3 d (by decide)⟩
        by_cases e : bt s (i + 1) = 94
        · rw [if_pos e]; exact .inl rfl
        · rw [if_neg e]; exact .inr rfl
      · rw [if_neg d] at hr
        by_cases d2 : bt s (i + 1) = 35 ∧ begB s k [32, 112, 97, 103, 101, 93] = true
        · rw [if_pos d2] at hr
          have hr := Option.some.inj hr
          subst hr
          exact ⟨.inr (.inr (.inr (.inr (.inl ⟨_, n1, rfl⟩)))), val_beg (t := [32, 112, 97, 103, 101]) (x := 93) h3 d2.2 (by decide)⟩
        · rw [if_neg d2] at hr
          cases hr
  · rw [if_neg c] at hr
    cases hr
/-- A text without the spaces at its ends. -/
theorem trim_ok : ∀ (n : Nat) (l : List UInt8), l.length = n → ValL l → ValL (trimL l) ∧ (trimL l).head? ≠ some 32 ∧ (trimL l).getLast? ≠ some 32 ∧ ∀ b ∈ trimL l, b ∈ l := by
  intro n
  induction n using Nat.strongRecOn with
  | ind n ih =>
    intro l hl h
    by_cases h1 : l.head? = some 32
    · cases l with
      | nil => cases h1
      | cons x m =>
        injection h1 with h1
        subst h1
        rw [trimL_head]
        obtain ⟨g1, g2, g3, g4⟩ := ih m.length (by rw [← hl]; simp) m rfl (h.tail rfl (by decide))
        exact ⟨g1, g2, g3, fun b hb => List.mem_cons_of_mem _ (g4 b hb)⟩
    · by_cases h2 : l.getLast? = some 32
      · rcases List.eq_nil_or_concat l with rfl | ⟨a, y, rfl⟩
        · cases h2
        · rw [List.concat_eq_append] at h2 h hl ⊢
          have hy : y = 32 := by simpa using h2
          subst hy
          rw [trimL_last]
          obtain ⟨g1, g2, g3, g4⟩ := ih a.length (by rw [← hl]; simp) a rfl (h.init rfl (by decide))
          exact ⟨g1, g2, g3, fun b hb => List.mem_append_left _ (g4 b hb)⟩
      · rw [trimL_stay l h1 h2]
        exact ⟨h, h1, h2, fun b hb => hb⟩
theorem part_ok {l : List UInt8} (h : ValL l) (hb : ∀ b ∈ l, b ≠ 10 ∧ bad7 b = false) : PartOk (mk (trimL l)) := by
  obtain ⟨g1, g2, g3, g4⟩ := trim_ok l.length l rfl h
  refine ⟨⟨by rw [bytesL_mk']; exact g1, fun b hx => (hb b (g4 b (by rwa [bytesL_mk'] at hx))).1⟩, ?_, fun b hx => (hb b (g4 b (by rwa [bytesL_mk'] at hx))).2⟩
  rw [mk_size]
  rcases Nat.eq_zero_or_pos (trimL l).length with h0 | h0
  · exact .inl h0
  · exact .inr ⟨fun e => g2 (bt_head.1 ⟨e, h0⟩), fun e => g3 ((bt_last h0).1 e)⟩
/-- The parts of a text between semicolons. -/
theorem semi_ok : ∀ l : List UInt8, ValL l → ∀ p ∈ semiL l, ValL p ∧ ∀ b ∈ p, b ∈ l ∧ b ≠ 59 := by
  have key : ∀ (n : Nat) (l : List UInt8), l.length = n → ValL l → ∀ p ∈ semiL l, ValL p ∧ ∀ b ∈ p, b ∈ l ∧ b ≠ 59 := by
    intro n
    induction n using Nat.strongRecOn with
    | ind n ih =>
      intro l hl h p hp
      by_cases hx : ∃ a b, l = a ++ 59 :: b ∧ ∀ c ∈ a, c ≠ 59
      · obtain ⟨a, b, rfl, ha⟩ := hx
        have hseg : ∀ a : List UInt8, (∀ c ∈ a, c ≠ 59) → semiL (a ++ 59 :: b) = a :: semiL b := by
          intro a
          induction a with
          | nil => intro _; rw [List.nil_append]; conv => lhs; unfold semiL
                   rw [if_pos rfl]
          | cons c a ih2 =>
            intro hc
            rw [List.cons_append]
            conv => lhs; unfold semiL
            rw [if_neg (hc c List.mem_cons_self), ih2 fun d hd => hc d (List.mem_cons_of_mem _ hd)]
        rw [hseg a ha] at hp
        obtain ⟨g1, _, g3⟩ := h.split rfl (by decide : (59 : UInt8).toNat < 128)
        rcases List.mem_cons.1 hp with rfl | hp
        · exact ⟨g1, fun c hc => ⟨List.mem_append_left _ hc, ha c hc⟩⟩
        · obtain ⟨k1, k2⟩ := ih b.length (by rw [← hl]; simp; omega) b rfl g3 p hp
          exact ⟨k1, fun c hc => ⟨List.mem_append_right _ (List.mem_cons_of_mem _ (k2 c hc).1), (k2 c hc).2⟩⟩
      · have hno : ∀ c ∈ l, c ≠ 59 := by
          intro c hc e
          subst e
          apply hx
          have : ∀ m : List UInt8, (59 : UInt8) ∈ m → ∃ a b, m = a ++ 59 :: b ∧ ∀ c ∈ a, c ≠ 59 := by
            intro m
            induction m with
            | nil => intro hm; exact (List.not_mem_nil hm).elim
            | cons x m ihm =>
              intro hm
              by_cases hx : x = 59
              · exact ⟨[], m, by rw [hx]; rfl, fun c hc => (List.not_mem_nil hc).elim⟩
              · rcases List.mem_cons.1 hm with hm | hm
                · exact absurd hm.symm hx
                · obtain ⟨a, b, e, ha⟩ := ihm hm
                  exact ⟨x :: a, b, by rw [e]; rfl, fun c hc => by
                    rcases List.mem_cons.1 hc with rfl | hc
                    · exact hx
                    · exact ha c hc⟩
          exact this l hc
        have hall : ∀ m : List UInt8, (∀ c ∈ m, c ≠ 59) → semiL m = [m] := by
          intro m
          induction m with
          | nil => intro _; rfl
          | cons c m ihm =>
            intro hm
            conv => lhs; unfold semiL
            rw [if_neg (hm c List.mem_cons_self), ihm fun d hd => hm d (List.mem_cons_of_mem _ hd)]
        rw [hall l hno, List.mem_singleton] at hp
        subst hp
        exact ⟨h, fun c hc => ⟨hc, hno c hc⟩⟩
  exact fun l => key l.length l rfl
theorem cited_ok {q : ByteArray} {c : CitL} (h : ValL (bytesL q)) (hb : ∀ b ∈ bytesL q, badC b = false ∧ b ≠ 59) (hc : citedI q = some c) : nameB c.key = true ∧ PartOk c.pre ∧ PartOk c.suf := by
  have h0 : ValL (sfx q 0) := h
  unfold citedI at hc
  simp only [] at hc
  generalize hbb : (decide (0 < citA q) && bt q (citA q - 1) == 45) = bb at hc
  by_cases c1 : citA q < q.size ∧ toE q (citA q + 1) (fun b => b == 64) ≥ q.size ∧ ((if bb = true then citA q - 1 else citA q) = 0 ∨ bt q ((if bb = true then citA q - 1 else citA q) - 1) = 32)
  · rw [if_pos c1] at hc
    obtain ⟨k, hk, rfl⟩ := map_some hc
    obtain ⟨n1, n2, n3, n4⟩ := nmEnd_ok hk
    obtain ⟨a1, a2, _⟩ := c1
    have h64 : bt q (citA q) = 64 := by
      have := toE_stop q 0 (fun b => b == 64) a1
      exact beq_iff_eq.1 this
    have hin := toE_in q 0 fun b => b == 64
    change ∀ j, 0 ≤ j → j < citA q → _ at hin
    have hin2 := toE_in q (citA q + 1) fun b => b == 64
    have g1 := (val_from h0 (Nat.zero_le _) a1 (by rw [h64]; decide)).1
    have g2 := (val_from h0 (Nat.zero_le _) a1 (by rw [h64]; decide)).2
    have g3 := val_to g2 n2 n3 n4
    have no : ∀ j, j < q.size → bt q j ≠ 64 → (q.get! j ≠ 10 ∧ bad7 (q.get! j) = false) := fun j hj h6 => by
      obtain ⟨b1, b2⟩ := hb (q.get! j) (List.mem_of_getElem? (byte9_at q j hj))
      have b3 : (q.get! j == 64) = false := by
        rw [beq_eq_false_iff_ne]
        intro e
        exact h6 (by rw [← bt_nat, e]; rfl)
      have b4 : (q.get! j == 59) = false := beq_eq_false_iff_ne.2 b2
      unfold badC at b1
      unfold bad7
      simp only [Bool.or_eq_false_iff] at b1
      obtain ⟨⟨⟨⟨⟨x1, x2⟩, x3⟩, x4⟩, x5⟩, x6⟩ := b1
      exact ⟨beq_eq_false_iff_ne.1 x6, by rw [x1, x2, b4, b3, x3, x5, x4]; rfl⟩
    refine ⟨n1, ?_, ?_⟩
    · have gf : ValL (sub q 0 (if bb = true then citA q - 1 else citA q)) := by
        cases bb
        · exact g1
        · rw [if_pos rfl]
          have hd : 0 < citA q ∧ bt q (citA q - 1) = 45 := by simpa using hbb
          exact (val_from h0 (Nat.zero_le _) (by omega) (by rw [hd.2]; decide)).1
      have hle : (if bb = true then citA q - 1 else citA q) ≤ citA q := by split <;> omega
      refine part_ok gf fun b hx => ?_
      obtain ⟨j, j1, j2, rfl⟩ := mem_sub hx (by omega)
      refine no j (by omega) fun e => ?_
      have := hin j (Nat.zero_le _) (by omega)
      rw [e] at this
      cases this
    · refine part_ok g3 fun b hx => ?_
      have e9 : sfx q k = sub q k q.size := by
        have := sfx_subV q k q.size n3
        rw [sfx_nil q q.size (Nat.le_refl _), List.append_nil] at this
        exact this
      rw [e9] at hx
      obtain ⟨j, j1, j2, rfl⟩ := mem_sub hx (Nat.le_refl _)
      refine no j j2 fun e => ?_
      have := hin2 j (by omega) (by omega)
      rw [e] at this
      cases this
  · rw [if_neg c1] at hc
    cases hc
theorem allC_ok : ∀ (ps : List (List UInt8)) (cs : List CitL), allC ps = some cs → (∀ p ∈ ps, ValL p ∧ ∀ b ∈ p, badC b = false ∧ b ≠ 59) → cs.length = ps.length ∧ ∀ c ∈ cs, nameB c.key = true ∧ PartOk c.pre ∧ PartOk c.suf
  | [], cs, h, _ => by
    have h : some [] = some cs := h
    have h := Option.some.inj h
    subst h
    exact ⟨rfl, fun c hc => (List.not_mem_nil hc).elim⟩
  | p :: ps, cs, h, hp => by
    unfold allC at h
    cases h1 : citedI (mk p) with
    | none => rw [h1] at h; cases h
    | some x =>
      rw [h1, Option.bind_some] at h
      cases h2 : allC ps with
      | none => rw [h2] at h; cases h
      | some ys =>
        rw [h2] at h
        have h : some (x :: ys) = some cs := h
        have h := Option.some.inj h
        subst h
        obtain ⟨i1, i2⟩ := allC_ok ps ys h2 fun q hq => hp q (List.mem_cons_of_mem _ hq)
        obtain ⟨p1, p2⟩ := hp p List.mem_cons_self
        refine ⟨by rw [List.length_cons, List.length_cons, i1], fun c hc => ?_⟩
        rcases List.mem_cons.1 hc with rfl | hc
        · exact cited_ok (by rw [bytesL_mk']; exact p1) (by rw [bytesL_mk']; exact p2) h1
        · exact i2 c hc
theorem semi_pos (l : List UInt8) : semiL l ≠ [] := semi_ne l
theorem cit_ok {s : ByteArray} {i : Nat} {r : InL × Nat} (h : ValL (sfx s i)) (hi : i < s.size) (hb : bt s i = 91) (hr : citI s i = some r) : RdOk s r := by
  unfold citI at hr
  by_cases c : citE s i < s.size ∧ bt s (citE s i) = 93
  · rw [if_pos c] at hr
    obtain ⟨cs, hcs, rfl⟩ := map_some hr
    have hge := toE_ge s (i + 1) fun b => b == 91 || b == 93
    change i + 1 ≤ citE s i at hge
    have h1 := (val_from h (Nat.le_refl _) hi (by rw [hb]; decide)).2
    obtain ⟨g1, g2⟩ := val_from h1 hge c.1 (by rw [c.2]; decide)
    unfold citesI at hcs
    by_cases hbad : (bytesL (s.extract (i + 1) (citE s i))).any badC = true
    · rw [if_pos hbad] at hcs
      cases hcs
    · rw [if_neg hbad] at hcs
      rw [Bool.not_eq_true, List.any_eq_false] at hbad
      have hv : ValL (bytesL (s.extract (i + 1) (citE s i))) := by rw [bytesL_sub]; exact g1
      obtain ⟨k1, k2⟩ := allC_ok _ cs hcs fun p hp => by
        obtain ⟨a1, a2⟩ := semi_ok _ hv p hp
        exact ⟨a1, fun b hb2 => ⟨by have := hbad b (a2 b hb2).1; simpa using this, (a2 b hb2).2⟩⟩
      refine ⟨.inr (.inr (.inr (.inr (.inr (.inr (.inl ⟨cs, fun e => ?_, k2, rfl⟩)))))), g2⟩
      rw [e] at k1
      exact semi_pos _ (List.length_eq_zero_iff.1 k1.symm)
  · rw [if_neg c] at hr
    cases hr
/-- A piece of clean text, and what is behind it. -/
theorem spec_ok {s : ByteArray} {i : Nat} {p : PcL} (h : ValL (sfx s i)) (hi : i < s.size) (hp : spec s i = some p) : ValL (sfx s p.nd) ∧ (p.kind = 0 → p.inl.kind = 2 ∨ p.inl.kind = 3 ∨ LeafOk p.inl) := by
  have rd : ∀ {o : Option (InL × Nat)}, o.map (pcI · i) = some p → (∀ r, o = some r → RdOk s r) → ValL (sfx s p.nd) ∧ (p.kind = 0 → p.inl.kind = 2 ∨ p.inl.kind = 3 ∨ LeafOk p.inl) := fun ho hr => by
    obtain ⟨r, h1, rfl⟩ := map_some ho
    exact ⟨(hr r h1).2, fun _ => (hr r h1).1⟩
  obtain ⟨e1, e2⟩ := runE_bd s i hi
  unfold spec at hp
  by_cases c0 : bt s i = 92
  · rw [if_pos c0] at hp
    exact rd hp fun r => esc_ok h hi c0
  rw [if_neg c0] at hp
  by_cases c1 : bt s i = 32 ∨ bt s i = 10
  · rw [if_pos c1] at hp
    by_cases d : spAt s i < s.size ∧ bt s (spAt s i) = 10
    · rw [if_pos d] at hp
      have hp := Option.some.inj hp
      subst hp
      obtain ⟨b1, b2⟩ := spAt_bd' s i
      exact ⟨val_sp (val_from h b1 d.1 (by rw [d.2]; decide)).2 (by omega), fun _ => .inl rfl⟩
    · rw [if_neg d] at hp
      cases hp
  rw [if_neg c1] at hp
  by_cases c2 : bt s i = 38
  · rw [if_pos c2] at hp
    exact rd hp fun r => ent_ok h hi
  rw [if_neg c2] at hp
  by_cases c3 : bt s i = 36
  · rw [if_pos c3] at hp
    exact rd hp fun r hr => or_bd (P := RdOk s) hr (fun _ => math_ok h hi c3) fun _ => dol_ok h hi c3
  rw [if_neg c3] at hp
  by_cases c4 : bt s i = 96
  · rw [if_pos c4] at hp
    exact rd hp fun r => code_ok h hi c4
  rw [if_neg c4] at hp
  by_cases c5 : bt s i = 60
  · rw [if_pos c5] at hp
    exact rd hp fun r => aut_ok h hi c5
  rw [if_neg c5] at hp
  by_cases c6 : bt s i = 123
  · rw [if_pos c6] at hp
    exact rd hp fun r => use_ok h hi
  rw [if_neg c6] at hp
  by_cases c7 : bt s i = 91
  · rw [if_pos c7] at hp
    have hp := Option.some.inj hp
    subst hp
    have h1 := (val_from h (Nat.le_refl _) hi (by rw [c7]; decide)).2
    cases hr : (namI s i).or (citI s i) with
    | none => exact ⟨h1, fun e => by cases e⟩
    | some r =>
      have := or_bd (P := RdOk s) hr (fun _ => nam_ok h hi) fun _ => cit_ok h hi c7
      exact ⟨this.2, fun _ => this.1⟩
  rw [if_neg c7] at hp
  by_cases c8 : bt s i = 33
  · rw [if_pos c8] at hp
    by_cases d : i + 1 < s.size ∧ bt s (i + 1) = 91
    · rw [if_pos d] at hp
      have hp := Option.some.inj hp
      subst hp
      have h9 : ValL (sfx s (i + 2)) := val_to h (by omega) (by omega) (by rw [show i + 2 - 1 = i + 1 by omega, d.2]; decide)
      exact ⟨h9, fun e => by cases e⟩
    · rw [if_neg d] at hp
      cases hp
  rw [if_neg c8] at hp
  by_cases c9 : bt s i = 93
  · rw [if_pos c9] at hp
    have hp := Option.some.inj hp
    subst hp
    exact ⟨(val_from h (Nat.le_refl _) hi (by rw [c9]; decide)).2, fun e => by cases e⟩
  rw [if_neg c9] at hp
  by_cases c10 : bt s i = 42 ∨ bt s i = 95 ∨ bt s i = 126 ∧ runE s i - i = 2
  · rw [if_pos c10] at hp
    have hp := Option.some.inj hp
    subst hp
    have h9 : bt s (runE s i - 1) < 128 → ValL (sfx s (runE s i)) := fun h8 => val_to h e1 e2 h8
    refine ⟨h9 ?_, fun e => by cases e⟩
    have hrun := (runF_all s (fun b => b == bt s i) (s.size - i) i (Nat.le_refl _)).1 (runE s i - 1) (by omega) (by unfold runE at e1 ⊢; omega)
    have hrun := beq_iff_eq.1 hrun
    rw [hrun]
    omega
  rw [if_neg c10] at hp
  cases hp
/-- A literal of clean text. -/
theorem lit_ok {s : ByteArray} {i : Nat} (h : ValL (sfx s i)) (hi : i < s.size) (h10 : bt s i ≠ 10) : LineL (sub s i (litE s i)) ∧ ValL (sfx s (litE s i)) := by
  obtain ⟨e1, e2⟩ := runE_bd s i hi
  by_cases c : bt s i = 32 ∨ bt s i = 96 ∨ bt s i = 126
  · have he : litE s i = runE s i := by unfold litE; rw [if_pos c]
    rw [he]
    have hrun : ∀ j, i ≤ j → j < runE s i → bt s j = bt s i := fun j a b => by
      have := (runF_all s (fun b => b == bt s i) (s.size - i) i (Nat.le_refl _)).1 j a (by unfold runE at b; exact b)
      exact beq_iff_eq.1 this
    have hv : ∀ n j, runE s i - j = n → i ≤ j → j ≤ runE s i → ValL (sub s j (runE s i)) := by
      intro n
      induction n with
      | zero =>
        intro j hn a b
        have : j = runE s i := by omega
        subst this
        have : sub s (runE s i) (runE s i) = [] := by unfold sub; simp
        rw [this]; exact ValL.nil
      | succ n ih =>
        intro j hn a b
        rw [sub_consA s j (runE s i) (by omega) (by omega)]
        exact (ValL.byte (b := s.get! j) (by rw [bt_nat, hrun j a (by omega)]; omega)).app (ih (j + 1) (by omega) (by omega) (by omega))
    refine ⟨⟨hv _ i rfl (Nat.le_refl _) (by omega), fun b hb e => ?_⟩, val_to h e1 e2 (by rw [hrun _ (by omega) (by omega)]; omega)⟩
    obtain ⟨j, j1, j2, rfl⟩ := mem_sub hb e2
    have h3 := hrun j j1 j2
    rw [← bt_nat, e] at h3
    exact h10 h3.symm
  · have he : litE s i = i + (Utf8.decode s i).2 := by unfold litE; rw [if_neg c]
    rw [he]
    obtain ⟨g1, g2, g3⟩ := val_head h hi
    have hd := dec_bd s i hi
    refine ⟨⟨by rw [g2]; exact ValL.one g1, fun b hb e => ?_⟩, g3⟩
    rw [g2] at hb
    by_cases h128 : (Utf8.decode s i).1 < 128
    · rw [encL_ascii _ h128, List.mem_singleton] at hb
      rw [hb] at e
      have h4 := congrArg UInt8.toNat e
      rw [ofNat_toNat _ (by omega)] at h4
      have h5 := lf_at s i hi
      rw [h4] at h5
      have : bt s i = 10 := by
        have h6 : ((10 : Nat) == 10) = (bt s i == 10) := h5
        simpa using h6.symm
      exact h10 this
    · have := enc_big g1.1 h128 b hb
      rw [e] at this
      exact absurd this (by decide)
/-- The pieces of clean text that have been found up to i. -/
def LvW (s : ByteArray) (i : Nat) (j : Bool) (acc : List PcL) : Prop :=
  (∀ p : PcL, p ∈ acc → p.kind = 0 → p.inl.kind = 2 ∨ p.inl.kind = 3 ∨ LeafOk p.inl) ∧ (j = true → ∀ k q, acc = k ++ [q] → q.inl = spn 1 (s.extract q.bg i) ∧ q.bg < i ∧ LineL (sub s q.bg i))
theorem sub_app {s : ByteArray} {a b c : Nat} (h1 : a ≤ b) (h2 : b ≤ c) : sub s a c = sub s a b ++ sub s b c := by
  unfold sub
  have h3 : (bytesL s).drop b = ((bytesL s).drop a).drop (b - a) := by rw [List.drop_drop, show a + (b - a) = b by omega]
  rw [h3, show c - a = (b - a) + (c - b) by omega, List.take_add]
theorem spec_lf {s : ByteArray} {i : Nat} (hi : i < s.size) (h : bt s i = 10) : spec s i ≠ none := by
  unfold spec
  have e : spAt s i = i := by unfold spAt; exact spEnd_stop s _ i fun c => by rw [h] at c; cases c.2
  rw [if_neg (by omega), if_pos (.inr h), e, if_pos ⟨hi, h⟩]
  exact fun x => by cases x
theorem scanF_leaf (s : ByteArray) : ∀ (f i : Nat) (j : Bool) (acc : List PcL), ValL (sfx s i) → LvW s i j acc → ∀ p : PcL, p ∈ scanF s f i j acc → p.kind = 0 → p.inl.kind = 2 ∨ p.inl.kind = 3 ∨ LeafOk p.inl
  | 0, _, _, acc, _, h => h.1
  | f + 1, i, j, acc, hv, h => by
    unfold scanF
    by_cases hi : i < s.size
    · rw [if_pos hi]
      cases hs : spec s i with
      | some p =>
        have hpa : pieceA s i = (p, false) := by unfold pieceA; rw [hs]
        obtain ⟨g1, g2⟩ := spec_ok hv hi hs
        simp only [hpa, Bool.false_and, Bool.false_eq_true, if_false]
        refine scanF_leaf s f p.nd false _ g1 ⟨fun x hx => ?_, fun e => by cases e⟩
        rcases List.mem_append.1 hx with hx | hx
        · exact h.1 x hx
        · rw [List.mem_singleton] at hx
          subst hx
          exact g2
      | none =>
        have hpa : pieceA s i = (litP s i (litE s i), true) := by unfold pieceA; rw [hs]
        have h10 : bt s i ≠ 10 := fun e => spec_lf hi e hs
        obtain ⟨l1, l2⟩ := lit_ok hv hi h10
        obtain ⟨e1, e2⟩ := litE_bd s i hi
        have tx : ∀ a, a < litE s i → LineL (sub s a (litE s i)) → LeafOk (spn 1 (s.extract a (litE s i))) := fun a ha hl => .inl ⟨1, _, .inl rfl, ⟨size_sub' ha e2, by rw [bytesL_sub]; exact hl⟩, rfl⟩
        simp only [hpa, Bool.true_and]
        cases j with
        | false =>
          simp only [Bool.false_eq_true, if_false]
          refine scanF_leaf s f (litE s i) true _ l2 ⟨fun x hx => ?_, fun _ k q e => ?_⟩
          · rcases List.mem_append.1 hx with hx | hx
            · exact h.1 x hx
            · rw [List.mem_singleton] at hx
              subst hx
              exact fun _ => .inr (.inr (tx i e1 l1))
          · obtain ⟨-, e2⟩ := List.append_inj' e rfl
            injection e2 with e2
            subst e2
            exact ⟨rfl, e1, l1⟩
        | true =>
          simp only [if_true]
          by_cases hne : acc = []
          · subst hne
            refine scanF_leaf s f (litE s i) true _ l2 ⟨fun x hx => (List.not_mem_nil hx).elim, fun _ k q e => ?_⟩
            have := congrArg List.length e
            simp [joinP] at this
          · obtain ⟨k, q, rfl⟩ := snoc_of acc hne
            obtain ⟨q1, q2, q3⟩ := h.2 rfl k q rfl
            have q4 : LineL (sub s q.bg (litE s i)) := by
              rw [sub_app (Nat.le_of_lt q2) (Nat.le_of_lt e1)]
              exact ⟨q3.1.app l1.1, fun b hb => (List.mem_append.1 hb).elim (q3.2 b) (l1.2 b)⟩
            show ∀ p : PcL, p ∈ scanF s f (litE s i) true (joinP s (k ++ [q]) (litE s i)) → _
            rw [joinP_snoc]
            have hq : ({ q with nd := litE s i, inl := { q.inl with text := s.extract q.bg (litE s i) } } : PcL).inl = spn 1 (s.extract q.bg (litE s i)) := by
              show ({ q.inl with text := s.extract q.bg (litE s i) } : InL) = _
              rw [q1]; rfl
            refine scanF_leaf s f (litE s i) true _ l2 ⟨fun x hx => ?_, fun _ k' q' e => ?_⟩
            · rcases List.mem_append.1 hx with hx | hx
              · exact h.1 x (List.mem_append_left _ hx)
              · rw [List.mem_singleton] at hx
                subst hx
                intro _
                rw [hq]
                exact .inr (.inr (tx q.bg (by omega) q4))
            · obtain ⟨-, e2⟩ := List.append_inj' e rfl
              injection e2 with e2
              subst e2
              exact ⟨hq, by show q.bg < litE s i; omega, q4⟩
    · rw [if_neg hi]
      exact h.1
/-- The inlines of clean text. -/
theorem scan_leaf {s : ByteArray} (h : ValL (bytesL s)) : ∀ p : PcL, p ∈ scanP s → p.kind = 0 → p.inl.kind = 2 ∨ p.inl.kind = 3 ∨ LeafOk p.inl :=
  scanF_leaf s s.size 0 false [] h ⟨fun p hp => (List.not_mem_nil hp).elim, fun e => by cases e⟩
end Go.Pub
namespace Go.Pub
theorem citedI_eq (p : ByteArray) (a f : Nat) (b : Bool) (ha : citA p = a) (hb : b = (decide (0 < a) && bt p (a - 1) == 45)) (hf : f = if b = true then a - 1 else a) : citedI p =
    if a < p.size ∧ toE p (a + 1) (fun b => b == 64) ≥ p.size ∧ (f = 0 ∨ bt p (f - 1) = 32) then
      (if nameB (p.extract (a + 1) (wordAt p (a + 1))) = true then some ⟨p.extract (a + 1) (wordAt p (a + 1)), mk (trimL (sub p 0 f)), mk (trimL (sfx p (wordAt p (a + 1)))), b⟩ else none)
    else none := by
  subst hf hb ha
  unfold citedI nmEnd
  dsimp only
  by_cases h : nameB (p.extract (citA p + 1) (wordAt p (citA p + 1))) = true
  · rw [if_pos h, if_pos h]; rfl
  · rw [if_neg h, if_neg h]; rfl
end Go.Pub
namespace Go.Proofs.YtcjkgmfidkgamaaGreatDoor
open Go.RowKit Go.Pub
def zCit : Array Value := #[.string ⟨#[]⟩, .string ⟨#[]⟩, .string ⟨#[]⟩, .bool false]
def citV (r : Option CitL) : Value := match r with
  | none => .agg zCit
  | some c => .agg #[.string c.key, .string c.pre, .string c.suf, .bool c.bare]
def CitPost (r : Option CitL) (w : World) (e : Ending) (w' : World) : Prop := e = .returned (.tuple #[citV r, .bool r.isSome]) ∧ Below w.heap.size w w'
theorem cit_facts {W : World} {g : Nat} {T : TypeId} {x0 x1 x2 x3 : Value} (h : Blk W g T #[x0, x1, x2, x3]) : W.cell? ⟨g, 0, none⟩ = some x0 ∧ W.cell? ⟨g, 1, none⟩ = some x1 ∧ W.cell? ⟨g, 2, none⟩ = some x2 ∧ W.cell? ⟨g, 3, none⟩ = some x3 ∧ W.frozen? ⟨g, 0, none⟩ = false ∧ W.frozen? ⟨g, 1, none⟩ = false ∧ W.frozen? ⟨g, 2, none⟩ = false ∧ W.frozen? ⟨g, 3, none⟩ = false :=
  ⟨h.cell 0, h.cell 1, h.cell 2, h.cell 3, h.frozen 0, h.frozen 1, h.frozen 2, h.frozen 3⟩
theorem blk4 {W : World} {g : Nat} {T : TypeId} {x0 x1 x2 x3 : Value} (h : Blk W g T #[x0, x1, x2, x3]) (y0 y1 y2 y3 : Value) : Blk ((((W.setCell ⟨g, 0, none⟩ y0).setCell ⟨g, 1, none⟩ y1).setCell ⟨g, 2, none⟩ y2).setCell ⟨g, 3, none⟩ y3) g T #[y0, y1, y2, y3] := by
  have h0 := h.set_ 0 y0
  rw [show (#[x0, x1, x2, x3] : Array Value).setIfInBounds 0 y0 = #[y0, x1, x2, x3] from rfl] at h0
  have h1 := h0.set_ 1 y1
  rw [show (#[y0, x1, x2, x3] : Array Value).setIfInBounds 1 y1 = #[y0, y1, x2, x3] from rfl] at h1
  have h2 := h1.set_ 2 y2
  rw [show (#[y0, y1, x2, x3] : Array Value).setIfInBounds 2 y2 = #[y0, y1, y2, x3] from rfl] at h2
  have h3 := h2.set_ 3 y3
  rw [show (#[y0, y1, y2, x3] : Array Value).setIfInBounds 3 y3 = #[y0, y1, y2, y3] from rfl] at h3
  exact h3
theorem below4 {B : Nat} {w W : World} (h : Below B w W) {g : Nat} (hg : B ≤ g) (y0 y1 y2 y3 : Value) : Below B w ((((W.setCell ⟨g, 0, none⟩ y0).setCell ⟨g, 1, none⟩ y1).setCell ⟨g, 2, none⟩ y2).setCell ⟨g, 3, none⟩ y3) :=
  (((h.setCell (p := ⟨g, 0, none⟩) hg y0).setCell (p := ⟨g, 1, none⟩) hg y1).setCell (p := ⟨g, 2, none⟩) hg y2).setCell (p := ⟨g, 3, none⟩) hg y3
theorem cit_ret {F : Func} {a b : Nat} {W : World} {g : Nat} {x0 x1 x2 x3 : Value} {u : Value} {P : Ending → World → Prop} {act : Act} (hF : F.results = #[ResultVar.cell a 47, ResultVar.tmp b]) (hr : Blk W g 47 #[x0, x1, x2, x3]) (h4 : act.tmps.getD a undef = .pointer (some ⟨g, 0, none⟩)) (h5 : act.tmps.getD b undef = u) (hd : act.defers = []) (hP : P (.returned (.tuple #[.agg #[x0, x1, x2, x3], u])) W) : bodyPost Tryz.prog F P Exit.ret act W := by
  obtain ⟨c0, c1, c2, c3, _⟩ := cit_facts hr
  refine bodyPost_ret (v := .tuple #[.agg #[x0, x1, x2, x3], u]) ?_ hd hP
  rw [Array.getD_eq_getD_getElem?] at h4 h5
  simp [results, hF, go_sem, h4, h5, c0, c1, c2, c3]
theorem byte_any (s : ByteArray) (i : Nat) (W : World) (hi : i ≤ s.size) : Calls Tryz.prog 63 #[.string (s.extract i s.size), .int .u8 64] W fun e w' => e = .returned (.int .i64 (if toE s i (fun b => b == 64) < s.size then ((toE s i (fun b => b == 64) - i : Nat) : Int) else -1)) ∧ W = w' := by
  refine (Tryz.strings_IndexByte (s.extract i s.size) 64 W).mono ?_
  rintro e w' ⟨rfl, rfl⟩
  refine ⟨ret_int ?_, rfl⟩
  exact toE_byte s i 64 hi
theorem trim_any (s : ByteArray) (W : World) (hs : s.size ≤ 1000000) : Calls Tryz.prog 65 #[.string s, .string ⟨#[32]⟩] W fun e w' => e = .returned (.string (mk (trimL (bytesL s)))) ∧ Below W.heap.size W w' := by
  refine (Tryz.strings_Trim_one s 32 (by decide) W (by omega)).mono ?_
  rintro e w' ⟨rfl, rfl | h⟩
  · exact ⟨rfl, Below.refl _ _⟩
  · exact ⟨rfl, by rw [h]; exact (Below.refl _ _).drew⟩
set_option maxRecDepth 100000 in
set_option maxHeartbeats 8000000 in
theorem s_cited (p : ByteArray) (w : World) (hs : p.size ≤ 1000000) : Calls Tryz.prog 35 #[.string p] w (CitPost (citedI p) w) := by
  obtain ⟨a, ha⟩ : ∃ a, a = citA p := ⟨_, rfl⟩
  have haE : toE p 0 (fun b => b == 64) = a := ha.symm
  have hale : a ≤ p.size := by rw [← haE]; exact toE_le p 0 _ (by omega)
  have HI := Lib.hid fun W => byte_any p 0 W (by omega)
  rw [haE, show p.extract 0 p.size = p from ByteArray.extract_zero_size] at HI
  obtain ⟨b, hb⟩ : ∃ b, b = (decide (0 < a) && bt p (a - 1) == 45) := ⟨_, rfl⟩
  obtain ⟨f, hf⟩ : ∃ f, f = if b = true then a - 1 else a := ⟨_, rfl⟩
  have HR := Lib.hid (citedI_eq p a f b ha.symm hb hf)
  generalize citedI p = R at *
  clear ha haE
  by_cases h1 : a < p.size
  · rw [if_pos h1, Nat.sub_zero] at HI
    have HJ := Lib.hid fun W => byte_any p (a + 1) W (by omega)
    have hT := toE_ge p (a + 1) fun b => b == 64
    generalize toE p (a + 1) (fun b => b == 64) = T at *
    by_cases h2 : T < p.size
    · have HF : Hid (R = none) := Lib.hid (by rw [HR.out, if_neg fun c => by omega])
      rw [if_pos h2] at HJ
      have hge : (0 : Int) ≤ ((T - (a + 1) : Nat) : Int) := by omega
      generalize ((T - (a + 1) : Nat) : Int) = n2 at *
      clear HR hb hf
      go_enter Tryz.func35, Tryz.ntmps35
      go_wp2_with fail
      ((with_reducible refine (HI.out _).mono ?_))
      rintro e w1 ⟨rfl, rfl⟩
      go_wp2_with fail
      ((with_reducible refine (HJ.out _).mono ?_))
      rintro e w1 ⟨rfl, rfl⟩
      go_wp2_with fail
      exact cit_ret Tryz.results35 (Blk.new w _ _) rfl rfl rfl ⟨by rw [HF.out]; rfl, (Below.refl _ w).alloc (Nat.le_refl _) _⟩
    · rw [if_neg h2] at HJ
      have HA := Lib.hid fun W => name_any (p.extract (a + 1) (wordAt p (a + 1))) W (by rw [ByteArray.size_extract]; omega)
      have HN := Lib.hid fun W => s_nameEnd p (a + 1) W hs
      have HT1 := Lib.hid fun W => trim_any (p.extract 0 f) W (by rw [ByteArray.size_extract]; omega)
      have HT2 := Lib.hid fun W => trim_any (p.extract (wordAt p (a + 1)) p.size) W (by rw [ByteArray.size_extract]; omega)
      rw [bytesL_sub] at HT1
      rw [suffix_bytes] at HT2
      have hk1 := (wordAt_bd p (a + 1)).1
      have hk2 := (wordAt_bd p (a + 1)).2 h1
      have hfa : f ≤ a := by rw [hf]; split <;> omega
      have HR2 : Hid (R = if f = 0 ∨ bt p (f - 1) = 32 then (if nameB (p.extract (a + 1) (wordAt p (a + 1))) = true then some ⟨p.extract (a + 1) (wordAt p (a + 1)), mk (trimL (sub p 0 f)), mk (trimL (sfx p (wordAt p (a + 1)))), b⟩ else none) else none) := Lib.hid (by
        rw [HR.out]
        by_cases h : f = 0 ∨ bt p (f - 1) = 32
        · rw [if_pos h, if_pos ⟨h1, by omega, h⟩]
        · rw [if_neg h, if_neg fun c => h c.2.2])
      have hKz : (p.extract (wordAt p (a + 1)) p.size).size = (p.extract (wordAt p (a + 1)) p.size).size := rfl
      clear HR hKz
      generalize wordAt p (a + 1) = K at *
      generalize trimL (sub p 0 f) = t1 at *
      generalize trimL (sfx p K) = t2 at *
      generalize nameB (p.extract (a + 1) K) = nm at *
      go_enter Tryz.func35, Tryz.ntmps35
      go_wp2_with fail
      ((with_reducible refine (HI.out _).mono ?_))
      rintro e w1 ⟨rfl, rfl⟩
      go_wp2_with fail
      ((with_reducible refine (HJ.out _).mono ?_))
      rintro e w1 ⟨rfl, rfl⟩
      have hB0 : Blk ((w.alloc (.cells #[.string ⟨#[]⟩, .string ⟨#[]⟩, .string ⟨#[]⟩, .bool false] 47)).alloc (.cells #[.string ⟨#[]⟩, .string ⟨#[]⟩, .string ⟨#[]⟩, .bool false] 47)) w.heap.size 47 zCit := (Blk.new w _ _).alloc _
      have hB1 : Blk ((w.alloc (.cells #[.string ⟨#[]⟩, .string ⟨#[]⟩, .string ⟨#[]⟩, .bool false] 47)).alloc (.cells #[.string ⟨#[]⟩, .string ⟨#[]⟩, .string ⟨#[]⟩, .bool false] 47)) (w.heap.size + 1) 47 #[.string ⟨#[]⟩, .string ⟨#[]⟩, .string ⟨#[]⟩, .bool false] := by
        have := Blk.new (w.alloc (.cells #[.string ⟨#[]⟩, .string ⟨#[]⟩, .string ⟨#[]⟩, .bool false] 47)) 47 #[.string ⟨#[]⟩, .string ⟨#[]⟩, .string ⟨#[]⟩, .bool false]
        simpa using this
      have hBw : Below w.heap.size w ((w.alloc (.cells #[.string ⟨#[]⟩, .string ⟨#[]⟩, .string ⟨#[]⟩, .bool false] 47)).alloc (.cells #[.string ⟨#[]⟩, .string ⟨#[]⟩, .string ⟨#[]⟩, .bool false] 47)) := ((Below.refl _ _).alloc (Nat.le_refl _) _).alloc (by simp) _
      go_upto_region 6 with fail
      generalize ((w.alloc (.cells #[.string ⟨#[]⟩, .string ⟨#[]⟩, .string ⟨#[]⟩, .bool false] 47)).alloc (.cells #[.string ⟨#[]⟩, .string ⟨#[]⟩, .string ⟨#[]⟩, .bool false] 47)) = W0 at *
      have HB0 := Lib.hid hB0
      have HB1 := Lib.hid hB1
      have HBw := Lib.hid hBw
      clear hB0 hB1 hBw
      go_cut [30] (fun s30 wx => s30 = .bool b ∧ W0 = wx)
      case first =>
        clear HR2 HT1 HT2 HA HN HI HJ HB0 HB1 HBw
        by_cases h0 : 0 < a
        · have ea : (a : Int) - 1 = ((a - 1 : Nat) : Int) := by omega
          have hga := get_bt p (a - 1) (by omega)
          have ha1 : a - 1 < p.size := by omega
          by_cases h45 : bt p (a - 1) = 45
          · obtain rfl : b = true := by rw [hb, h45, decide_eq_true h0]; rfl
            rw [h45] at hga
            clear hb hf h45
            go_wp2_with fail
            go_meet
            case rel => exact ⟨rfl, rfl⟩
          · obtain rfl : b = false := by rw [hb, beq_eq_false_iff_ne.2 h45, Bool.and_false]
            have n1 : ((bt p (a - 1) : Int) == 45) = false := beq_eq_false_iff_ne.2 (by omega)
            clear hb hf h45
            generalize bt p (a - 1) = ch at *
            go_wp2_with fail
            go_meet
            case rel => exact ⟨rfl, rfl⟩
        · obtain rfl : b = false := by rw [hb, decide_eq_false h0]; rfl
          clear hb hf
          go_wp2_with fail
          go_meet
          case rel => exact ⟨rfl, rfl⟩
      case rest =>
      obtain ⟨rfl, rfl⟩ := hcut
      have hba : b = true → 0 < a := fun h => by
        rcases Nat.eq_zero_or_pos a with x | x
        · rw [h, x] at hb; simp at hb
        · exact x
      go_upto_if 30 with fail
      go_cut [6] (fun s6 wx => s6 = .int .i64 f ∧ Blk wx w.heap.size 47 zCit ∧ Blk wx (w.heap.size + 1) 47 #[.string ⟨#[]⟩, .string ⟨#[]⟩, .string ⟨#[]⟩, .bool b] ∧ Below w.heap.size w wx)
      case first =>
        clear HR2 HT1 HT2 HA HN HI HJ hb
        cases b
        · obtain rfl : f = a := by rw [hf, if_neg (by simp)]
          clear hf
          go_wp2_with fail
          go_meet
          case rel => exact ⟨rfl, HB0.out, HB1.out, HBw.out⟩
        · obtain rfl : f = a - 1 := by rw [hf, if_pos rfl]
          have h0 := hba rfl
          have ea : (a : Int) - 1 = ((a - 1 : Nat) : Int) := by omega
          have g3 : W0.frozen? ⟨w.heap.size + 1, 3, none⟩ = false := HB1.out.frozen 3
          have k3 : W0.cell? ⟨w.heap.size + 1, 3, none⟩ = some (.bool false) := HB1.out.cell 3
          clear hf hba
          go_wp2_with fail
          go_meet
          case rel => exact ⟨rfl, HB0.out.far (by simp) _, HB1.out.set_ 3 _, HBw.out.setCell (by simp) _⟩
      case rest =>
      obtain ⟨rfl, hb0, hb1, hbw⟩ := hcut
      have HB0 := Lib.hid hb0
      have HB1 := Lib.hid hb1
      have HBw := Lib.hid hbw
      obtain ⟨c0, c1, c2, c3, f0, f1, f2, f3⟩ := cit_facts hb0
      obtain ⟨k0, k1, k2, k3, g0, g1, g2, g3⟩ := cit_facts hb1
      have hz := hb1.lt
      clear hb0 hb1 hbw hb hf HI HJ
      by_cases hok : f = 0 ∨ bt p (f - 1) = 32
      · have HR3 := Lib.hid (HR2.out.trans (if_pos hok))
        clear HR2
        have HSP : 0 < f → f - 1 < p.size ∧ bt p (f - 1) = 32 := fun h => ⟨by omega, by rcases hok with h2 | h2 <;> omega⟩
        have HGF : Hid (∀ h : f - 1 < p.size, ((p[f - 1]'h).toNat : Int) = (bt p (f - 1) : Int)) := Lib.hid fun h => by rw [get_bt p (f - 1) h]
        clear hok
        have hya : a + 1 ≤ K := hk1
        by_cases h0 : 0 < f
        · obtain ⟨hf1, h32⟩ := HSP h0
          have hgf := HGF.out hf1
          rw [h32] at hgf
          have ef : (f : Int) - 1 = ((f - 1 : Nat) : Int) := by omega
          clear h32 HSP HGF
          go_wp2_with fail
          (refine (HN.out _).mono ?_)
          rintro e w1 ⟨rfl, rfl⟩
          go_wp2_with fail
          ((with_reducible refine (HT1.out _).mono ?_))
          rintro e w1 ⟨rfl, b1⟩
          have s0 := (HB0.out.far (p := ⟨w.heap.size + 1, 0, none⟩) (by simp) (.string (p.extract (a + 1) K)))
          have s1 := (HB1.out.set_ 0 (.string (p.extract (a + 1) K)))
          have v0 := s0.below b1 s0.lt
          have v1 := s1.below b1 s1.lt
          have vw := (HBw.out.setCell (p := ⟨w.heap.size + 1, 0, none⟩) (by simp) (.string (p.extract (a + 1) K))).trans (b1.mono (Nat.le_of_lt s0.lt))
          have V0 := Lib.hid v0
          have V1 := Lib.hid v1
          have Vw := Lib.hid vw
          clear s0 s1 b1 v0 vw c0 c1 c2 c3 f0 f1 f2 f3 k0 k1 k2 k3 g0 g1 g2 g3 HB0 HB1 HBw
          obtain ⟨k0, k1, k2, k3, g0, g1, g2, g3⟩ := cit_facts (show Blk w1 (w.heap.size + 1) 47 #[.string (p.extract (a + 1) K), .string ⟨#[]⟩, .string ⟨#[]⟩, .bool b] from v1)
          clear v1
          go_wp2_with fail
          ((with_reducible refine (HT2.out _).mono ?_))
          rintro e w2 ⟨rfl, b2⟩
          have s0 := (V0.out.far (p := ⟨w.heap.size + 1, 1, none⟩) (by simp) (.string (mk t1)))
          have s1 := (V1.out.set_ 1 (.string (mk t1)))
          have v0 := (s0.below b2 s0.lt).far (p := ⟨w.heap.size + 1, 2, none⟩) (by simp) (.string (mk t2))
          have v1 := s1.below b2 s1.lt
          have v2 := v1.set_ 2 (.string (mk t2))
          have vw := ((Vw.out.setCell (p := ⟨w.heap.size + 1, 1, none⟩) (by simp) (.string (mk t1))).trans (b2.mono (Nat.le_of_lt s0.lt))).setCell (p := ⟨w.heap.size + 1, 2, none⟩) (by simp) (.string (mk t2))
          have U0 := Lib.hid v0
          have U1 : Hid (Blk (w2.setCell ⟨w.heap.size + 1, 2, none⟩ (.string (mk t2))) (w.heap.size + 1) 47 #[.string (p.extract (a + 1) K), .string (mk t1), .string (mk t2), .bool b]) := Lib.hid v2
          have Uw := Lib.hid vw
          have g2' : w2.frozen? ⟨w.heap.size + 1, 2, none⟩ = false := v1.frozen 2
          have k2' : w2.cell? ⟨w.heap.size + 1, 2, none⟩ = some (.string ⟨#[]⟩) := v1.cell 2
          have k0' : w2.cell? ⟨w.heap.size + 1, 0, none⟩ = some (.string (p.extract (a + 1) K)) := v1.cell 0
          have k1' : w2.cell? ⟨w.heap.size + 1, 1, none⟩ = some (.string (mk t1)) := v1.cell 1
          have k3' : w2.cell? ⟨w.heap.size + 1, 3, none⟩ = some (.bool b) := v1.cell 3
          have z0 := s0.below b2 s0.lt
          obtain ⟨c0, c1, c2, c3, f0, f1, f2, f3⟩ := cit_facts z0
          clear s0 s1 b2 v0 v1 v2 vw z0 k0 k1 k2 k3 g0 g1 g2 g3 V0 V1 Vw
          go_wp2_with fail
          ((with_reducible refine (HA.out _).mono ?_))
          rintro e w3 ⟨rfl, rfl⟩
          cases nm
          · have HF : Hid (R = none) := Lib.hid (HR3.out.trans (if_neg (by simp)))
            clear HR3
            go_wp2_with fail
            exact cit_ret Tryz.results35 (blk4 U0.out _ _ _ _) rfl rfl rfl ⟨by rw [HF.out]; rfl, below4 Uw.out (Nat.le_refl _) _ _ _ _⟩
          · have HF : Hid (R = some ⟨p.extract (a + 1) K, mk t1, mk t2, b⟩) := Lib.hid (HR3.out.trans (if_pos rfl))
            clear HR3
            go_wp2_with fail
            exact cit_ret Tryz.results35 (blk4 U0.out _ _ _ _) rfl rfl rfl ⟨by rw [HF.out]; rfl, below4 Uw.out (Nat.le_refl _) _ _ _ _⟩
        · clear HSP HGF
          go_wp2_with fail
          (refine (HN.out _).mono ?_)
          rintro e w1 ⟨rfl, rfl⟩
          go_wp2_with fail
          ((with_reducible refine (HT1.out _).mono ?_))
          rintro e w1 ⟨rfl, b1⟩
          have s0 := (HB0.out.far (p := ⟨w.heap.size + 1, 0, none⟩) (by simp) (.string (p.extract (a + 1) K)))
          have s1 := (HB1.out.set_ 0 (.string (p.extract (a + 1) K)))
          have v0 := s0.below b1 s0.lt
          have v1 := s1.below b1 s1.lt
          have vw := (HBw.out.setCell (p := ⟨w.heap.size + 1, 0, none⟩) (by simp) (.string (p.extract (a + 1) K))).trans (b1.mono (Nat.le_of_lt s0.lt))
          have V0 := Lib.hid v0
          have V1 := Lib.hid v1
          have Vw := Lib.hid vw
          clear s0 s1 b1 v0 vw c0 c1 c2 c3 f0 f1 f2 f3 k0 k1 k2 k3 g0 g1 g2 g3 HB0 HB1 HBw
          obtain ⟨k0, k1, k2, k3, g0, g1, g2, g3⟩ := cit_facts (show Blk w1 (w.heap.size + 1) 47 #[.string (p.extract (a + 1) K), .string ⟨#[]⟩, .string ⟨#[]⟩, .bool b] from v1)
          clear v1
          go_wp2_with fail
          ((with_reducible refine (HT2.out _).mono ?_))
          rintro e w2 ⟨rfl, b2⟩
          have s0 := (V0.out.far (p := ⟨w.heap.size + 1, 1, none⟩) (by simp) (.string (mk t1)))
          have s1 := (V1.out.set_ 1 (.string (mk t1)))
          have v0 := (s0.below b2 s0.lt).far (p := ⟨w.heap.size + 1, 2, none⟩) (by simp) (.string (mk t2))
          have v1 := s1.below b2 s1.lt
          have v2 := v1.set_ 2 (.string (mk t2))
          have vw := ((Vw.out.setCell (p := ⟨w.heap.size + 1, 1, none⟩) (by simp) (.string (mk t1))).trans (b2.mono (Nat.le_of_lt s0.lt))).setCell (p := ⟨w.heap.size + 1, 2, none⟩) (by simp) (.string (mk t2))
          have U0 := Lib.hid v0
          have U1 : Hid (Blk (w2.setCell ⟨w.heap.size + 1, 2, none⟩ (.string (mk t2))) (w.heap.size + 1) 47 #[.string (p.extract (a + 1) K), .string (mk t1), .string (mk t2), .bool b]) := Lib.hid v2
          have Uw := Lib.hid vw
          have g2' : w2.frozen? ⟨w.heap.size + 1, 2, none⟩ = false := v1.frozen 2
          have k2' : w2.cell? ⟨w.heap.size + 1, 2, none⟩ = some (.string ⟨#[]⟩) := v1.cell 2
          have k0' : w2.cell? ⟨w.heap.size + 1, 0, none⟩ = some (.string (p.extract (a + 1) K)) := v1.cell 0
          have k1' : w2.cell? ⟨w.heap.size + 1, 1, none⟩ = some (.string (mk t1)) := v1.cell 1
          have k3' : w2.cell? ⟨w.heap.size + 1, 3, none⟩ = some (.bool b) := v1.cell 3
          have z0 := s0.below b2 s0.lt
          obtain ⟨c0, c1, c2, c3, f0, f1, f2, f3⟩ := cit_facts z0
          clear s0 s1 b2 v0 v1 v2 vw z0 k0 k1 k2 k3 g0 g1 g2 g3 V0 V1 Vw
          go_wp2_with fail
          ((with_reducible refine (HA.out _).mono ?_))
          rintro e w3 ⟨rfl, rfl⟩
          cases nm
          · have HF : Hid (R = none) := Lib.hid (HR3.out.trans (if_neg (by simp)))
            clear HR3
            go_wp2_with fail
            exact cit_ret Tryz.results35 (blk4 U0.out _ _ _ _) rfl rfl rfl ⟨by rw [HF.out]; rfl, below4 Uw.out (Nat.le_refl _) _ _ _ _⟩
          · have HF : Hid (R = some ⟨p.extract (a + 1) K, mk t1, mk t2, b⟩) := Lib.hid (HR3.out.trans (if_pos rfl))
            clear HR3
            go_wp2_with fail
            exact cit_ret Tryz.results35 (blk4 U0.out _ _ _ _) rfl rfl rfl ⟨by rw [HF.out]; rfl, below4 Uw.out (Nat.le_refl _) _ _ _ _⟩
      · have HF : Hid (R = none) := Lib.hid (HR2.out.trans (if_neg hok))
        have hf0 : 0 < f := by omega
        have ef : (f : Int) - 1 = ((f - 1 : Nat) : Int) := by omega
        have hgf := get_bt p (f - 1) (by omega)
        have hf1 : f - 1 < p.size := by omega
        have n1 : ((bt p (f - 1) : Int) != 32) = true := bne_iff_ne.2 (by omega)
        clear hok HR2 HT1 HT2 HA HN
        go_wp2_with fail
        exact cit_ret Tryz.results35 (blk4 HB0.out _ _ _ _) rfl rfl rfl ⟨by rw [HF.out]; rfl, below4 HBw.out (Nat.le_refl _) _ _ _ _⟩
  · rw [if_neg h1] at HI
    have HF : Hid (R = none) := Lib.hid (by rw [HR.out, if_neg fun c => h1 c.1])
    clear HR hb hf
    go_enter Tryz.func35, Tryz.ntmps35
    go_wp2_with fail
    ((with_reducible refine (HI.out _).mono ?_))
    rintro e w1 ⟨rfl, rfl⟩
    go_wp2_with fail
    exact cit_ret Tryz.results35 (Blk.new w _ _) rfl rfl rfl ⟨by rw [HF.out]; rfl, (Below.refl _ w).alloc (Nat.le_refl _) _⟩

end Go.Proofs.YtcjkgmfidkgamaaGreatDoor
namespace Go.Pub
open Go.RowKit
variable {F : Fence} {n : Nat} {P : Program}
/-- An iterator's word, where the iterator may step by St: J stands over its steps. -/
def SeqSteps {α : Type} (F : Fence) (n : Nat) (P : Program) (g : Nat) (lb : Array Value) (encs : α → Array Value) (Kp St : World → World → Prop) (S Sp : List α → Prop) (N : Nat) (w : World) : Prop :=
  ∀ (l : Nat) (J Jx : List α → World → Prop) (W : World), Below w.heap.size w W → AbidesFrom W.heap.size J → (∀ pre A B, J pre A → St A B → J pre B) →
    (∀ pre x W1, J pre W1 → pre.length < N → YieldAt F (n - 1) P l (encs x) W1 fun e W' =>
      (e = .returned (.bool true) ∧ J (pre ++ [x]) W' ∧ Kp W1 W') ∨ (e = .returned (.bool false) ∧ Jx (pre ++ [x]) W')) →
    J [] W →
    CallsIn F n P g (#[.func (.yield l) #[] #[]] ++ lb) W fun e W' => (∃ v, e = .returned v) ∧ ((∃ xs, S xs ∧ J xs W') ∨ (∃ pre, Sp pre ∧ Jx pre W'))
theorem range_steps {α : Type} {g : Operand} {ps : Array Tmp} {assign body : Code} {Q : Exit → Act → World → Prop} {a : Act} {w : World}
    (hro : F.round = none) (h1 : 1 ≤ n) {gf : Nat} {lb : Array Value} (hg : a.eval g = .func (.func gf) #[] lb) (hFg : F.fn gf) (eg : ∀ args w, (callFunc gf args).run P w = .ok (.enter gf args) w)
    {encs : α → Array Value} {Kp St : World → World → Prop} {S Sp : List α → Prop} {N : Nat} (hseq : SeqSteps F (n - 1) P gf lb encs Kp St S Sp N w)
    (hKt : ∀ {A B C : World}, Kp A B → Kp B C → Kp A C) (hKb : ∀ (W : World) (l : Nat) (o o' : Obj), w.heap.size ≤ l → W.heap[l]? = some o → o.isCells = false → o.isWalk = false → Kp W (W.putObj l o')) (hps : ∀ x, (encs x).size = ps.size)
    (I : List α → World → Prop) (Ix : Code → List α → World → Prop) (hI : OwnFrom w.heap.size I) (hIx : ∀ c, OwnFrom w.heap.size (Ix c)) (hIs : ∀ pre A B, I pre A → St A B → I pre B) (hSb : ∀ A B, St A B → ∀ k, w.heap.size ≤ k → B.heap[k]? = A.heap[k]?) (h0 : I [] w) (a₁ : α → Act)
    (hassign : ∀ (l : Nat) (x : α) (W : World) (K : Act → World → Prop), K (a₁ x) W →
      assign.wpIn (F.inRound l) (n - 1 - 1) P (Exit.then K (fun _ _ _ => False)) { tmps := (ps.zip (encs x)).foldl (fun t (p, v) => t.setIfInBounds p v) a.tmps, defers := [] } W)
    (hbody : ∀ (l : Nat) (pre : List α) (x : α) (W : World), I pre W → pre.length < N → body.wpIn (F.inRound l) (n - 1 - 1) P (ownPostG w.heap.size Kp I Ix (pre ++ [x]) W) (a₁ x) W)
    (hdone : ∀ (D : Nat) (xs : List α) (W : World), w.heap.size ≤ D → S xs → I xs W → W.heap[D]? = some (.deferred (some [])) → Q .normal { a with defers := { target := .collected D, args := #[] } :: a.defers } W)
    (hstop : ∀ (D : Nat) (c : Code) (pre : List α) (W : World), w.heap.size ≤ D → Sp pre → Ix c pre W → W.heap[D]? = some (.deferred (some [])) → c.wpIn F n P Q { a with defers := { target := .collected D, args := #[] } :: a.defers } W) :
    (Code.rangeFunc g ps assign body).wpIn F n P Q a w := by
  refine wpIn_rangeFunc ?_
  intro fn hfn
  rw [hro]
  obtain ⟨rec, hrec⟩ : ∃ rec : LoopState → Option Code → Loop, rec = fun st pe => { state := st, pending := pe, fn, tmps := a.tmps, params := ps, assign, body, defers := w.heap.size } := ⟨_, rfl⟩
  obtain ⟨W1, hW1⟩ : ∃ W1, (w.alloc (.deferred (some []))).alloc (.loop (rec .ready none)) = W1 := ⟨_, rfl⟩
  have z1 : W1.heap.size = w.heap.size + 2 := by rw [← hW1]; simp
  have hL1 : W1.heap[w.heap.size + 1]? = some (.loop (rec .ready none)) := by
    have := World.alloc_heap_new (w.alloc (.deferred (some []))) (.loop (rec .ready none))
    rw [World.size_alloc, hW1] at this; exact this
  have hK1 : W1.heap[w.heap.size]? = some (.deferred (some [])) := by
    rw [← hW1]; exact (Below.heap_alloc _ _ _ (by simp)).trans (World.alloc_heap_new w _)
  have hI1 : I [] W1 := by rw [← hW1]; exact hI.alloc _ (hI.alloc _ h0)
  have hb1 : Below w.heap.size w W1 := by rw [← hW1]; exact ((Below.refl _ w).alloc (Nat.le_refl _) _).alloc (by simp) _
  refine ⟨w.heap.size + 1, [{ target := .collected w.heap.size, args := #[] }], W1, { target := .fn (.func gf) lb, args := #[.func (.yield (w.heap.size + 1)) #[] #[]] }, W1, gf,
    #[.func (.yield (w.heap.size + 1)) #[] #[]] ++ lb, W1, ?_, ?_, ?_, ?_, fun _ => h1, ?_⟩
  · rw [← hW1, hrec]; exact run_enterLoop_outer _ _ _ _ _
  · simp only [resolve, hg]
    simp [go_sem]
  · intro f' hf'; simp [Target.leads] at hf'; subst hf'; exact hFg
  · simp [invoke, go_sem, eg]
  refine (hseq (w.heap.size + 1)
    (fun pre W => I pre W ∧ W.heap[w.heap.size + 1]? = some (.loop (rec .ready none)) ∧ W.heap[w.heap.size]? = some (.deferred (some [])))
    (fun pre W => ∃ c, Ix c pre W ∧ W.heap[w.heap.size + 1]? = some (.loop (rec .done (some c))) ∧ W.heap[w.heap.size]? = some (.deferred (some [])))
    W1 hb1 ?_ ?_ ?_ ⟨hI1, hL1, hK1⟩).mono ?_
  · intro s A B row hs hgr hr
    refine ⟨hI s A B row hs.1 hgr (fun r e => ?_), (grownBy_keeps hgr (fun r e => (hr r e).2) hs.2.1 rfl).trans hs.2.1, (grownBy_keeps hgr (fun r e => (hr r e).2) hs.2.2 rfl).trans hs.2.2⟩
    obtain ⟨hB, o, ho, hw⟩ := hr r e
    exact ⟨by omega, o, ho, Obj.not_cells_of_walk hw⟩
  · intro pre A B hs hst
    exact ⟨hIs pre A B hs.1 hst, (hSb A B hst _ (by omega)).trans hs.2.1, (hSb A B hst _ (Nat.le_refl _)).trans hs.2.2⟩
  · rintro pre x W ⟨hi, hl, hk⟩ hlen
    have hlt : w.heap.size + 1 < W.heap.size := (Array.getElem?_eq_some_iff.1 hl).1
    have hy := run_yield (P := P) (args := encs x) hl (by rw [hrec]; exact hps x)
    rw [hrec] at hy
    refine ⟨fn, _, assign, body, hy, roundIn_of_wpIn hfn (hassign _ x W _ ⟨_, run_beginRound hl (by rw [hrec]), ?_⟩)⟩
    obtain ⟨W2, hW2⟩ : ∃ W2, W2 = W.putObj (w.heap.size + 1) (.loop { rec .ready none with state := .busy }) := ⟨_, rfl⟩
    have hl2 : W2.heap[w.heap.size + 1]? = some (.loop { rec .ready none with state := .busy }) := by rw [hW2]; exact World.putObj_heap_same hlt
    have hk2 : W2.heap[w.heap.size]? = some (.deferred (some [])) := by rw [hW2]; exact (World.putObj_heap_other (by omega)).trans hk
    have hw2 : Kp W W2 := by rw [hW2]; exact hKb _ _ _ _ (by omega) hl rfl rfl
    have hi2 : I pre W2 := by rw [hW2]; exact hI.putObj _ hi (by omega) hl rfl
    refine wpIn_mono (hW2 ▸ hbody _ pre x _ hi2 hlen) ?_
    have fin : ∀ (jump : Option Code) (W3 : World), KeepsFrom w.heap.size W2 W3 →
        (Instr.endRound (w.heap.size + 1) jump).run P W3 = .ok (.bool jump.isNone) (W3.putObj (w.heap.size + 1) (.loop (rec (if jump.isNone then .ready else .done) jump))) ∧
        W3.heap[w.heap.size + 1]? = some (.loop { rec .ready none with state := .busy }) ∧
        (W3.putObj (w.heap.size + 1) (.loop (rec (if jump.isNone then .ready else .done) jump))).heap[w.heap.size + 1]? = some (.loop (rec (if jump.isNone then .ready else .done) jump)) ∧
        (W3.putObj (w.heap.size + 1) (.loop (rec (if jump.isNone then .ready else .done) jump))).heap[w.heap.size]? = some (.deferred (some [])) := fun jump W3 hk3 => by
      have hl3 := hk3.same _ _ (by omega) hl2 rfl
      have := run_endRound (P := P) jump hl3
      rw [hrec] at this ⊢
      exact ⟨this, by rw [hrec] at hl3; exact hl3, World.putObj_heap_same (Array.getElem?_eq_some_iff.1 hl3).1, (World.putObj_heap_other (by omega)).trans (hk3.same _ _ (Nat.le_refl _) hk2 rfl)⟩
    have out : ∀ (c : Code) (W3 : World), KeepsFrom w.heap.size W2 W3 → Ix c (pre ++ [x]) W3 → ∃ v W4, (Instr.endRound (w.heap.size + 1) (some c)).run P W3 = .ok v W4 ∧ v = .bool false ∧ ∃ c', Ix c' (pre ++ [x]) W4 ∧ W4.heap[w.heap.size + 1]? = some (.loop (rec .done (some c'))) ∧ W4.heap[w.heap.size]? = some (.deferred (some [])) := fun c W3 hk3 hi3 => by
      obtain ⟨hr, hl3, hl4, hk4⟩ := fin (some c) W3 hk3
      exact ⟨_, _, hr, rfl, c, (hIx _).putObj _ hi3 (by omega) hl3 rfl, hl4, hk4⟩
    rintro e a3 W3 hp0
    have hp : ownPostG w.heap.size Kp I Ix (pre ++ [x]) W2 e a3 W3 := by rw [hW2]; exact hp0
    clear hp0
    cases e with
    | normal =>
      obtain ⟨hk3, hkp3, hi3⟩ := hp
      obtain ⟨hr, hl3, hl4, hk4⟩ := fin none W3 hk3
      exact ⟨_, _, hr, .inl ⟨rfl, ⟨hI.putObj _ hi3 (by omega) hl3 rfl, hl4, hk4⟩, hKt (hKt hw2 hkp3) (hKb _ _ _ _ (by omega) hl3 rfl rfl)⟩⟩
    | ret =>
      obtain ⟨v, W4, q1, rfl, q2⟩ := out .ret W3 hp.1 hp.2
      exact ⟨_, _, q1, .inr ⟨rfl, q2⟩⟩
    | exit id =>
      obtain ⟨v, W4, q1, rfl, q2⟩ := out (.exit id) W3 hp.1 hp.2
      exact ⟨_, _, q1, .inr ⟨rfl, q2⟩⟩
    | goto t =>
      obtain ⟨v, W4, q1, rfl, q2⟩ := out (.goto t) W3 hp.1 hp.2
      exact ⟨_, _, q1, .inr ⟨rfl, q2⟩⟩
    | panic ch => exact hp.elim
    | outgrown => exact hp.elim
  · rintro e W2 ⟨⟨v, rfl⟩, (⟨xs, hS, hi, hl, hk⟩ | ⟨pre, hSp, c, hi, hl, hk⟩)⟩
    · exact ⟨none, _, by have := run_endLoop (P := P) hl (by rw [hrec]; simp); rw [hrec] at this; exact this, hdone _ xs _ (Nat.le_refl _) hS (hI.putObj _ hi (by omega) hl rfl) ((World.putObj_heap_other (by omega)).trans hk)⟩
    · exact ⟨some c, _, by have := run_endLoop (P := P) hl (by rw [hrec]; simp); rw [hrec] at this; exact this, hstop _ c pre _ (Nat.le_refl _) hSp ((hIx c).putObj _ hi (by omega) hl rfl) ((World.putObj_heap_other (by omega)).trans hk)⟩
end Go.Pub
namespace Go.Proofs.YtcjkgmfidkgamaaGreatDoor
open Go.RowKit Go.Pub
set_option maxRecDepth 100000 in
set_option maxHeartbeats 1000000 in
theorem split_seq (s : ByteArray) (w : World) : Calls Tryz.prog 34 #[.string s, .string ⟨#[59]⟩] w fun e w' =>
    e = .returned (.func (.func 105) #[] #[.pointer (some ⟨w.heap.size + 1, 0, none⟩), .pointer (some ⟨w.heap.size, 0, none⟩), .pointer (some ⟨w.heap.size + 2, 0, none⟩)]) ∧
    w' = ((w.alloc (.cells #[.string s] 9)).alloc (.cells #[.string ⟨#[59]⟩] 9)).alloc (.cells #[.int .i64 0] 3) := by
  have H : Hid (∀ W, Calls Tryz.prog 62 #[.string s, .string ⟨#[59]⟩, .int .i64 0] W fun e w' =>
    e = .returned (.func (.func 105) #[] #[.pointer (some ⟨W.heap.size + 1, 0, none⟩), .pointer (some ⟨W.heap.size, 0, none⟩), .pointer (some ⟨W.heap.size + 2, 0, none⟩)]) ∧
    w' = ((W.alloc (.cells #[.string s] 9)).alloc (.cells #[.string ⟨#[59]⟩] 9)).alloc (.cells #[.int .i64 0] 3)) := Lib.hid fun W => by
    go_enter Tryz.func62, Tryz.ntmps62
    go_wp2_with fail
    go_ret
    exact ⟨rfl, rfl⟩
  go_enter Tryz.func34, Tryz.ntmps34
  go_wp2_with fail
  ((with_reducible refine (H.out _).mono ?_))
  rintro e w1 ⟨rfl, rfl⟩
  go_wp2_with fail
  go_ret
  exact ⟨rfl, rfl⟩

end Go.Proofs.YtcjkgmfidkgamaaGreatDoor
namespace Go.Pub
theorem semi_idx : ∀ l : List UInt8, (Lib.indexByte l 59 = -1 ∧ semiL l = [l]) ∨ ∃ k : Nat, Lib.indexByte l 59 = k ∧ k < l.length ∧ semiL l = l.take k :: semiL (l.drop (k + 1))
  | [] => .inl ⟨rfl, rfl⟩
  | b :: l => by
    by_cases hb : b = 59
    · subst hb
      exact .inr ⟨0, rfl, by simp, by conv => lhs; unfold semiL
                                      rw [if_pos rfl]; rfl⟩
    · have hq : (b == 59) = false := beq_eq_false_iff_ne.2 hb
      rcases semi_idx l with ⟨h1, h2⟩ | ⟨k, h1, h2, h3⟩
      · refine .inl ⟨?_, ?_⟩
        · unfold Lib.indexByte; rw [hq, h1]; rfl
        · unfold semiL; rw [if_neg hb, h2]
      · refine .inr ⟨k + 1, ?_, by simp; omega, ?_⟩
        · unfold Lib.indexByte; rw [hq, h1, if_neg (by simp), if_neg (by simp)]; omega
        · conv => lhs; unfold semiL
          rw [if_neg hb, h3]; rfl
end Go.Pub
namespace Go.Proofs.YtcjkgmfidkgamaaGreatDoor
open Go.RowKit Go.Pub
/-- What the iterator's three boxes hold: the separator, what is left, nought. -/
structure SqB (b0 b1 b2 : Nat) (rest : ByteArray) (W : World) : Prop where
  s : W.heap[b0]? = some (.cells #[.string rest] 9 (0, 0))
  sep : W.heap[b1]? = some (.cells #[.string ⟨#[59]⟩] 9 (0, 0))
  sav : W.heap[b2]? = some (.cells #[.int .i64 0] 3 (0, 0))
/-- A step of the iterator. -/
def StB (b0 : Nat) (A B : World) : Prop := ∃ v, B = A.setCell ⟨b0, 0, none⟩ (.string v)
/-- A round keeps the boxes. -/
def KpS (b0 b1 b2 : Nat) (W W' : World) : Prop := W'.heap[b0]? = W.heap[b0]? ∧ W'.heap[b1]? = W.heap[b1]? ∧ W'.heap[b2]? = W.heap[b2]?
def boxLen (b : Nat) (W : World) : Nat := match W.heap[b]? with
  | some (.cells cs _ _) => match (cs : Array Value)[0]? with
    | some (Value.string t) => t.size
    | _ => 0
  | _ => 0
abbrev StrP := { s : ByteArray // s.size ≤ 1000000 }
def toStr (l : List UInt8) : StrP := if h : l.length ≤ 1000000 then ⟨mk l, by rw [mk_size]; exact h⟩ else ⟨⟨#[]⟩, by decide⟩
theorem toStr_val (l : List UInt8) (h : l.length ≤ 1000000) : (toStr l).1 = mk l := by unfold toStr; rw [dif_pos h]
set_option maxRecDepth 100000 in
set_option maxHeartbeats 2000000 in
theorem split_stops (n : Nat) (hn : 1 ≤ n) (b0 b1 b2 : Nat) (h01 : b0 ≠ b1) (h02 : b0 ≠ b2) (s : ByteArray) (hs : s.size ≤ 1000000) (w : World) (hB : SqB b0 b1 b2 s w) :
    SeqSteps Fence.wide n Tryz.prog 105 #[.pointer (some ⟨b1, 0, none⟩), .pointer (some ⟨b0, 0, none⟩), .pointer (some ⟨b2, 0, none⟩)] (fun x : StrP => #[Value.string x.1]) (KpS b0 b1 b2) (StB b0) (fun ys => ys = (semiL (bytesL s)).map toStr) (fun pre => pre <+: (semiL (bytesL s)).map toStr) (semiL (bytesL s)).length w := fun l J Jx W hW _ hSt hY h0 => by
  have lt : ∀ {b : Nat} {o : Obj}, w.heap[b]? = some o → b < w.heap.size := fun {b o} h => by
    rcases Nat.lt_or_ge b w.heap.size with h1 | h1
    · exact h1
    · rw [Array.getElem?_eq_none h1] at h; cases h
  have hBW : SqB b0 b1 b2 s W := ⟨(hW.block b0 (lt hB.s)).trans hB.s, (hW.block b1 (lt hB.sep)).trans hB.sep, (hW.block b2 (lt hB.sav)).trans hB.sav⟩
  generalize hall : semiL (bytesL s) = all at *
  have HALL := Lib.hid hall
  clear hall
  have k1 : W.cell? ⟨b1, 0, none⟩ = some (.string ⟨#[59]⟩) := cell_of_row W b1 0 _ _ _ hBW.sep
  refine callsIn_of_wp Tryz.func105 rfl trivial ?_ rfl
  simp only [Tryz.ntmps105, List.size_toArray, List.length_cons, List.length_nil, Nat.reduceAdd, Nat.reduceSub, Array.replicate_succ, Array.replicate_zero, List.push_toArray, List.append_toArray, List.nil_append, List.cons_append]
  gi_wp2_with fail
  gi_loopw [7, 8] (fun _ _ wr => ∃ (rest : ByteArray) (done : List (List UInt8)), rest.size ≤ 1000000 ∧ SqB b0 b1 b2 rest wr ∧ Hid (done ++ semiL (bytesL rest) = all) ∧ J (done.map toStr) wr)
    (fun _ _ wr => boxLen b0 wr)
  case atStart => exact ⟨s, [], hs, hBW, HALL, h0⟩
  case round =>
    obtain ⟨rest, done, hz, hb, Hall, hJ⟩ := hrel
    have c0 : wr.cell? ⟨b0, 0, none⟩ = some (.string rest) := cell_of_row wr b0 0 _ _ _ hb.s
    have c1 : wr.cell? ⟨b1, 0, none⟩ = some (.string ⟨#[59]⟩) := cell_of_row wr b1 0 _ _ _ hb.sep
    have c2 : wr.cell? ⟨b2, 0, none⟩ = some (.int .i64 0) := cell_of_row wr b2 0 _ _ _ hb.sav
    have HS : Hid (∀ W : World, CallsIn Fence.wide (n - 1) Tryz.prog 107 #[.string rest, .string ⟨#[59]⟩] W fun e w' => e = .returned (.int .i64 (Lib.indexByte (bytesL rest) 59)) ∧ W = w') := Lib.hid fun W => callsIn_wide (n := n - 1).2 ((Tryz.strings_Index_one rest 59 W).mono (by rintro e w' ⟨rfl, rfl⟩; exact ⟨rfl, rfl⟩))
    have hlen : (bytesL rest).length = rest.size := bytesL_length rest
    rcases semi_idx (bytesL rest) with ⟨h1, h2⟩ | ⟨k, h1, h2, h3⟩
    · rw [h1] at HS
      have HN : Hid (done ++ [bytesL rest] = all) := Lib.hid (by rw [← Hall.out, h2])
      have ex : (toStr (bytesL rest)).1 = rest := by rw [toStr_val _ (by omega)]; exact mk_bytesL rest
      obtain ⟨fn, tmps, assign, body, hy, hR⟩ := hY (done.map toStr) (toStr (bytesL rest)) wr hJ (by rw [← HN.out]; simp)
      rw [ex] at hy
      gi_wp2_with fail
      refine ⟨trivial, ?_⟩
      ((with_reducible refine (HS.out _).mono ?_))
      rintro e w0 ⟨rfl, rfl⟩
      gi_wp2_with fail
      refine hR.mono ?_
      rintro e W3 (⟨rfl, hJ3, hk3⟩ | ⟨rfl, hJx3⟩)
      · gi_wp2_with fail
        go_end0
        exact ⟨⟨_, rfl⟩, .inl ⟨_, by rw [← HN.out]; simp, hJ3⟩⟩
      · gi_wp2_with fail
        go_end0
        exact ⟨⟨_, rfl⟩, .inr ⟨_, ⟨[], by rw [← HN.out]; simp⟩, hJx3⟩⟩
    · rw [h1] at HS
      have hkz : k < rest.size := by omega
      have e0 : (bytesL rest).take k = bytesL (rest.extract 0 k) := by rw [bytesL_sub]; unfold sub; rw [List.drop_zero, Nat.sub_zero]
      have e1 : (bytesL rest).drop (k + 1) = bytesL (rest.extract (k + 1) rest.size) := by rw [suffix_bytes]; rfl
      rw [e0, e1] at h3
      have HN : Hid (done ++ [bytesL (rest.extract 0 k)] ++ semiL (bytesL (rest.extract (k + 1) rest.size)) = all) := Lib.hid (by rw [← Hall.out, h3]; simp)
      have ez : (rest.extract 0 k).size = k := by rw [ByteArray.size_extract]; omega
      have ez2 : (rest.extract (k + 1) rest.size).size = rest.size - (k + 1) := by rw [ByteArray.size_extract]; omega
      have ex : (toStr (bytesL (rest.extract 0 k))).1 = rest.extract 0 k := by rw [toStr_val _ (by rw [bytesL_length]; omega)]; exact mk_bytesL _
      obtain ⟨fn, tmps, assign, body, hy, hR⟩ := hY (done.map toStr) (toStr (bytesL (rest.extract 0 k))) wr hJ (by rw [← HN.out]; simp)
      rw [ex] at hy
      clear e0 e1 h1 h2 h3
      gi_wp2_with fail
      refine ⟨trivial, ?_⟩
      ((with_reducible refine (HS.out _).mono ?_))
      rintro e w0 ⟨rfl, rfl⟩
      gi_wp2_with fail
      refine hR.mono ?_
      rintro e W3 (⟨rfl, hJ3, hk3⟩ | ⟨rfl, hJx3⟩)
      · have hb3 : SqB b0 b1 b2 rest W3 := ⟨hk3.1.trans hb.s, hk3.2.1.trans hb.sep, hk3.2.2.trans hb.sav⟩
        have d0 : W3.cell? ⟨b0, 0, none⟩ = some (.string rest) := cell_of_row W3 b0 0 _ _ _ hb3.s
        have d1 : W3.cell? ⟨b1, 0, none⟩ = some (.string ⟨#[59]⟩) := cell_of_row W3 b1 0 _ _ _ hb3.sep
        have g0 : W3.frozen? ⟨b0, 0, none⟩ = false := Blk.frozen (t := 9) (cs := #[.string rest]) hb3.s 0
        have hJ4 := hSt _ _ _ hJ3 ⟨rest.extract (k + 1) rest.size, rfl⟩
        have hb4 : SqB b0 b1 b2 (rest.extract (k + 1) rest.size) (W3.setCell ⟨b0, 0, none⟩ (.string (rest.extract (k + 1) rest.size))) :=
          ⟨Blk.set_ (t := 9) (cs := #[.string rest]) hb3.s 0 _, Blk.far (t := 9) (cs := #[.string ⟨#[59]⟩]) hb3.sep (fun e => h01 e.symm) _, Blk.far (t := 3) (cs := #[.int .i64 0]) hb3.sav (fun e => h02 e.symm) _⟩
        have hm4 : boxLen b0 (W3.setCell ⟨b0, 0, none⟩ (.string (rest.extract (k + 1) rest.size))) < boxLen b0 wr := by
          unfold boxLen
          rw [hb4.s, hb.s]
          show (rest.extract (k + 1) rest.size).size < rest.size
          omega
        have HB4 := Lib.hid hb4
        have HM4 := Lib.hid hm4
        clear hb4 hm4
        gi_wp2_with fail
        go_roundw
        case rel => exact ⟨rest.extract (k + 1) rest.size, done ++ [bytesL (rest.extract 0 k)], by omega, HB4.out, HN, by rw [List.map_append]; exact hJ4⟩
        case measure => exact HM4.out
      · gi_wp2_with fail
        refine bodyPost_ret (results_none rfl _ _ _) rfl ?_
        exact ⟨⟨_, rfl⟩, .inr ⟨_, ⟨(semiL (bytesL (rest.extract (k + 1) rest.size))).map toStr, by rw [← HN.out]; simp⟩, hJx3⟩⟩

end Go.Proofs.YtcjkgmfidkgamaaGreatDoor
