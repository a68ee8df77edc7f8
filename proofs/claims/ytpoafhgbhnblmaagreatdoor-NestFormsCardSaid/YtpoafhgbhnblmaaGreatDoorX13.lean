/-
  Texts of the proof, put together (what this law reaches): LinkP, LinkA, LinkB, LinkC.
-/
import Derived.Test.YtpoafhgbhnblmaaGreatDoorX08
import Derived.Test.YtpoafhgbhnblmaaGreatDoorX03
import Derived.Test.YtpoafhgbhnblmaaGreatDoorX10
import Derived.Test.YtpoafhgbhnblmaaGreatDoorX05
set_option linter.unusedVariables false
set_option linter.unusedSimpArgs false
namespace Go.Pub
/-- ASCII punctuation. -/
def puncB (b : UInt8) : Bool := decide (b.toNat < 128) && inB (b.toNat : Int) punctL
/-- An escape begins at the list's head. -/
def escH : List UInt8 → Bool
  | [] => false
  | [_] => false
  | c :: d :: _ => c == 92 && puncB d
/-- The text without its escapes' backslashes. -/
def unescL : List UInt8 → List UInt8
  | [] => []
  | c :: l => if escH (c :: l) then (match l with | [] => [] | d :: l' => d :: unescL l') else c :: unescL l
/-- The offset of the first unescaped byte 'stop', if neither an unescaped 'wo' nor a line feed stands ahead of it. -/
def scanL (stop wo : UInt8) : List UInt8 → Option Nat
  | [] => none
  | c :: l => if c = stop then some 0 else if c = wo ∨ c = 10 then none
      else if escH (c :: l) then (match l with | [] => none | _ :: l' => (scanL stop wo l').map (· + 2))
      else (scanL stop wo l).map (· + 1)
/-- The length of a plain destination, of which some parentheses are open. -/
def destL : Nat → List UInt8 → Option Nat
  | o, [] => if o = 0 then some 0 else none
  | o, c :: l => if c = 32 ∨ c = 10 ∨ (c = 41 ∧ o = 0) then (if o = 0 then some 0 else none)
      else if escH (c :: l) then (match l with | [] => none | _ :: l' => (destL o l').map (· + 2))
      else if c = 40 then (if 8 ≤ o then none else (destL (o + 1) l).map (· + 1))
      else if c = 41 then (destL (o - 1) l).map (· + 1)
      else (destL o l).map (· + 1)
/-- An escape begins at the byte k. -/
def escAt (s : ByteArray) (k : Nat) : Bool := escH (sfx s k)
theorem escAt_end (s : ByteArray) (k : Nat) (h : s.size ≤ k + 1) : escAt s k = false := by
  unfold escAt
  by_cases hk : k < s.size
  · rw [sfx_cons s k hk, sfx_nil s (k + 1) h]; rfl
  · rw [sfx_nil s k (by omega)]; rfl
theorem escAt_in (s : ByteArray) (k : Nat) (h : k + 1 < s.size) : escAt s k = (decide (bt s k = 92) && (decide (bt s (k + 1) < 128) && inB (bt s (k + 1) : Int) punctL)) := by
  unfold escAt
  rw [sfx_cons s k (by omega), sfx_cons s (k + 1) h]
  show (s.get! k == 92 && puncB (s.get! (k + 1))) = _
  have e : (s.get! k == (92 : UInt8)) = decide (bt s k = 92) := by
    rw [Bool.eq_iff_iff]; simp only [beq_iff_eq, decide_eq_true_eq]
    exact u8_nat (s.get! k) 92 (by decide)
  rw [e]; rfl
theorem escAt_lt {s : ByteArray} {k : Nat} (h : escAt s k = true) : k + 1 < s.size ∧ bt s k = 92 := by
  by_cases hk : k + 1 < s.size
  · rw [escAt_in s k hk] at h
    simp only [Bool.and_eq_true, decide_eq_true_eq] at h
    exact ⟨hk, h.1⟩
  · rw [escAt_end s k (by omega)] at h; simp at h
/-- Where the scan from the byte k ends. -/
def scanA (s : ByteArray) (stop wo : Nat) (k : Nat) : Option Nat := (scanL (UInt8.ofNat stop) (UInt8.ofNat wo) (sfx s k)).map (· + k)
theorem scanA_end (s : ByteArray) (a b k : Nat) (h : s.size ≤ k) : scanA s a b k = none := by unfold scanA; rw [sfx_nil s k h]; rfl
theorem scanL_cons (a b c : UInt8) (l : List UInt8) : scanL a b (c :: l) = if c = a then some 0 else if c = b ∨ c = 10 then none
      else if escH (c :: l) then (match l with | [] => none | _ :: l' => (scanL a b l').map (· + 2))
      else (scanL a b l).map (· + 1) := by cases l <;> rfl
theorem g40 (s : ByteArray) (k : Nat) : s.get! k = 40 ↔ bt s k = 40 := bt_u8 s k 40 (by decide)
theorem g41 (s : ByteArray) (k : Nat) : s.get! k = 41 ↔ bt s k = 41 := bt_u8 s k 41 (by decide)
theorem scanA_stop (s : ByteArray) (a b k : Nat) (h : k < s.size) (ha : a < 256) (hc : bt s k = a) : scanA s a b k = some k := by
  unfold scanA
  rw [sfx_cons s k h, scanL_cons, if_pos ((bt_u8 s k a ha).2 hc)]; simp
theorem scanA_bad (s : ByteArray) (a b k : Nat) (h : k < s.size) (ha : a < 256) (hb : b < 256) (hc : bt s k ≠ a) (hd : bt s k = b ∨ bt s k = 10) : scanA s a b k = none := by
  unfold scanA
  rw [sfx_cons s k h, scanL_cons, if_neg (fun e => hc ((bt_u8 s k a ha).1 e)), if_pos (hd.imp (bt_u8 s k b hb).2 (g10 s k).2)]; rfl
theorem scanA_esc (s : ByteArray) (a b k : Nat) (ha : a < 256) (hb : b < 256) (ha' : a ≠ 92) (hb' : b ≠ 92) (he : escAt s k = true) : scanA s a b k = scanA s a b (k + 2) := by
  obtain ⟨h1, h2⟩ := escAt_lt he
  unfold escAt at he
  unfold scanA
  rw [sfx_cons s k (by omega), sfx_cons s (k + 1) h1] at he ⊢
  rw [scanL_cons, if_neg (fun e => by have := (bt_u8 s k a ha).1 e; omega), if_neg, if_pos he]
  · simp only [Option.map_map]; congr 1; funext x; simp; omega
  · rintro (e | e)
    · have := (bt_u8 s k b hb).1 e; omega
    · have := (g10 s k).1 e; omega
theorem scanA_step (s : ByteArray) (a b k : Nat) (h : k < s.size) (ha : a < 256) (hb : b < 256) (hc : bt s k ≠ a) (hd : bt s k ≠ b) (hl : bt s k ≠ 10) (he : escAt s k = false) : scanA s a b k = scanA s a b (k + 1) := by
  unfold escAt at he
  unfold scanA
  rw [sfx_cons s k h] at he ⊢
  rw [scanL_cons, if_neg (fun e => hc ((bt_u8 s k a ha).1 e)), if_neg, if_neg (by rw [he]; simp)]
  · simp only [Option.map_map]; congr 1; funext x; simp; omega
  · rintro (e | e)
    · exact hd ((bt_u8 s k b hb).1 e)
    · exact hl ((g10 s k).1 e)
/-- Where the plain destination ends, if it does. -/
def destA (s : ByteArray) (o k : Nat) : Option Nat := (destL o (sfx s k)).map (· + k)
theorem destL_cons (o : Nat) (c : UInt8) (l : List UInt8) : destL o (c :: l) = if c = 32 ∨ c = 10 ∨ (c = 41 ∧ o = 0) then (if o = 0 then some 0 else none)
      else if escH (c :: l) then (match l with | [] => none | _ :: l' => (destL o l').map (· + 2))
      else if c = 40 then (if 8 ≤ o then none else (destL (o + 1) l).map (· + 1))
      else if c = 41 then (destL (o - 1) l).map (· + 1)
      else (destL o l).map (· + 1) := by cases l <;> rfl
theorem destA_end (s : ByteArray) (o k : Nat) (h : s.size ≤ k) : destA s o k = if o = 0 then some k else none := by
  unfold destA; rw [sfx_nil s k h]; unfold destL; split <;> simp
/-- The byte at k ends a plain destination. -/
def dstop (s : ByteArray) (o k : Nat) : Prop := bt s k = 32 ∨ bt s k = 10 ∨ (bt s k = 41 ∧ o = 0)
theorem dstop_iff (s : ByteArray) (o k : Nat) : (s.get! k = 32 ∨ s.get! k = 10 ∨ (s.get! k = 41 ∧ o = 0)) ↔ dstop s o k := by
  have h1 : s.get! k = 32 ↔ bt s k = 32 := bt_u8 s k 32 (by decide)
  have h2 := g10 s k
  have h3 := g41 s k
  unfold dstop
  rw [h1, h2, h3]
theorem destA_stop (s : ByteArray) (o k : Nat) (h : k < s.size) (hc : dstop s o k) : destA s o k = if o = 0 then some k else none := by
  unfold destA
  rw [sfx_cons s k h, destL_cons, if_pos ((dstop_iff s o k).2 hc)]; split <;> simp
theorem destA_esc (s : ByteArray) (o k : Nat) (he : escAt s k = true) : destA s o k = destA s o (k + 2) := by
  obtain ⟨h1, h2⟩ := escAt_lt he
  unfold escAt at he
  unfold destA
  have hn : ¬ dstop s o k := by unfold dstop; omega
  rw [← dstop_iff] at hn
  rw [sfx_cons s k (by omega), sfx_cons s (k + 1) h1] at he ⊢
  rw [destL_cons, if_neg hn, if_pos he]
  simp only [Option.map_map]; congr 1; funext x; simp; omega
theorem destA_open (s : ByteArray) (o k : Nat) (h : k < s.size) (hc : bt s k = 40) : destA s o k = if 8 ≤ o then none else destA s (o + 1) (k + 1) := by
  have he : escAt s k = false := by
    rw [Bool.eq_false_iff]; intro e; have := (escAt_lt e).2; omega
  have hn : ¬ dstop s o k := by unfold dstop; omega
  rw [← dstop_iff] at hn
  unfold escAt at he
  unfold destA
  rw [sfx_cons s k h] at he ⊢
  rw [destL_cons, if_neg hn, if_neg (by rw [he]; simp), if_pos ((g40 s k).2 hc)]
  split
  · rfl
  · simp only [Option.map_map]; congr 1; funext x; simp; omega
theorem destA_close (s : ByteArray) (o k : Nat) (h : k < s.size) (hc : bt s k = 41) (ho : 0 < o) : destA s o k = destA s (o - 1) (k + 1) := by
  have he : escAt s k = false := by
    rw [Bool.eq_false_iff]; intro e; have := (escAt_lt e).2; omega
  have hn : ¬ dstop s o k := by unfold dstop; omega
  rw [← dstop_iff] at hn
  unfold escAt at he
  unfold destA
  rw [sfx_cons s k h] at he ⊢
  rw [destL_cons, if_neg hn, if_neg (by rw [he]; simp), if_neg (fun e => by have := (g40 s k).1 e; omega), if_pos ((g41 s k).2 hc)]
  simp only [Option.map_map]; congr 1; funext x; simp; omega
theorem destA_step (s : ByteArray) (o k : Nat) (h : k < s.size) (hs : ¬ dstop s o k) (he : escAt s k = false) (h0 : bt s k ≠ 40) (h1 : bt s k ≠ 41) : destA s o k = destA s o (k + 1) := by
  rw [← dstop_iff] at hs
  unfold escAt at he
  unfold destA
  rw [sfx_cons s k h] at he ⊢
  rw [destL_cons, if_neg hs, if_neg (by rw [he]; simp), if_neg (fun e => h0 ((g40 s k).1 e)), if_neg (fun e => h1 ((g41 s k).1 e))]
  simp only [Option.map_map]; congr 1; funext x; simp; omega
/-- What is read between two bytes: the text and the byte after it. -/
def betw (s : ByteArray) (i stop wo : Nat) : Option (List UInt8 × Nat) := (scanA s stop wo (i + 1)).map fun k => (unescL (sub s (i + 1) k), k + 1)
/-- The destination at a byte. -/
def destR (s : ByteArray) (i : Int) : Option (List UInt8 × Nat) :=
  if 0 ≤ i ∧ i < s.size then
    if bt s i.toNat = 60 then betw s i.toNat 62 60
    else (destA s 0 i.toNat).bind fun k => if k = i.toNat then none else some (unescL (sub s i.toNat k), k)
  else none
/-- The title at a byte. -/
def titleR (s : ByteArray) (i : Int) : Option (List UInt8 × Nat) :=
  if 0 ≤ i ∧ i < s.size then
    if bt s i.toNat = 34 then betw s i.toNat 34 34 else if bt s i.toNat = 39 then betw s i.toNat 39 39 else none
  else none
theorem unescL_len : ∀ (n : Nat) (l : List UInt8), l.length ≤ n → (unescL l).length ≤ l.length
  | 0, l, h => by cases l with
    | nil => simp [unescL]
    | cons c l => simp at h
  | n + 1, [], _ => by simp [unescL]
  | n + 1, c :: l, h => by
    unfold unescL
    split
    · cases l with
      | nil => simp
      | cons d l' =>
        have := unescL_len n l' (by simp at h; omega)
        simp; omega
    · have := unescL_len n l (by simp at h; omega)
      simp; omega
theorem scanL_lt (a b : UInt8) : ∀ (n : Nat) (l : List UInt8), l.length ≤ n → ∀ k, scanL a b l = some k → k < l.length
  | 0, l, h, k, hk => by cases l with
    | nil => simp [scanL] at hk
    | cons c l => simp at h
  | n + 1, [], _, k, hk => by simp [scanL] at hk
  | n + 1, c :: l, h, k, hk => by
    rw [scanL_cons] at hk
    split at hk
    · simp at hk; subst hk; simp
    · split at hk
      · simp at hk
      · split at hk
        · cases l with
          | nil => simp at hk
          | cons d l' =>
            simp only [Option.map_eq_some_iff] at hk
            obtain ⟨j, hj, rfl⟩ := hk
            have := scanL_lt a b n l' (by simp at h; omega) j hj
            simp; omega
        · simp only [Option.map_eq_some_iff] at hk
          obtain ⟨j, hj, rfl⟩ := hk
          have := scanL_lt a b n l (by simp at h; omega) j hj
          simp; omega
theorem scanA_lt {s : ByteArray} {a b i k : Nat} (h : scanA s a b i = some k) : i ≤ k ∧ k < s.size := by
  unfold scanA at h
  simp only [Option.map_eq_some_iff] at h
  obtain ⟨j, hj, rfl⟩ := h
  have := scanL_lt _ _ _ _ (Nat.le_refl _) j hj
  rw [sfx_len] at this
  omega
theorem destL_le : ∀ (n : Nat) (o : Nat) (l : List UInt8), l.length ≤ n → ∀ k, destL o l = some k → k ≤ l.length
  | 0, o, l, h, k, hk => by cases l with
    | nil => unfold destL at hk; split at hk <;> simp_all
    | cons c l => simp at h
  | n + 1, o, [], _, k, hk => by unfold destL at hk; split at hk <;> simp_all
  | n + 1, o, c :: l, h, k, hk => by
    have hl : l.length ≤ n := by simp at h; omega
    rw [destL_cons] at hk
    split at hk
    · split at hk
      · simp only [Option.some.injEq] at hk; omega
      · simp at hk
    · split at hk
      · cases l with
        | nil => simp at hk
        | cons d l' =>
          simp only [Option.map_eq_some_iff] at hk
          obtain ⟨j, hj, rfl⟩ := hk
          have := destL_le n o l' (by simp at h; omega) j hj
          simp; omega
      · split at hk
        · split at hk
          · simp at hk
          · simp only [Option.map_eq_some_iff] at hk
            obtain ⟨j, hj, rfl⟩ := hk
            have := destL_le n _ l hl j hj
            simp; omega
        · split at hk
          · simp only [Option.map_eq_some_iff] at hk
            obtain ⟨j, hj, rfl⟩ := hk
            have := destL_le n _ l hl j hj
            simp; omega
          · simp only [Option.map_eq_some_iff] at hk
            obtain ⟨j, hj, rfl⟩ := hk
            have := destL_le n _ l hl j hj
            simp; omega
theorem destA_le {s : ByteArray} {o i k : Nat} (hi : i ≤ s.size) (h : destA s o i = some k) : i ≤ k ∧ k ≤ s.size := by
  unfold destA at h
  simp only [Option.map_eq_some_iff] at h
  obtain ⟨j, hj, rfl⟩ := h
  have := destL_le _ o _ (Nat.le_refl _) j hj
  rw [sfx_len] at this
  omega
theorem betw_le {s : ByteArray} {i a b : Nat} {r : List UInt8 × Nat} (h : betw s i a b = some r) : i + 1 < r.2 ∧ r.2 ≤ s.size ∧ r.1.length ≤ s.size := by
  unfold betw at h
  simp only [Option.map_eq_some_iff] at h
  obtain ⟨k, hk, rfl⟩ := h
  have := scanA_lt hk
  have h2 := unescL_len _ (sub s (i + 1) k) (Nat.le_refl _)
  have h3 := sub_len s (i + 1) k
  exact ⟨by show i + 1 < k + 1; omega, by show k + 1 ≤ _; omega, by show (unescL _).length ≤ _; omega⟩
theorem destR_le {s : ByteArray} {i : Int} {r : List UInt8 × Nat} (h : destR s i = some r) : i < r.2 ∧ r.2 ≤ s.size ∧ r.1.length ≤ s.size := by
  unfold destR at h
  split at h
  · split at h
    · have := betw_le h; omega
    · rename_i hi _
      rw [Option.bind_eq_some_iff] at h
      obtain ⟨k, hk, h⟩ := h
      have := destA_le (by omega) hk
      split at h
      · simp at h
      · simp only [Option.some.injEq] at h
        subst h
        have h2 := unescL_len _ (sub s i.toNat k) (Nat.le_refl _)
        have h3 := sub_len s i.toNat k
        exact ⟨by show i < (k : Nat); omega, by show k ≤ _; omega, by show (unescL _).length ≤ _; omega⟩
  · simp at h
theorem titleR_le {s : ByteArray} {i : Int} {r : List UInt8 × Nat} (h : titleR s i = some r) : i + 1 < r.2 ∧ r.2 ≤ s.size ∧ r.1.length ≤ s.size := by
  unfold titleR at h
  split at h
  · split at h
    · have := betw_le h; omega
    · split at h
      · have := betw_le h; omega
      · simp at h
  · simp at h
/-- A code point that labels can have. -/
def labB (c : Int) : Bool := inB c letterL || digitB c || c == 32 || c == 45 || c == 95 || c == 46 || c == 58
/-- The label that a text is, or nothing. -/
def labelL (l : List UInt8) : List UInt8 :=
  if 60 < (foldL (mk l)).length then [] else if (pts (mk (foldL (mk l)))).all fun p => labB p.1 then foldL (mk l) else []
/-- The offset of the first byte 93. -/
def brk (l : List UInt8) : Nat := l.findIdx (· == 93)
end Go.Pub
namespace Go.Pub
theorem byteCell1 (s : ByteArray) (k : Nat) : Lib.byteCells [s.get! k] = [.int .u8 (bt s k)] := rfl
theorem escAt_not (s : ByteArray) (k : Nat) (h : bt s k ≠ 92) : escAt s k = false := by
  rw [Bool.eq_false_iff]; intro e; exact h (escAt_lt e).2
/-- What is left to unescape from the byte k on. -/
theorem unescL_cons (c : UInt8) (l : List UInt8) : unescL (c :: l) = if escH (c :: l) then (match l with | [] => [] | d :: l' => d :: unescL l') else c :: unescL l := by cases l <;> rfl
theorem unesc_end (s : ByteArray) (k : Nat) (h : s.size ≤ k) : unescL (sfx s k) = [] := by rw [sfx_nil s k h]; rfl
theorem unesc_esc (s : ByteArray) (k : Nat) (h : escAt s k = true) : unescL (sfx s k) = s.get! (k + 1) :: unescL (sfx s (k + 2)) := by
  obtain ⟨h1, _⟩ := escAt_lt h
  unfold escAt at h
  rw [sfx_cons s k (by omega), sfx_cons s (k + 1) h1] at h ⊢
  rw [unescL_cons, if_pos h]
theorem unesc_step (s : ByteArray) (k : Nat) (hk : k < s.size) (h : escAt s k = false) : unescL (sfx s k) = s.get! k :: unescL (sfx s (k + 1)) := by
  unfold escAt at h
  rw [sfx_cons s k hk] at h ⊢
  rw [unescL_cons, if_neg (by rw [h]; simp)]
end Go.Pub
namespace Go.Proofs.YtpoafhgbhnblmaaGreatDoor
open Go.RowKit Go.Pub
def URel (s : ByteArray) (R : List UInt8) (w : World) (i : Value) (wr : World) : Prop :=
  ∃ (k : Nat) (acc : List UInt8), i = .int .i64 k ∧ k ≤ s.size ∧ Lib.IsBuilderF 158 5 w.heap.size w.heap.size (Lib.byteCells acc) wr ∧ Below w.heap.size w wr ∧ Hid (acc ++ unescL (sfx s k) = R) ∧ acc.length ≤ k ∧ w.heap.size < wr.heap.size
end Go.Proofs.YtpoafhgbhnblmaaGreatDoor
namespace Go.Pub
end Go.Pub
namespace Go.Proofs.YtpoafhgbhnblmaaGreatDoor
open Go.RowKit Go.Pub
/-- What the readers of parts return. -/
def PartPost (r : Option (List UInt8 × Nat)) (w : World) (e : Ending) (w' : World) : Prop :=
  (match r with | none => e = .returned (.tuple #[.string ⟨#[]⟩, .int .i64 0, .bool false]) | some p => e = .returned (.tuple #[.string (mk p.1), .int .i64 p.2, .bool true])) ∧ Below w.heap.size w w'
theorem part_none {r : Option (List UInt8 × Nat)} {w w' : World} (h : r = none) (hb : Below w.heap.size w w') : PartPost r w (.returned (.tuple #[.string ⟨#[]⟩, .int .i64 0, .bool false])) w' := by
  subst h; exact ⟨rfl, hb⟩
theorem part_some {r : Option (List UInt8 × Nat)} {t : List UInt8} {m : Nat} {n : Int} {w w' : World} (h : r = some (t, m)) (hn : n = m) (hb : Below w.heap.size w w') : PartPost r w (.returned (.tuple #[.string (mk t), .int .i64 n, .bool true])) w' := by
  subst h hn; exact ⟨rfl, hb⟩
end Go.Proofs.YtpoafhgbhnblmaaGreatDoor
namespace Go.Proofs.YtpoafhgbhnblmaaGreatDoor
open Go.RowKit Go.Pub
def DRel (s : ByteArray) (i : Nat) (a b : Value) : Prop :=
  ∃ o k : Nat, o ≤ 8 ∧ i ≤ k ∧ k ≤ s.size ∧ a = .int .i64 o ∧ b = .int .i64 k ∧ Hid (destA s o k = destA s 0 i)
end Go.Proofs.YtpoafhgbhnblmaaGreatDoor
