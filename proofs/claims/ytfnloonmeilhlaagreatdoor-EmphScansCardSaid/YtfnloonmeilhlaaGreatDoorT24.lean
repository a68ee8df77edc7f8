/-
  Texts of the proof, put together (what this law reaches): MkR, ScA, ScB.
-/
import Derived.Test.YtfnloonmeilhlaaGreatDoorT23
import Derived.Test.YtfnloonmeilhlaaGreatDoorT04
import Derived.Test.YtfnloonmeilhlaaGreatDoorT02
import Derived.Test.YtfnloonmeilhlaaGreatDoorT21
import Derived.Test.YtfnloonmeilhlaaGreatDoorT03
import Derived.Test.YtfnloonmeilhlaaGreatDoorT05
import Derived.Test.YtfnloonmeilhlaaGreatDoorT22
import Derived.Lib.TrimByte
set_option linter.unusedVariables false
set_option linter.unusedSimpArgs false
namespace Go.Pub
/-- How many bytes of a kind a list begins with. -/
def cntW (p : Nat → Bool) : List UInt8 → Nat
  | [] => 0
  | c :: l => if p c.toNat = true then cntW p l + 1 else 0
/-- How many bytes of a kind stand from i on. -/
def runF (s : ByteArray) (i : Nat) (p : Nat → Bool) : Nat := cntW p (sfx s i)
theorem runF_end (s : ByteArray) (i : Nat) (p : Nat → Bool) (h : s.size ≤ i) : runF s i p = 0 := by unfold runF; rw [sfx_nil s i h]; rfl
theorem runF_yes (s : ByteArray) (i : Nat) (p : Nat → Bool) (h : i < s.size) (hp : p (bt s i) = true) : runF s i p = runF s (i + 1) p + 1 := by
  unfold runF; rw [sfx_cons s i h]
  show (if p (bt s i) = true then _ else _) = _
  rw [if_pos hp]
theorem runF_no (s : ByteArray) (i : Nat) (p : Nat → Bool) (h : i < s.size) (hp : p (bt s i) = false) : runF s i p = 0 := by
  unfold runF; rw [sfx_cons s i h]
  show (if p (bt s i) = true then _ else _) = _
  rw [if_neg (by rw [hp]; exact Bool.false_ne_true)]
theorem cntW_le (p : Nat → Bool) : ∀ l : List UInt8, cntW p l ≤ l.length
  | [] => Nat.le_refl _
  | c :: l => by unfold cntW; have := cntW_le p l; split <;> simp <;> omega
theorem runF_le (s : ByteArray) (i : Nat) (p : Nat → Bool) : runF s i p ≤ s.size - i := by
  unfold runF; have := cntW_le p (sfx s i); rwa [sfx_len] at this
theorem runF_all (s : ByteArray) (p : Nat → Bool) : ∀ (n i : Nat), s.size - i ≤ n → (∀ j, i ≤ j → j < i + runF s i p → p (bt s j) = true) ∧ (i + runF s i p < s.size → p (bt s (i + runF s i p)) = false)
  | 0, i, h => by
    rw [runF_end s i p (by omega)]
    exact ⟨fun j h1 h2 => by omega, fun h1 => by omega⟩
  | n + 1, i, h => by
    by_cases hi : i < s.size
    · cases hp : p (bt s i)
      · rw [runF_no s i p hi hp]
        exact ⟨fun j h1 h2 => by omega, fun _ => hp⟩
      · have ih := runF_all s p n (i + 1) (by omega)
        rw [runF_yes s i p hi hp]
        rw [show i + (runF s (i + 1) p + 1) = i + 1 + runF s (i + 1) p by omega]
        refine ⟨fun j h1 h2 => ?_, ih.2⟩
        by_cases hj : j = i
        · subst hj; exact hp
        · exact ih.1 j (by omega) h2
    · rw [runF_end s i p (by omega)]
      exact ⟨fun j h1 h2 => by omega, fun h1 => by omega⟩
theorem runF_eq (s : ByteArray) (p : Nat → Bool) (i n : Nat) (h : i + n ≤ s.size) (h1 : ∀ j, i ≤ j → j < i + n → p (bt s j) = true) (h2 : i + n < s.size → p (bt s (i + n)) = false) : runF s i p = n := by
  have k := runF_all s p s.size i (by omega)
  have hl := runF_le s i p
  rcases Nat.lt_trichotomy (runF s i p) n with h3 | h3 | h3
  · have e1 := k.2 (by omega)
    rw [h1 _ (by omega) (by omega)] at e1; cases e1
  · exact h3
  · have e1 := k.1 (i + n) (by omega) (by omega)
    rw [h2 (by omega)] at e1; cases e1
end Go.Pub
namespace Go.Proofs.YtfnloonmeilhlaaGreatDoor
open Go.RowKit Go.Pub
end Go.Proofs.YtfnloonmeilhlaaGreatDoor
namespace Go.Pub
/-- An inline without others in it. -/
structure InL where
  kind : Nat
  text : ByteArray := ⟨#[]⟩
  dest : ByteArray := ⟨#[]⟩
  title : ByteArray := ⟨#[]⟩
  args : List ByteArray := []
  cites : List CitL := []
/-- A piece. -/
structure PcL where
  kind : Nat := 0
  inl : InL := { kind := 0 }
  ch : ByteArray := ⟨#[]⟩
  n : Nat := 0
  opn : Bool := false
  clo : Bool := false
  img : Bool := false
  bg : Nat := 0
  nd : Nat := 0
def spn (k : Nat) (t : ByteArray) : InL := { kind := k, text := t }
/-- The end of the run of the byte at i. -/
def runE (s : ByteArray) (i : Nat) : Nat := i + runF s i fun b => b == bt s i
/-- The first byte of a kind from i on. -/
def toE (s : ByteArray) (i : Nat) (p : Nat → Bool) : Nat := i + runF s i fun b => !p b
/-- Do these bytes stand at i? -/
def begB (s : ByteArray) (i : Nat) (t : List UInt8) : Bool := t.isPrefixOf (sfx s i)
/-- The end of a name at i. -/
def nmEnd (s : ByteArray) (i : Nat) : Option Nat := if nameB (s.extract i (wordAt s i)) = true then some (wordAt s i) else none
/-- An escape or a line break. -/
def escI (s : ByteArray) (i : Nat) : Option (InL × Nat) :=
  if i + 1 < s.size then
    if bt s (i + 1) = 10 then some ({ kind := 3 }, spAt s (i + 2))
    else if (decide (bt s (i + 1) < 128) && inB (bt s (i + 1) : Int) punctL) = true then some (spn 1 (s.extract (i + 1) (i + 2)), i + 2) else none
  else none
/-- A digit. -/
def dgN (n : Nat) : Bool := decide (48 ≤ n) && decide (n ≤ 57)
/-- The number that digits write. -/
def numV (l : List UInt8) : Nat := l.foldl (fun n b => 10 * n + (b.toNat - 48)) 0
def goodC (n : Nat) : Bool := !(decide (n < 32) || n == 127 || decide (1114111 < n) || (decide (55296 ≤ n) && decide (n ≤ 57343)))
/-- How many digits a reference has. -/
def digK (s : ByteArray) (i : Nat) : Nat := min 7 (runF s (i + 2) dgN)
/-- A character reference. -/
def entI (s : ByteArray) (i : Nat) : Option (InL × Nat) :=
  if begB s i [38, 97, 109, 112, 59] = true then some (spn 1 ⟨#[38]⟩, i + 5)
  else if begB s i [38, 108, 116, 59] = true then some (spn 1 ⟨#[60]⟩, i + 4)
  else if begB s i [38, 103, 116, 59] = true then some (spn 1 ⟨#[62]⟩, i + 4)
  else if begB s i [38, 113, 117, 111, 116, 59] = true then some (spn 1 ⟨#[34]⟩, i + 6)
  else if begB s i [38, 35] = true then
    if digK s i ≠ 0 ∧ i + 2 + digK s i < s.size ∧ bt s (i + 2 + digK s i) = 59 ∧ goodC (numV (sub s (i + 2) (i + 2 + digK s i))) = true then
      some (spn 1 (Utf8.encode (numV (sub s (i + 2) (i + 2 + digK s i)) : Nat)), i + 2 + digK s i + 1)
    else none
  else none
def dolE (s : ByteArray) (i : Nat) : Nat := toE s (i + 1) fun b => b == 36 || b == 10
/-- A formula between two dollar signs. -/
def dolI (s : ByteArray) (i : Nat) : Option (InL × Nat) :=
  if dolE s i < s.size ∧ dolE s i ≠ i + 1 ∧ bt s (dolE s i) = 36 ∧ bt s (i + 1) ≠ 32 ∧ bt s (dolE s i - 1) ≠ 32 ∧ ¬ (dolE s i + 1 < s.size ∧ dgN (bt s (dolE s i + 1)) = true) then
    some (spn 5 (s.extract (i + 1) (dolE s i)), dolE s i + 1)
  else none
def tick (b : Nat) : Bool := b == 96
/-- The first run of n backticks from i on, with a dollar sign behind it if d. -/
def laterF (s : ByteArray) (n : Nat) (d : Bool) : Nat → Nat → Option Nat
  | 0, _ => none
  | f + 1, i => if i < s.size then
      if bt s i = 96 then
        if runF s i tick = n ∧ (d = true → i + n < s.size ∧ bt s (i + n) = 36) then some i else laterF s n d f (i + runF s i tick)
      else laterF s n d f (i + 1)
    else none
def laterA (s : ByteArray) (i n : Nat) (d : Bool) : Option Nat := laterF s n d (s.size - i) i
/-- Line feeds as spaces. -/
def unLF (l : List UInt8) : List UInt8 := l.map fun b => if b = 10 then 32 else b
/-- The code text of a text. -/
def codeT (l : List UInt8) : List UInt8 :=
  if (unLF l).any (· != 32) = true ∧ (unLF l).head? = some 32 ∧ (unLF l).getLast? = some 32 then ((unLF l).drop 1).dropLast else unLF l
/-- A code span. -/
def codeI (s : ByteArray) (i : Nat) : Option (InL × Nat) :=
  (laterA s (i + runF s i tick) (runF s i tick) false).map fun k => (spn 4 (mk (codeT (sub s (i + runF s i tick) k))), k + runF s i tick)
/-- A formula between runs of backticks. -/
def mathI (s : ByteArray) (i : Nat) : Option (InL × Nat) :=
  if i + 1 < s.size ∧ bt s (i + 1) = 96 then
    (laterA s (i + 1 + runF s (i + 1) tick) (runF s (i + 1) tick) true).map fun k => (spn 5 (mk (codeT (sub s (i + 1 + runF s (i + 1) tick) k))), k + runF s (i + 1) tick + 1)
  else none
def autK (s : ByteArray) (i : Nat) : Nat := i + 1 + runF s (i + 1) letterN
def autE (s : ByteArray) (i : Nat) : Nat := toE s (autK s i) fun b => b == 32 || b == 10 || b == 60 || b == 62
/-- An address. -/
def autI (s : ByteArray) (i : Nat) : Option (InL × Nat) :=
  if 2 ≤ autK s i - i - 1 ∧ autK s i - i - 1 ≤ 20 ∧ autK s i < s.size ∧ bt s (autK s i) = 58 ∧ autE s i < s.size ∧ bt s (autE s i) = 62 then
    some ({ kind := 16, dest := s.extract (i + 1) (autE s i) }, autE s i + 1)
  else none
def argE (s : ByteArray) (k : Nat) : Nat := toE s (k + 1) fun b => b == 124 || b == 123 || b == 125 || b == 10
/-- The arguments of a use: at most f. -/
def argsF (s : ByteArray) : Nat → Nat → List ByteArray × Nat
  | 0, k => ([], k)
  | f + 1, k => if k < s.size ∧ bt s k = 124 then (s.extract (k + 1) (argE s k) :: (argsF s f (argE s k)).1, (argsF s f (argE s k)).2) else ([], k)
/-- A use of a variable or macro. -/
def useI (s : ByteArray) (i : Nat) : Option (InL × Nat) :=
  if begB s i [123, 123] = true then
    (nmEnd s (i + 2)).bind fun k => if begB s (argsF s 8 k).2 [125, 125] = true then some ({ kind := 15, text := s.extract (i + 2) k, args := (argsF s 8 k).1 }, (argsF s 8 k).2 + 2) else none
  else none
/-- A reference to a note, or a cross reference. -/
def namI (s : ByteArray) (i : Nat) : Option (InL × Nat) :=
  if i + 1 < s.size ∧ (bt s (i + 1) = 94 ∨ bt s (i + 1) = 35) then
    (nmEnd s (i + 2)).bind fun k =>
      if begB s k [93] = true then some (spn (if bt s (i + 1) = 94 then 12 else 14) (s.extract (i + 2) k), k + 1)
      else if bt s (i + 1) = 35 ∧ begB s k [32, 112, 97, 103, 101, 93] = true then some ({ kind := 14, text := s.extract (i + 2) k, title := ⟨#[112, 97, 103, 101]⟩ }, k + 6)
      else none
  else none
/-- A list without the spaces at its ends. -/
def trimL (l : List UInt8) : List UInt8 := Lib.trimB l 32
def citA (p : ByteArray) : Nat := toE p 0 fun b => b == 64
/-- The citation of one part. -/
def citedI (p : ByteArray) : Option CitL :=
  let a := citA p
  let b := decide (0 < a) && bt p (a - 1) == 45
  let f := if b = true then a - 1 else a
  if a < p.size ∧ toE p (a + 1) (fun b => b == 64) ≥ p.size ∧ (f = 0 ∨ bt p (f - 1) = 32) then
    (nmEnd p (a + 1)).map fun k => ⟨p.extract (a + 1) k, mk (trimL (sub p 0 f)), mk (trimL (sfx p k)), b⟩
  else none
/-- The parts between semicolons. -/
def semiL : List UInt8 → List (List UInt8)
  | [] => [[]]
  | c :: l => if c = 59 then [] :: semiL l else match semiL l with
    | [] => [[c]]
    | p :: ps => (c :: p) :: ps
def allC : List (List UInt8) → Option (List CitL)
  | [] => some []
  | p :: ps => (citedI (mk p)).bind fun c => (allC ps).map fun cs => c :: cs
def badC (b : UInt8) : Bool := b == 91 || b == 93 || b == 123 || b == 96 || b == 36 || b == 10
/-- The citations of a string. -/
def citesI (s : ByteArray) : Option (List CitL) := if (bytesL s).any badC = true then none else allC (semiL (bytesL s))
def citE (s : ByteArray) (i : Nat) : Nat := toE s (i + 1) fun b => b == 91 || b == 93
/-- A citation. -/
def citI (s : ByteArray) (i : Nat) : Option (InL × Nat) :=
  if citE s i < s.size ∧ bt s (citE s i) = 93 then (citesI (s.extract (i + 1) (citE s i))).map fun cs => ({ kind := 13, cites := cs }, citE s i + 1) else none
def flankL (ch : ByteArray) (b a : Int) : Bool × Bool :=
  let sb := decide (b < 0) || spaceB b
  let sa := decide (a < 0) || spaceB a
  let pb := inB b punctL
  let pa := inB a punctL
  let l := !sa && (!pa || sb || pb)
  let r := !sb && (!pb || sa || pa)
  if ch.toList = [42] ∨ ch.toList = [126] then (l, r)
  else if ch.toList = [95] then (l && (!r || pb), r && (!l || pa))
  else (false, false)
/-- The code point before i, or -1. -/
def befC (s : ByteArray) (i : Nat) : Int :=
  if i = 0 then -1
  else if 4 ≤ i ∧ (Utf8.decode s (i - 4)).2 = 4 then (Utf8.decode s (i - 4)).1
  else if 3 ≤ i ∧ (Utf8.decode s (i - 3)).2 = 3 then (Utf8.decode s (i - 3)).1
  else if 2 ≤ i ∧ (Utf8.decode s (i - 2)).2 = 2 then (Utf8.decode s (i - 2)).1
  else if bt s (i - 1) < 128 then bt s (i - 1) else 65533
/-- An inline that is found. -/
def pcI (r : InL × Nat) (i : Nat) : PcL := { inl := r.1, bg := i, nd := r.2 }
/-- A run of delimiters. -/
def runI (s : ByteArray) (i : Nat) : PcL :=
  { kind := 1, ch := s.extract i (i + 1), n := runE s i - i, opn := (flankL (s.extract i (i + 1)) (befC s i) (nextAt s (runE s i)).1).1, clo := (flankL (s.extract i (i + 1)) (befC s i) (nextAt s (runE s i)).1).2, bg := i, nd := runE s i }
/-- The piece at i, unless its bytes stand for themselves. -/
def spec (s : ByteArray) (i : Nat) : Option PcL :=
  if bt s i = 92 then (escI s i).map (pcI · i)
  else if bt s i = 32 ∨ bt s i = 10 then
    if spAt s i < s.size ∧ bt s (spAt s i) = 10 then some (pcI ({ kind := 2 }, spAt s (spAt s i + 1)) i) else none
  else if bt s i = 38 then (entI s i).map (pcI · i)
  else if bt s i = 36 then ((mathI s i).or (dolI s i)).map (pcI · i)
  else if bt s i = 96 then (codeI s i).map (pcI · i)
  else if bt s i = 60 then (autI s i).map (pcI · i)
  else if bt s i = 123 then (useI s i).map (pcI · i)
  else if bt s i = 91 then some (match (namI s i).or (citI s i) with | some r => pcI r i | none => { kind := 2, bg := i, nd := i + 1 })
  else if bt s i = 33 then if i + 1 < s.size ∧ bt s (i + 1) = 91 then some { kind := 2, img := true, bg := i, nd := i + 2 } else none
  else if bt s i = 93 then some { kind := 3, bg := i, nd := i + 1 }
  else if bt s i = 42 ∨ bt s i = 95 ∨ bt s i = 126 ∧ runE s i - i = 2 then some (runI s i)
  else none
/-- The end of the literal at i. -/
def litE (s : ByteArray) (i : Nat) : Nat := if bt s i = 32 ∨ bt s i = 96 ∨ bt s i = 126 then runE s i else i + (Utf8.decode s i).2
def litP (s : ByteArray) (i e : Nat) : PcL := { inl := spn 1 (s.extract i e), bg := i, nd := e }
/-- The piece at i, and whether its bytes stand for themselves. -/
def pieceA (s : ByteArray) (i : Nat) : PcL × Bool := match spec s i with
  | some p => (p, false)
  | none => (litP s i (litE s i), true)
/-- A literal behind a literal. -/
def joinP (s : ByteArray) (acc : List PcL) (e : Nat) : List PcL := match acc.getLast? with
  | some p => acc.dropLast ++ [{ p with nd := e, inl := { p.inl with text := s.extract p.bg e } }]
  | none => acc
/-- The pieces from i on, behind those of acc. -/
def scanF (s : ByteArray) : Nat → Nat → Bool → List PcL → List PcL
  | 0, _, _, acc => acc
  | f + 1, i, j, acc => if i < s.size then
      let p := pieceA s i
      scanF s f p.1.nd p.2 (if p.2 && j then joinP s acc p.1.nd else acc ++ [p.1])
    else acc
/-- The pieces of a string. -/
def scanP (s : ByteArray) : List PcL := scanF s s.size 0 false []
end Go.Pub
namespace Go.Pub
theorem runE_bd (s : ByteArray) (i : Nat) (h : i < s.size) : i < runE s i ∧ runE s i ≤ s.size := by
  unfold runE
  have h1 := runF_le s i fun b => b == bt s i
  have h2 := runF_yes s i (fun b => b == bt s i) h (by simp)
  omega
theorem toE_bd (s : ByteArray) (i : Nat) (p : Nat → Bool) (h : i ≤ s.size) : i ≤ toE s i p ∧ toE s i p ≤ s.size := by
  unfold toE
  have h1 := runF_le s i fun b => !p b
  omega
theorem begB_bd {s : ByteArray} {i : Nat} {t : List UInt8} (h : begB s i t = true) (ht : 0 < t.length) : i + t.length ≤ s.size := by
  unfold begB at h
  have := (List.isPrefixOf_iff_prefix.1 h).length_le
  rw [sfx_len] at this
  omega
theorem spAt_bd' (s : ByteArray) (i : Nat) : i ≤ spAt s i ∧ (i ≤ s.size → spAt s i ≤ s.size) := spEnd_bd s _ i
theorem nmEnd_bd {s : ByteArray} {i k : Nat} (h : nmEnd s i = some k) : k = wordAt s i ∧ i < k ∧ k ≤ s.size := by
  unfold nmEnd at h
  split at h
  · rename_i hn
    injection h with h
    unfold nameB at hn
    simp only [Bool.and_eq_true, decide_eq_true_eq] at hn
    have h1 := hn.1.1.1
    rw [ByteArray.size_extract] at h1
    have := wordAt_bd s i
    omega
  · cases h
theorem escI_bd {s : ByteArray} {i : Nat} {r : InL × Nat} (h : escI s i = some r) : i < r.2 ∧ r.2 ≤ s.size := by
  unfold escI at h
  have hb := spAt_bd' s (i + 2)
  split at h
  · split at h
    · injection h with h; subst h; exact ⟨by simp only []; omega, hb.2 (by omega)⟩
    · split at h
      · injection h with h; subst h; simp only []; omega
      · cases h
  · cases h
theorem entI_bd {s : ByteArray} {i : Nat} {r : InL × Nat} (h : entI s i = some r) : i < r.2 ∧ r.2 ≤ s.size := by
  unfold entI at h
  split at h
  · rename_i c; have := begB_bd c (by decide); injection h with h; subst h; simp only [List.length_cons, List.length_nil] at this ⊢; omega
  split at h
  · rename_i c; have := begB_bd c (by decide); injection h with h; subst h; simp only [List.length_cons, List.length_nil] at this ⊢; omega
  split at h
  · rename_i c; have := begB_bd c (by decide); injection h with h; subst h; simp only [List.length_cons, List.length_nil] at this ⊢; omega
  split at h
  · rename_i c; have := begB_bd c (by decide); injection h with h; subst h; simp only [List.length_cons, List.length_nil] at this ⊢; omega
  split at h
  · split at h
    · rename_i c; injection h with h; subst h; simp only []; omega
    · cases h
  · cases h
theorem dolI_bd {s : ByteArray} {i : Nat} {r : InL × Nat} (hi : i < s.size) (h : dolI s i = some r) : i < r.2 ∧ r.2 ≤ s.size := by
  unfold dolI at h
  have := toE_bd s (i + 1) (fun b => b == 36 || b == 10) hi
  split at h
  · rename_i c; injection h with h; subst h
    unfold dolE at *
    simp only []; omega
  · cases h
theorem laterF_spec (s : ByteArray) (n : Nat) (d : Bool) : ∀ f i k, laterF s n d f i = some k → i ≤ k ∧ k < s.size ∧ bt s k = 96 ∧ runF s k tick = n ∧ (d = true → k + n < s.size ∧ bt s (k + n) = 36)
  | 0, _, _, h => by cases h
  | f + 1, i, k, h => by
    unfold laterF at h
    split at h
    · rename_i h1
      split at h
      · rename_i h2
        split at h
        · rename_i h3
          injection h with h; subst h
          exact ⟨Nat.le_refl _, h1, h2, h3.1, h3.2⟩
        · have := laterF_spec s n d f _ k h
          exact ⟨by omega, this.2⟩
      · have := laterF_spec s n d f _ k h
        exact ⟨by omega, this.2⟩
    · cases h
theorem laterA_spec {s : ByteArray} {i n : Nat} {d : Bool} {k : Nat} (h : laterA s i n d = some k) : i ≤ k ∧ k < s.size ∧ bt s k = 96 ∧ runF s k tick = n ∧ (d = true → k + n < s.size ∧ bt s (k + n) = 36) := laterF_spec s n d _ _ _ h
theorem codeI_bd {s : ByteArray} {i : Nat} {r : InL × Nat} (hi : i < s.size) (hb : bt s i = 96) (h : codeI s i = some r) : i < r.2 ∧ r.2 ≤ s.size := by
  unfold codeI at h
  rw [Option.map_eq_some_iff] at h
  obtain ⟨k, hk, rfl⟩ := h
  have hs := laterA_spec hk
  have h1 := runF_le s k tick
  have h2 := runF_yes s i tick hi (by unfold tick; rw [hb]; rfl)
  simp only []; omega
theorem mathI_bd {s : ByteArray} {i : Nat} {r : InL × Nat} (h : mathI s i = some r) : i < r.2 ∧ r.2 ≤ s.size := by
  unfold mathI at h
  split at h
  · rw [Option.map_eq_some_iff] at h
    obtain ⟨k, hk, rfl⟩ := h
    have hs := laterA_spec hk
    have := hs.2.2.2.2 rfl
    simp only []; omega
  · cases h
theorem autK_bd (s : ByteArray) (i : Nat) (hi : i < s.size) : i < autK s i ∧ autK s i ≤ s.size := by
  unfold autK
  have := runF_le s (i + 1) letterN
  omega
theorem autI_bd {s : ByteArray} {i : Nat} {r : InL × Nat} (hi : i < s.size) (h : autI s i = some r) : i < r.2 ∧ r.2 ≤ s.size := by
  unfold autI at h
  have h1 := autK_bd s i hi
  have h2 := toE_bd s (autK s i) (fun b => b == 32 || b == 10 || b == 60 || b == 62) h1.2
  split at h
  · rename_i c; injection h with h; subst h
    unfold autE at *
    simp only []; omega
  · cases h
theorem argE_bd (s : ByteArray) (k : Nat) (h : k < s.size) : k < argE s k ∧ argE s k ≤ s.size := toE_bd s (k + 1) _ h
theorem argsF_bd (s : ByteArray) : ∀ f k, k ≤ s.size → k ≤ (argsF s f k).2 ∧ (argsF s f k).2 ≤ s.size ∧ (argsF s f k).1.length ≤ f
  | 0, k, h => ⟨Nat.le_refl _, h, Nat.le_refl _⟩
  | f + 1, k, h => by
    unfold argsF
    split
    · rename_i c
      have h1 := argE_bd s k c.1
      have h2 := argsF_bd s f (argE s k) h1.2
      simp only [List.length_cons]; omega
    · exact ⟨Nat.le_refl _, h, Nat.zero_le _⟩
theorem useI_bd {s : ByteArray} {i : Nat} {r : InL × Nat} (h : useI s i = some r) : i < r.2 ∧ r.2 ≤ s.size := by
  unfold useI at h
  split at h
  · rw [Option.bind_eq_some_iff] at h
    obtain ⟨k, hk, h⟩ := h
    have h1 := nmEnd_bd hk
    have h2 := argsF_bd s 8 k h1.2.2
    split at h
    · rename_i c
      have := begB_bd c (by decide)
      injection h with h; subst h
      simp only [List.length_cons, List.length_nil] at this ⊢; omega
    · cases h
  · cases h
theorem namI_bd {s : ByteArray} {i : Nat} {r : InL × Nat} (h : namI s i = some r) : i < r.2 ∧ r.2 ≤ s.size := by
  unfold namI at h
  split at h
  · rw [Option.bind_eq_some_iff] at h
    obtain ⟨k, hk, h⟩ := h
    have h1 := nmEnd_bd hk
    split at h
    · rename_i c
      have := begB_bd c (by decide)
      injection h with h; subst h
      simp only [List.length_cons, List.length_nil] at this ⊢; omega
    · split at h
      · rename_i c
        have := begB_bd c.2 (by decide)
        injection h with h; subst h
        simp only [List.length_cons, List.length_nil] at this ⊢; omega
      · cases h
  · cases h
theorem citI_bd {s : ByteArray} {i : Nat} {r : InL × Nat} (hi : i < s.size) (h : citI s i = some r) : i < r.2 ∧ r.2 ≤ s.size := by
  unfold citI at h
  have := toE_bd s (i + 1) (fun b => b == 91 || b == 93) hi
  split at h
  · rename_i c
    rw [Option.map_eq_some_iff] at h
    obtain ⟨k, hk, rfl⟩ := h
    unfold citE at *
    simp only []; omega
  · cases h
theorem pcI_bd {s : ByteArray} {i : Nat} {o : Option (InL × Nat)} {p : PcL} (h : o.map (pcI · i) = some p) (ho : ∀ r, o = some r → i < r.2 ∧ r.2 ≤ s.size) : p.bg = i ∧ i < p.nd ∧ p.nd ≤ s.size := by
  rw [Option.map_eq_some_iff] at h
  obtain ⟨r, hr, rfl⟩ := h
  exact ⟨rfl, ho r hr⟩
theorem or_bd {α : Type} {o q : Option α} {r : α} {P : α → Prop} (h : o.or q = some r) (h1 : ∀ r, o = some r → P r) (h2 : ∀ r, q = some r → P r) : P r := by
  cases o with
  | none => exact h2 r h
  | some x => exact h1 r h
theorem spec_bd {s : ByteArray} {i : Nat} {p : PcL} (hi : i < s.size) (h : spec s i = some p) : p.bg = i ∧ i < p.nd ∧ p.nd ≤ s.size := by
  unfold spec at h
  by_cases c : bt s i = 92
  · rw [if_pos c] at h; exact pcI_bd h fun r => escI_bd
  rw [if_neg c] at h; clear c
  by_cases c : bt s i = 32 ∨ bt s i = 10
  · rw [if_pos c] at h
    by_cases c : spAt s i < s.size ∧ bt s (spAt s i) = 10
    · rw [if_pos c] at h
      injection h with h; subst h
      have h1 := spAt_bd' s i
      have h2 := spAt_bd' s (spAt s i + 1)
      exact ⟨rfl, by show i < spAt s (spAt s i + 1); omega, h2.2 c.1⟩
    · rw [if_neg c] at h; cases h
  rw [if_neg c] at h; clear c
  by_cases c : bt s i = 38
  · rw [if_pos c] at h; exact pcI_bd h fun r => entI_bd
  rw [if_neg c] at h; clear c
  by_cases c : bt s i = 36
  · rw [if_pos c] at h; exact pcI_bd h fun r hr => or_bd hr (P := fun r => i < r.2 ∧ r.2 ≤ s.size) (fun r => mathI_bd) fun r => dolI_bd hi
  rw [if_neg c] at h; clear c
  by_cases c : bt s i = 96
  · rw [if_pos c] at h; exact pcI_bd h fun r => codeI_bd hi c
  rw [if_neg c] at h; clear c
  by_cases c : bt s i = 60
  · rw [if_pos c] at h; exact pcI_bd h fun r => autI_bd hi
  rw [if_neg c] at h; clear c
  by_cases c : bt s i = 123
  · rw [if_pos c] at h; exact pcI_bd h fun r => useI_bd
  rw [if_neg c] at h; clear c
  by_cases c : bt s i = 91
  · rw [if_pos c] at h
    injection h with h; subst h
    cases hx : (namI s i).or (citI s i) with
    | none => exact ⟨rfl, Nat.lt_succ_self i, hi⟩
    | some r =>
      have := or_bd hx (P := fun r => i < r.2 ∧ r.2 ≤ s.size) (fun r => namI_bd) fun r => citI_bd hi
      exact ⟨rfl, this⟩
  rw [if_neg c] at h; clear c
  by_cases c : bt s i = 33
  · rw [if_pos c] at h
    by_cases c : i + 1 < s.size ∧ bt s (i + 1) = 91
    · rw [if_pos c] at h; injection h with h; subst h; exact ⟨rfl, by show i < i + 2; omega, c.1⟩
    · rw [if_neg c] at h; cases h
  rw [if_neg c] at h; clear c
  by_cases c : bt s i = 93
  · rw [if_pos c] at h; injection h with h; subst h; exact ⟨rfl, Nat.lt_succ_self i, hi⟩
  rw [if_neg c] at h; clear c
  by_cases c : bt s i = 42 ∨ bt s i = 95 ∨ bt s i = 126 ∧ runE s i - i = 2
  · rw [if_pos c] at h; injection h with h; subst h; exact ⟨rfl, runE_bd s i hi⟩
  · rw [if_neg c] at h; cases h
theorem litE_bd (s : ByteArray) (i : Nat) (hi : i < s.size) : i < litE s i ∧ litE s i ≤ s.size := by
  unfold litE
  split
  · exact runE_bd s i hi
  · have := dec_bd s i hi; omega
theorem pieceA_bd (s : ByteArray) (i : Nat) (hi : i < s.size) : (pieceA s i).1.bg = i ∧ i < (pieceA s i).1.nd ∧ (pieceA s i).1.nd ≤ s.size := by
  unfold pieceA
  cases h : spec s i with
  | none => exact ⟨rfl, litE_bd s i hi⟩
  | some p => exact spec_bd hi h
/-- Pieces that follow one another from a to b. -/
def covP : List PcL → Nat → Nat → Prop
  | [], a, b => a = b
  | p :: l, a, b => p.bg = a ∧ a < p.nd ∧ covP l p.nd b
theorem covP_snoc (p : PcL) : ∀ (l : List PcL) (a b : Nat), covP l a b → p.bg = b → b < p.nd → covP (l ++ [p]) a p.nd
  | [], a, b, h, h1, h2 => by
    have h : a = b := h
    subst h; exact ⟨h1, h2, rfl⟩
  | q :: l, a, b, h, h1, h2 => ⟨h.1, h.2.1, covP_snoc p l q.nd b h.2.2 h1 h2⟩
theorem covP_last (s : ByteArray) (p : PcL) (e : Nat) : ∀ (l : List PcL) (a b : Nat), covP (l ++ [p]) a b → b ≤ e → covP (l ++ [{ p with nd := e, inl := { p.inl with text := s.extract p.bg e } }]) a e
  | [], a, b, h, he => by
    have h : p.bg = a ∧ a < p.nd ∧ p.nd = b := h
    exact ⟨h.1, by show a < e; omega, rfl⟩
  | q :: l, a, b, h, he => ⟨h.1, h.2.1, covP_last s p e l q.nd b h.2.2 he⟩
theorem joinP_snoc (s : ByteArray) (l : List PcL) (p : PcL) (e : Nat) : joinP s (l ++ [p]) e = l ++ [{ p with nd := e, inl := { p.inl with text := s.extract p.bg e } }] := by
  unfold joinP
  simp
theorem snoc_of (l : List PcL) (h : l ≠ []) : ∃ (k : List PcL) (p : PcL), l = k ++ [p] := ⟨l.dropLast, l.getLast h, (List.dropLast_concat_getLast h).symm⟩
theorem scanF_cov (s : ByteArray) : ∀ (f i : Nat) (j : Bool) (acc : List PcL), covP acc 0 i → i ≤ s.size → (j = true → acc ≠ []) → s.size - i ≤ f → covP (scanF s f i j acc) 0 s.size
  | 0, i, j, acc, h, hi, _, hf => by
    obtain rfl : i = s.size := by omega
    exact h
  | f + 1, i, j, acc, h, hi, hj, hf => by
    unfold scanF
    by_cases hl : i < s.size
    · rw [if_pos hl]
      have hb := pieceA_bd s i hl
      refine scanF_cov s f _ _ _ ?_ hb.2.2 (fun _ => ?_) (by omega)
      · split
        · rename_i c
          rw [Bool.and_eq_true] at c
          obtain ⟨k, p, rfl⟩ := snoc_of acc (hj c.2)
          rw [joinP_snoc]
          exact covP_last s p _ k 0 i h (by omega)
        · exact covP_snoc _ _ _ _ h hb.1 hb.2.1
      · split
        · rename_i c
          rw [Bool.and_eq_true] at c
          obtain ⟨k, p, rfl⟩ := snoc_of acc (hj c.2)
          rw [joinP_snoc]
          simp
        · simp
    · rw [if_neg hl]
      obtain rfl : i = s.size := by omega
      exact h
theorem scanP_cov (s : ByteArray) : covP (scanP s) 0 s.size := scanF_cov s s.size 0 false [] rfl (Nat.zero_le _) (fun h => by cases h) (by omega)
end Go.Pub
