/-
  Texts of the proof, put together (what this law reaches): Tk, MkF, MkH, MkI, MkK, MkR, ScA, ScB, ScJ, ScK, ScN, ScO, ScRA, ScRB, ScRD, ScE, ScAZ, Any, AttrM.
-/
import Derived.Test.YtcjkgmfidkgamaaGreatDoorE03
import Derived.Deep.RegionHeld
import Derived.Test.YtcjkgmfidkgamaaGreatDoorE02
import Derived.Test.YtcjkgmfidkgamaaGreatDoorE01
import Derived.WalkKit
import Derived.WalkSpells
import Derived.Lib.Builder
import Derived.Lib.OthersKept
import Derived.Lib.FrozenHead2
import Derived.Lib.RuneBytes
import Derived.Deep.RegionHeld3
import Derived.StillTailTactics
import Derived.StillTail
import Derived.Deep.CutRange
import Derived.Deep.DeepCutAuto
import Derived.IntWalk
import Derived.Lib.TrimByte
import Derived.Lib.Bytealg
import Derived.Lib.IndexAny
import Derived.Maps.Own
import Derived.Deep.QuietTactic
import Derived.BigQuiet
set_option linter.unusedVariables false
set_option linter.unusedSimpArgs false
namespace Go.Proofs.YtcjkgmfidkgamaaGreatDoor
open Go.RowKit Go.Pub
section
variable {P : Program} {ops : Array Oper} {Q : Exit → Act → World → Prop} {S : World → Prop} {fuel : Nat} {listed : Array Bool} {a : Act} {w : World}
/-- An operation that only reads is taken first. -/
theorem tk (i : Nat) (v : Value) {oi : Oper} (hi : ops[i]? = some oi) (hS : S w) (hy : ∀ w, S w → (execOp a.eval oi).run P w = .ok (.value v) w)
    (h : wpAnyH P .any ops Q S fuel (listed.setIfInBounds i true) (a.put oi.dst v) w)
    (hs : Region.noSelect ops = true := by kernel_rfl) (hf : Region.free .any ops listed i = true := by kernel_rfl) (hr : (Region.ready .any ops listed).contains i = true := by kernel_rfl)
    (hw : Region.wanted oi (yielded ops a.tmps) = true := by kernel_rfl) (hQ : ∀ c a w, Q (.panic c) (a.put oi.dst v) w → Q (.panic c) a w := by exact fun _ _ _ h => h) : wpAnyH P .any ops Q S (fuel + 1) listed a w :=
  wpAnyH_take hi hs hf hr hQ (Or.inl ⟨hw, hy⟩) hS h
/-- The one that is ready. -/
theorem rd1 (i : Nat) {o : Oper} (ho : ops[i]? = some o) (h : ∀ K' : Act → World → Prop, Shut (∀ a w, S w → (S w → wpAnyH P .any ops Q S fuel (listed.setIfInBounds i true) a w) → K' a w) → if Region.wanted o (yielded ops a.tmps) = true then Oper.wp P o a w K' Q else K' (a.put o.dst undef) w)
    (hr : Region.ready .any ops listed = [i] := by kernel_rfl) : wpAnyH P .any ops Q S (fuel + 1) listed a w :=
  wpAnyH_ready hr (by simp) (AllReadyH.cons ho h AllReadyH.nil)
end
end Go.Proofs.YtcjkgmfidkgamaaGreatDoor
namespace Go.Pub
open Go Go.RowKit
theorem Agr.symm {s s' : ByteArray} {i i' n : Nat} (h : Agr s i s' i' n) : Agr s' i' s i n := by
  obtain ⟨p, r, r', h1, h2, h3⟩ := h
  exact ⟨p, r', r, h2, h1, h3⟩
end Go.Pub
namespace Go.Proofs.YtcjkgmfidkgamaaGreatDoor
open Go.RowKit Go.Pub Go.Shelf
attribute [local go_sem] Oper.semAt_some
end Go.Proofs.YtcjkgmfidkgamaaGreatDoor
namespace Go.Pub
open Go Go.RowKit
theorem Blk.drew {w : World} {g : Nat} {t : TypeId} {cs : Array Value} (h : Blk w g t cs) : Blk w.drew g t cs := h
end Go.Pub
namespace Go.Proofs.YtcjkgmfidkgamaaGreatDoor
open Go.RowKit Go.Pub Go.Shelf
attribute [local go_sem] Oper.semAt_some
end Go.Proofs.YtcjkgmfidkgamaaGreatDoor
namespace Go.Proofs.YtcjkgmfidkgamaaGreatDoor
open Go.RowKit Go.Pub Go.Shelf
attribute [local go_sem] Oper.semAt_some
end Go.Proofs.YtcjkgmfidkgamaaGreatDoor
namespace Go.Proofs.YtcjkgmfidkgamaaGreatDoor
open Go.RowKit Go.Pub Go.Shelf
attribute [local go_sem] Oper.semAt_some
end Go.Proofs.YtcjkgmfidkgamaaGreatDoor
namespace Go.Pub
/-- How many bytes of a kind a list begins with. -/
def cntW (p : Nat → Bool) : List UInt8 → Nat
  | [] => 0
  | c :: l => if p c.toNat = true then cntW p l + 1 else 0
/-- How many bytes of a kind stand from i on. -/
def runF (s : ByteArray) (i : Nat) (p : Nat → Bool) : Nat := cntW p (sfx s i)
theorem runF_end (s : ByteArray) (i : Nat) (p : Nat → Bool) (h : s.size ≤ i) : runF s i p = 0 := by unfold runF; rw [sfx_nil s i h]; rfl
theorem runF_yes (s : ByteArray) (i : Nat) (p : Nat → Bool) (h : i < s.size) (hp : p (bt s i) = true) : runF s i p = runF s (i + 1) p + 1 := by
  unfold runF; rw [sfx_cons s i h]
  show (if p (bt s i) = true then _ else _) = _
  rw [if_pos hp]
theorem runF_no (s : ByteArray) (i : Nat) (p : Nat → Bool) (h : i < s.size) (hp : p (bt s i) = false) : runF s i p = 0 := by
  unfold runF; rw [sfx_cons s i h]
  show (if p (bt s i) = true then _ else _) = _
  rw [if_neg (by rw [hp]; exact Bool.false_ne_true)]
theorem cntW_le (p : Nat → Bool) : ∀ l : List UInt8, cntW p l ≤ l.length
  | [] => Nat.le_refl _
  | c :: l => by unfold cntW; have := cntW_le p l; split <;> simp <;> omega
theorem runF_le (s : ByteArray) (i : Nat) (p : Nat → Bool) : runF s i p ≤ s.size - i := by
  unfold runF; have := cntW_le p (sfx s i); rwa [sfx_len] at this
theorem runF_all (s : ByteArray) (p : Nat → Bool) : ∀ (n i : Nat), s.size - i ≤ n → (∀ j, i ≤ j → j < i + runF s i p → p (bt s j) = true) ∧ (i + runF s i p < s.size → p (bt s (i + runF s i p)) = false)
  | 0, i, h => by
    rw [runF_end s i p (by omega)]
    exact ⟨fun j h1 h2 => by omega, fun h1 => by omega⟩
  | n + 1, i, h => by
    by_cases hi : i < s.size
    · cases hp : p (bt s i)
      · rw [runF_no s i p hi hp]
        exact ⟨fun j h1 h2 => by omega, fun _ => hp⟩
      · have ih := runF_all s p n (i + 1) (by omega)
        rw [runF_yes s i p hi hp]
        rw [show i + (runF s (i + 1) p + 1) = i + 1 + runF s (i + 1) p by omega]
        refine ⟨fun j h1 h2 => ?_, ih.2⟩
        by_cases hj : j = i
        · subst hj; exact hp
        · exact ih.1 j (by omega) h2
    · rw [runF_end s i p (by omega)]
      exact ⟨fun j h1 h2 => by omega, fun h1 => by omega⟩
theorem runF_eq (s : ByteArray) (p : Nat → Bool) (i n : Nat) (h : i + n ≤ s.size) (h1 : ∀ j, i ≤ j → j < i + n → p (bt s j) = true) (h2 : i + n < s.size → p (bt s (i + n)) = false) : runF s i p = n := by
  have k := runF_all s p s.size i (by omega)
  have hl := runF_le s i p
  rcases Nat.lt_trichotomy (runF s i p) n with h3 | h3 | h3
  · have e1 := k.2 (by omega)
    rw [h1 _ (by omega) (by omega)] at e1; cases e1
  · exact h3
  · have e1 := k.1 (i + n) (by omega) (by omega)
    rw [h2 (by omega)] at e1; cases e1
end Go.Pub
namespace Go.Proofs.YtcjkgmfidkgamaaGreatDoor
open Go.RowKit Go.Pub
end Go.Proofs.YtcjkgmfidkgamaaGreatDoor
namespace Go.Pub
/-- A part of a citation. -/
structure CitL where
  key : ByteArray
  pre : ByteArray
  suf : ByteArray
  bare : Bool
/-- An inline without others in it. -/
structure InL where
  kind : Nat
  text : ByteArray := ⟨#[]⟩
  dest : ByteArray := ⟨#[]⟩
  title : ByteArray := ⟨#[]⟩
  args : List ByteArray := []
  cites : List CitL := []
/-- A piece. -/
structure PcL where
  kind : Nat := 0
  inl : InL := { kind := 0 }
  ch : ByteArray := ⟨#[]⟩
  n : Nat := 0
  opn : Bool := false
  clo : Bool := false
  img : Bool := false
  bg : Nat := 0
  nd : Nat := 0
def spn (k : Nat) (t : ByteArray) : InL := { kind := k, text := t }
/-- The end of the run of the byte at i. -/
def runE (s : ByteArray) (i : Nat) : Nat := i + runF s i fun b => b == bt s i
/-- The first byte of a kind from i on. -/
def toE (s : ByteArray) (i : Nat) (p : Nat → Bool) : Nat := i + runF s i fun b => !p b
/-- Do these bytes stand at i? -/
def begB (s : ByteArray) (i : Nat) (t : List UInt8) : Bool := t.isPrefixOf (sfx s i)
/-- The end of a name at i. -/
def nmEnd (s : ByteArray) (i : Nat) : Option Nat := if nameB (s.extract i (wordAt s i)) = true then some (wordAt s i) else none
/-- An escape or a line break. -/
def escI (s : ByteArray) (i : Nat) : Option (InL × Nat) :=
  if i + 1 < s.size then
    if bt s (i + 1) = 10 then some ({ kind := 3 }, spAt s (i + 2))
    else if (decide (bt s (i + 1) < 128) && inB (bt s (i + 1) : Int) punctL) = true then some (spn 1 (s.extract (i + 1) (i + 2)), i + 2) else none
  else none
/-- A digit. -/
def dgN (n : Nat) : Bool := decide (48 ≤ n) && decide (n ≤ 57)
/-- The number that digits write. -/
def numV (l : List UInt8) : Nat := l.foldl (fun n b => 10 * n + (b.toNat - 48)) 0
def goodC (n : Nat) : Bool := !(decide (n < 32) || n == 127 || decide (1114111 < n) || (decide (55296 ≤ n) && decide (n ≤ 57343)))
/-- How many digits a reference has. -/
def digK (s : ByteArray) (i : Nat) : Nat := min 7 (runF s (i + 2) dgN)
/-- A character reference. -/
def entI (s : ByteArray) (i : Nat) : Option (InL × Nat) :=
  if begB s i [38, 97, 109, 112, 59] = true then some (spn 1 ⟨#[38]⟩, i + 5)
  else if begB s i [38, 108, 116, 59] = true then some (spn 1 ⟨#[60]⟩, i + 4)
  else if begB s i [38, 103, 116, 59] = true then some (spn 1 ⟨#[62]⟩, i + 4)
  else if begB s i [38, 113, 117, 111, 116, 59] = true then some (spn 1 ⟨#[34]⟩, i + 6)
  else if begB s i [38, 35] = true then
    if digK s i ≠ 0 ∧ i + 2 + digK s i < s.size ∧ bt s (i + 2 + digK s i) = 59 ∧ goodC (numV (sub s (i + 2) (i + 2 + digK s i))) = true then
      some (spn 1 (Utf8.encode (numV (sub s (i + 2) (i + 2 + digK s i)) : Nat)), i + 2 + digK s i + 1)
    else none
  else none
def dolE (s : ByteArray) (i : Nat) : Nat := toE s (i + 1) fun b => b == 36 || b == 10
/-- A formula between two dollar signs. -/
def dolI (s : ByteArray) (i : Nat) : Option (InL × Nat) :=
  if dolE s i < s.size ∧ dolE s i ≠ i + 1 ∧ bt s (dolE s i) = 36 ∧ bt s (i + 1) ≠ 32 ∧ bt s (dolE s i - 1) ≠ 32 ∧ ¬ (dolE s i + 1 < s.size ∧ dgN (bt s (dolE s i + 1)) = true) then
    some (spn 5 (s.extract (i + 1) (dolE s i)), dolE s i + 1)
  else none
def tick (b : Nat) : Bool := b == 96
/-- The first run of n backticks from i on, with a dollar sign behind it if d. -/
def laterF (s : ByteArray) (n : Nat) (d : Bool) : Nat → Nat → Option Nat
  | 0, _ => none
  | f + 1, i => if i < s.size then
      if bt s i = 96 then
        if runF s i tick = n ∧ (d = true → i + n < s.size ∧ bt s (i + n) = 36) then some i else laterF s n d f (i + runF s i tick)
      else laterF s n d f (i + 1)
    else none
def laterA (s : ByteArray) (i n : Nat) (d : Bool) : Option Nat := laterF s n d (s.size - i) i
/-- Line feeds as spaces. -/
def unLF (l : List UInt8) : List UInt8 := l.map fun b => if b = 10 then 32 else b
/-- The code text of a text. -/
def codeT (l : List UInt8) : List UInt8 :=
  if (unLF l).any (· != 32) = true ∧ (unLF l).head? = some 32 ∧ (unLF l).getLast? = some 32 then ((unLF l).drop 1).dropLast else unLF l
/-- A code span. -/
def codeI (s : ByteArray) (i : Nat) : Option (InL × Nat) :=
  (laterA s (i + runF s i tick) (runF s i tick) false).map fun k => (spn 4 (mk (codeT (sub s (i + runF s i tick) k))), k + runF s i tick)
/-- A formula between runs of backticks. -/
def mathI (s : ByteArray) (i : Nat) : Option (InL × Nat) :=
  if i + 1 < s.size ∧ bt s (i + 1) = 96 then
    (laterA s (i + 1 + runF s (i + 1) tick) (runF s (i + 1) tick) true).map fun k => (spn 5 (mk (codeT (sub s (i + 1 + runF s (i + 1) tick) k))), k + runF s (i + 1) tick + 1)
  else none
def autK (s : ByteArray) (i : Nat) : Nat := i + 1 + runF s (i + 1) letterN
def autE (s : ByteArray) (i : Nat) : Nat := toE s (autK s i) fun b => b == 32 || b == 10 || b == 60 || b == 62
/-- An address. -/
def autI (s : ByteArray) (i : Nat) : Option (InL × Nat) :=
  if 2 ≤ autK s i - i - 1 ∧ autK s i - i - 1 ≤ 20 ∧ autK s i < s.size ∧ bt s (autK s i) = 58 ∧ autE s i < s.size ∧ bt s (autE s i) = 62 then
    some ({ kind := 16, dest := s.extract (i + 1) (autE s i) }, autE s i + 1)
  else none
def argE (s : ByteArray) (k : Nat) : Nat := toE s (k + 1) fun b => b == 124 || b == 123 || b == 125 || b == 10
/-- The arguments of a use: at most f. -/
def argsF (s : ByteArray) : Nat → Nat → List ByteArray × Nat
  | 0, k => ([], k)
  | f + 1, k => if k < s.size ∧ bt s k = 124 then (s.extract (k + 1) (argE s k) :: (argsF s f (argE s k)).1, (argsF s f (argE s k)).2) else ([], k)
/-- A use of a variable or macro. -/
def useI (s : ByteArray) (i : Nat) : Option (InL × Nat) :=
  if begB s i [123, 123] = true then
    (nmEnd s (i + 2)).bind fun k => if begB s (argsF s 8 k).2 [125, 125] = true then some ({ kind := 15, text := s.extract (i + 2) k, args := (argsF s 8 k).1 }, (argsF s 8 k).2 + 2) else none
  else none
/-- A reference to a note, or a cross reference. -/
def namI (s : ByteArray) (i : Nat) : Option (InL × Nat) :=
  if i + 1 < s.size ∧ (bt s (i + 1) = 94 ∨ bt s (i + 1) = 35) then
    (nmEnd s (i + 2)).bind fun k =>
      if begB s k [93] = true then some (spn (if bt s (i + 1) = 94 then 12 else 14) (s.extract (i + 2) k), k + 1)
      else if bt s (i + 1) = 35 ∧ begB s k [32, 112, 97, 103, 101, 93] = true then some ({ kind := 14, text := s.extract (i + 2) k, title := ⟨#[112, 97, 103, 101]⟩ }, k + 6)
      else none
  else none
/-- A list without the spaces at its ends. -/
def trimL (l : List UInt8) : List UInt8 := Lib.trimB l 32
def citA (p : ByteArray) : Nat := toE p 0 fun b => b == 64
/-- The citation of one part. -/
def citedI (p : ByteArray) : Option CitL :=
  let a := citA p
  let b := decide (0 < a) && bt p (a - 1) == 45
  let f := if b = true then a - 1 else a
  if a < p.size ∧ toE p (a + 1) (fun b => b == 64) ≥ p.size ∧ (f = 0 ∨ bt p (f - 1) = 32) then
    (nmEnd p (a + 1)).map fun k => ⟨p.extract (a + 1) k, mk (trimL (sub p 0 f)), mk (trimL (sfx p k)), b⟩
  else none
/-- The parts between semicolons. -/
def semiL : List UInt8 → List (List UInt8)
  | [] => [[]]
  | c :: l => if c = 59 then [] :: semiL l else match semiL l with
    | [] => [[c]]
    | p :: ps => (c :: p) :: ps
def allC : List (List UInt8) → Option (List CitL)
  | [] => some []
  | p :: ps => (citedI (mk p)).bind fun c => (allC ps).map fun cs => c :: cs
def badC (b : UInt8) : Bool := b == 91 || b == 93 || b == 123 || b == 96 || b == 36 || b == 10
/-- The citations of a string. -/
def citesI (s : ByteArray) : Option (List CitL) := if (bytesL s).any badC = true then none else allC (semiL (bytesL s))
def citE (s : ByteArray) (i : Nat) : Nat := toE s (i + 1) fun b => b == 91 || b == 93
/-- A citation. -/
def citI (s : ByteArray) (i : Nat) : Option (InL × Nat) :=
  if citE s i < s.size ∧ bt s (citE s i) = 93 then (citesI (s.extract (i + 1) (citE s i))).map fun cs => ({ kind := 13, cites := cs }, citE s i + 1) else none
def flankL (ch : ByteArray) (b a : Int) : Bool × Bool :=
  let sb := decide (b < 0) || spaceB b
  let sa := decide (a < 0) || spaceB a
  let pb := inB b punctL
  let pa := inB a punctL
  let l := !sa && (!pa || sb || pb)
  let r := !sb && (!pb || sa || pa)
  if ch.toList = [42] ∨ ch.toList = [126] then (l, r)
  else if ch.toList = [95] then (l && (!r || pb), r && (!l || pa))
  else (false, false)
/-- The code point before i, or -1. -/
def befC (s : ByteArray) (i : Nat) : Int :=
  if i = 0 then -1
  else if 4 ≤ i ∧ (Utf8.decode s (i - 4)).2 = 4 then (Utf8.decode s (i - 4)).1
  else if 3 ≤ i ∧ (Utf8.decode s (i - 3)).2 = 3 then (Utf8.decode s (i - 3)).1
  else if 2 ≤ i ∧ (Utf8.decode s (i - 2)).2 = 2 then (Utf8.decode s (i - 2)).1
  else if bt s (i - 1) < 128 then bt s (i - 1) else 65533
/-- An inline that is found. -/
def pcI (r : InL × Nat) (i : Nat) : PcL := { inl := r.1, bg := i, nd := r.2 }
/-- A run of delimiters. -/
def runI (s : ByteArray) (i : Nat) : PcL :=
  { kind := 1, ch := s.extract i (i + 1), n := runE s i - i, opn := (flankL (s.extract i (i + 1)) (befC s i) (nextAt s (runE s i)).1).1, clo := (flankL (s.extract i (i + 1)) (befC s i) (nextAt s (runE s i)).1).2, bg := i, nd := runE s i }
/-- The piece at i, unless its bytes stand for themselves. -/
def spec (s : ByteArray) (i : Nat) : Option PcL :=
  if bt s i = 92 then (escI s i).map (pcI · i)
  else if bt s i = 32 ∨ bt s i = 10 then
    if spAt s i < s.size ∧ bt s (spAt s i) = 10 then some (pcI ({ kind := 2 }, spAt s (spAt s i + 1)) i) else none
  else if bt s i = 38 then (entI s i).map (pcI · i)
  else if bt s i = 36 then ((mathI s i).or (dolI s i)).map (pcI · i)
  else if bt s i = 96 then (codeI s i).map (pcI · i)
  else if bt s i = 60 then (autI s i).map (pcI · i)
  else if bt s i = 123 then (useI s i).map (pcI · i)
  else if bt s i = 91 then some (match (namI s i).or (citI s i) with | some r => pcI r i | none => { kind := 2, bg := i, nd := i + 1 })
  else if bt s i = 33 then if i + 1 < s.size ∧ bt s (i + 1) = 91 then some { kind := 2, img := true, bg := i, nd := i + 2 } else none
  else if bt s i = 93 then some { kind := 3, bg := i, nd := i + 1 }
  else if bt s i = 42 ∨ bt s i = 95 ∨ bt s i = 126 ∧ runE s i - i = 2 then some (runI s i)
  else none
/-- The end of the literal at i. -/
def litE (s : ByteArray) (i : Nat) : Nat := if bt s i = 32 ∨ bt s i = 96 ∨ bt s i = 126 then runE s i else i + (Utf8.decode s i).2
def litP (s : ByteArray) (i e : Nat) : PcL := { inl := spn 1 (s.extract i e), bg := i, nd := e }
/-- The piece at i, and whether its bytes stand for themselves. -/
def pieceA (s : ByteArray) (i : Nat) : PcL × Bool := match spec s i with
  | some p => (p, false)
  | none => (litP s i (litE s i), true)
/-- A literal behind a literal. -/
def joinP (s : ByteArray) (acc : List PcL) (e : Nat) : List PcL := match acc.getLast? with
  | some p => acc.dropLast ++ [{ p with nd := e, inl := { p.inl with text := s.extract p.bg e } }]
  | none => acc
/-- The pieces from i on, behind those of acc. -/
def scanF (s : ByteArray) : Nat → Nat → Bool → List PcL → List PcL
  | 0, _, _, acc => acc
  | f + 1, i, j, acc => if i < s.size then
      let p := pieceA s i
      scanF s f p.1.nd p.2 (if p.2 && j then joinP s acc p.1.nd else acc ++ [p.1])
    else acc
/-- The pieces of a string. -/
def scanP (s : ByteArray) : List PcL := scanF s s.size 0 false []
end Go.Pub
namespace Go.Pub
theorem runE_bd (s : ByteArray) (i : Nat) (h : i < s.size) : i < runE s i ∧ runE s i ≤ s.size := by
  unfold runE
  have h1 := runF_le s i fun b => b == bt s i
  have h2 := runF_yes s i (fun b => b == bt s i) h (by simp)
  omega
theorem toE_bd (s : ByteArray) (i : Nat) (p : Nat → Bool) (h : i ≤ s.size) : i ≤ toE s i p ∧ toE s i p ≤ s.size := by
  unfold toE
  have h1 := runF_le s i fun b => !p b
  omega
theorem begB_bd {s : ByteArray} {i : Nat} {t : List UInt8} (h : begB s i t = true) (ht : 0 < t.length) : i + t.length ≤ s.size := by
  unfold begB at h
  have := (List.isPrefixOf_iff_prefix.1 h).length_le
  rw [sfx_len] at this
  omega
theorem spAt_bd' (s : ByteArray) (i : Nat) : i ≤ spAt s i ∧ (i ≤ s.size → spAt s i ≤ s.size) := spEnd_bd s _ i
theorem nmEnd_bd {s : ByteArray} {i k : Nat} (h : nmEnd s i = some k) : k = wordAt s i ∧ i < k ∧ k ≤ s.size := by
  unfold nmEnd at h
  split at h
  · rename_i hn
    injection h with h
    unfold nameB at hn
    simp only [Bool.and_eq_true, decide_eq_true_eq] at hn
    have h1 := hn.1.1.1
    rw [ByteArray.size_extract] at h1
    have := wordAt_bd s i
    omega
  · cases h
theorem escI_bd {s : ByteArray} {i : Nat} {r : InL × Nat} (h : escI s i = some r) : i < r.2 ∧ r.2 ≤ s.size := by
  unfold escI at h
  have hb := spAt_bd' s (i + 2)
  split at h
  · split at h
    · injection h with h; subst h; exact ⟨by simp only []; omega, hb.2 (by omega)⟩
    · split at h
      · injection h with h; subst h; simp only []; omega
      · cases h
  · cases h
theorem entI_bd {s : ByteArray} {i : Nat} {r : InL × Nat} (h : entI s i = some r) : i < r.2 ∧ r.2 ≤ s.size := by
  unfold entI at h
  split at h
  · rename_i c; have := begB_bd c (by decide); injection h with h; subst h; simp only [List.length_cons, List.length_nil] at this ⊢; omega
  split at h
  · rename_i c; have := begB_bd c (by decide); injection h with h; subst h; simp only [List.length_cons, List.length_nil] at this ⊢; omega
  split at h
  · rename_i c; have := begB_bd c (by decide); injection h with h; subst h; simp only [List.length_cons, List.length_nil] at this ⊢; omega
  split at h
  · rename_i c; have := begB_bd c (by decide); injection h with h; subst h; simp only [List.length_cons, List.length_nil] at this ⊢; omega
  split at h
  · split at h
    · rename_i c; injection h with h; subst h; simp only []; omega
    · cases h
  · cases h
theorem dolI_bd {s : ByteArray} {i : Nat} {r : InL × Nat} (hi : i < s.size) (h : dolI s i = some r) : i < r.2 ∧ r.2 ≤ s.size := by
  unfold dolI at h
  have := toE_bd s (i + 1) (fun b => b == 36 || b == 10) hi
  split at h
  · rename_i c; injection h with h; subst h
    unfold dolE at *
    simp only []; omega
  · cases h
theorem laterF_spec (s : ByteArray) (n : Nat) (d : Bool) : ∀ f i k, laterF s n d f i = some k → i ≤ k ∧ k < s.size ∧ bt s k = 96 ∧ runF s k tick = n ∧ (d = true → k + n < s.size ∧ bt s (k + n) = 36)
  | 0, _, _, h => by cases h
  | f + 1, i, k, h => by
    unfold laterF at h
    split at h
    · rename_i h1
      split at h
      · rename_i h2
        split at h
        · rename_i h3
          injection h with h; subst h
          exact ⟨Nat.le_refl _, h1, h2, h3.1, h3.2⟩
        · have := laterF_spec s n d f _ k h
          exact ⟨by omega, this.2⟩
      · have := laterF_spec s n d f _ k h
        exact ⟨by omega, this.2⟩
    · cases h
theorem laterA_spec {s : ByteArray} {i n : Nat} {d : Bool} {k : Nat} (h : laterA s i n d = some k) : i ≤ k ∧ k < s.size ∧ bt s k = 96 ∧ runF s k tick = n ∧ (d = true → k + n < s.size ∧ bt s (k + n) = 36) := laterF_spec s n d _ _ _ h
theorem codeI_bd {s : ByteArray} {i : Nat} {r : InL × Nat} (hi : i < s.size) (hb : bt s i = 96) (h : codeI s i = some r) : i < r.2 ∧ r.2 ≤ s.size := by
  unfold codeI at h
  rw [Option.map_eq_some_iff] at h
  obtain ⟨k, hk, rfl⟩ := h
  have hs := laterA_spec hk
  have h1 := runF_le s k tick
  have h2 := runF_yes s i tick hi (by unfold tick; rw [hb]; rfl)
  simp only []; omega
theorem mathI_bd {s : ByteArray} {i : Nat} {r : InL × Nat} (h : mathI s i = some r) : i < r.2 ∧ r.2 ≤ s.size := by
  unfold mathI at h
  split at h
  · rw [Option.map_eq_some_iff] at h
    obtain ⟨k, hk, rfl⟩ := h
    have hs := laterA_spec hk
    have := hs.2.2.2.2 rfl
    simp only []; omega
  · cases h
theorem autK_bd (s : ByteArray) (i : Nat) (hi : i < s.size) : i < autK s i ∧ autK s i ≤ s.size := by
  unfold autK
  have := runF_le s (i + 1) letterN
  omega
theorem autI_bd {s : ByteArray} {i : Nat} {r : InL × Nat} (hi : i < s.size) (h : autI s i = some r) : i < r.2 ∧ r.2 ≤ s.size := by
  unfold autI at h
  have h1 := autK_bd s i hi
  have h2 := toE_bd s (autK s i) (fun b => b == 32 || b == 10 || b == 60 || b == 62) h1.2
  split at h
  · rename_i c; injection h with h; subst h
    unfold autE at *
    simp only []; omega
  · cases h
theorem argE_bd (s : ByteArray) (k : Nat) (h : k < s.size) : k < argE s k ∧ argE s k ≤ s.size := toE_bd s (k + 1) _ h
theorem argsF_bd (s : ByteArray) : ∀ f k, k ≤ s.size → k ≤ (argsF s f k).2 ∧ (argsF s f k).2 ≤ s.size ∧ (argsF s f k).1.length ≤ f
  | 0, k, h => ⟨Nat.le_refl _, h, Nat.le_refl _⟩
  | f + 1, k, h => by
    unfold argsF
    split
    · rename_i c
      have h1 := argE_bd s k c.1
      have h2 := argsF_bd s f (argE s k) h1.2
      simp only [List.length_cons]; omega
    · exact ⟨Nat.le_refl _, h, Nat.zero_le _⟩
theorem useI_bd {s : ByteArray} {i : Nat} {r : InL × Nat} (h : useI s i = some r) : i < r.2 ∧ r.2 ≤ s.size := by
  unfold useI at h
  split at h
  · rw [Option.bind_eq_some_iff] at h
    obtain ⟨k, hk, h⟩ := h
    have h1 := nmEnd_bd hk
    have h2 := argsF_bd s 8 k h1.2.2
    split at h
    · rename_i c
      have := begB_bd c (by decide)
      injection h with h; subst h
      simp only [List.length_cons, List.length_nil] at this ⊢; omega
    · cases h
  · cases h
theorem namI_bd {s : ByteArray} {i : Nat} {r : InL × Nat} (h : namI s i = some r) : i < r.2 ∧ r.2 ≤ s.size := by
  unfold namI at h
  split at h
  · rw [Option.bind_eq_some_iff] at h
    obtain ⟨k, hk, h⟩ := h
    have h1 := nmEnd_bd hk
    split at h
    · rename_i c
      have := begB_bd c (by decide)
      injection h with h; subst h
      simp only [List.length_cons, List.length_nil] at this ⊢; omega
    · split at h
      · rename_i c
        have := begB_bd c.2 (by decide)
        injection h with h; subst h
        simp only [List.length_cons, List.length_nil] at this ⊢; omega
      · cases h
  · cases h
theorem citI_bd {s : ByteArray} {i : Nat} {r : InL × Nat} (hi : i < s.size) (h : citI s i = some r) : i < r.2 ∧ r.2 ≤ s.size := by
  unfold citI at h
  have := toE_bd s (i + 1) (fun b => b == 91 || b == 93) hi
  split at h
  · rename_i c
    rw [Option.map_eq_some_iff] at h
    obtain ⟨k, hk, rfl⟩ := h
    unfold citE at *
    simp only []; omega
  · cases h
theorem pcI_bd {s : ByteArray} {i : Nat} {o : Option (InL × Nat)} {p : PcL} (h : o.map (pcI · i) = some p) (ho : ∀ r, o = some r → i < r.2 ∧ r.2 ≤ s.size) : p.bg = i ∧ i < p.nd ∧ p.nd ≤ s.size := by
  rw [Option.map_eq_some_iff] at h
  obtain ⟨r, hr, rfl⟩ := h
  exact ⟨rfl, ho r hr⟩
theorem or_bd {α : Type} {o q : Option α} {r : α} {P : α → Prop} (h : o.or q = some r) (h1 : ∀ r, o = some r → P r) (h2 : ∀ r, q = some r → P r) : P r := by
  cases o with
  | none => exact h2 r h
  | some x => exact h1 r h
theorem spec_bd {s : ByteArray} {i : Nat} {p : PcL} (hi : i < s.size) (h : spec s i = some p) : p.bg = i ∧ i < p.nd ∧ p.nd ≤ s.size := by
  unfold spec at h
  by_cases c : bt s i = 92
  · rw [if_pos c] at h; exact pcI_bd h fun r => escI_bd
  rw [if_neg c] at h; clear c
  by_cases c : bt s i = 32 ∨ bt s i = 10
  · rw [if_pos c] at h
    by_cases c : spAt s i < s.size ∧ bt s (spAt s i) = 10
    · rw [if_pos c] at h
      injection h with h; subst h
      have h1 := spAt_bd' s i
      have h2 := spAt_bd' s (spAt s i + 1)
      exact ⟨rfl, by show i < spAt s (spAt s i + 1); omega, h2.2 c.1⟩
    · rw [if_neg c] at h; cases h
  rw [if_neg c] at h; clear c
  by_cases c : bt s i = 38
  · rw [if_pos c] at h; exact pcI_bd h fun r => entI_bd
  rw [if_neg c] at h; clear c
  by_cases c : bt s i = 36
  · rw [if_pos c] at h; exact pcI_bd h fun r hr => or_bd hr (P := fun r => i < r.2 ∧ r.2 ≤ s.size) (fun r => mathI_bd) fun r => dolI_bd hi
  rw [if_neg c] at h; clear c
  by_cases c : bt s i = 96
  · rw [if_pos c] at h; exact pcI_bd h fun r => codeI_bd hi c
  rw [if_neg c] at h; clear c
  by_cases c : bt s i = 60
  · rw [if_pos c] at h; exact pcI_bd h fun r => autI_bd hi
  rw [if_neg c] at h; clear c
  by_cases c : bt s i = 123
  · rw [if_pos c] at h; exact pcI_bd h fun r => useI_bd
  rw [if_neg c] at h; clear c
  by_cases c : bt s i = 91
  · rw [if_pos c] at h
    injection h with h; subst h
    cases hx : (namI s i).or (citI s i) with
    | none => exact ⟨rfl, Nat.lt_succ_self i, hi⟩
    | some r =>
      have := or_bd hx (P := fun r => i < r.2 ∧ r.2 ≤ s.size) (fun r => namI_bd) fun r => citI_bd hi
      exact ⟨rfl, this⟩
  rw [if_neg c] at h; clear c
  by_cases c : bt s i = 33
  · rw [if_pos c] at h
    by_cases c : i + 1 < s.size ∧ bt s (i + 1) = 91
    · rw [if_pos c] at h; injection h with h; subst h; exact ⟨rfl, by show i < i + 2; omega, c.1⟩
    · rw [if_neg c] at h; cases h
  rw [if_neg c] at h; clear c
  by_cases c : bt s i = 93
  · rw [if_pos c] at h; injection h with h; subst h; exact ⟨rfl, Nat.lt_succ_self i, hi⟩
  rw [if_neg c] at h; clear c
  by_cases c : bt s i = 42 ∨ bt s i = 95 ∨ bt s i = 126 ∧ runE s i - i = 2
  · rw [if_pos c] at h; injection h with h; subst h; exact ⟨rfl, runE_bd s i hi⟩
  · rw [if_neg c] at h; cases h
theorem litE_bd (s : ByteArray) (i : Nat) (hi : i < s.size) : i < litE s i ∧ litE s i ≤ s.size := by
  unfold litE
  split
  · exact runE_bd s i hi
  · have := dec_bd s i hi; omega
theorem pieceA_bd (s : ByteArray) (i : Nat) (hi : i < s.size) : (pieceA s i).1.bg = i ∧ i < (pieceA s i).1.nd ∧ (pieceA s i).1.nd ≤ s.size := by
  unfold pieceA
  cases h : spec s i with
  | none => exact ⟨rfl, litE_bd s i hi⟩
  | some p => exact spec_bd hi h
/-- Pieces that follow one another from a to b. -/
def covP : List PcL → Nat → Nat → Prop
  | [], a, b => a = b
  | p :: l, a, b => p.bg = a ∧ a < p.nd ∧ covP l p.nd b
theorem covP_snoc (p : PcL) : ∀ (l : List PcL) (a b : Nat), covP l a b → p.bg = b → b < p.nd → covP (l ++ [p]) a p.nd
  | [], a, b, h, h1, h2 => by
    have h : a = b := h
    subst h; exact ⟨h1, h2, rfl⟩
  | q :: l, a, b, h, h1, h2 => ⟨h.1, h.2.1, covP_snoc p l q.nd b h.2.2 h1 h2⟩
theorem covP_last (s : ByteArray) (p : PcL) (e : Nat) : ∀ (l : List PcL) (a b : Nat), covP (l ++ [p]) a b → b ≤ e → covP (l ++ [{ p with nd := e, inl := { p.inl with text := s.extract p.bg e } }]) a e
  | [], a, b, h, he => by
    have h : p.bg = a ∧ a < p.nd ∧ p.nd = b := h
    exact ⟨h.1, by show a < e; omega, rfl⟩
  | q :: l, a, b, h, he => ⟨h.1, h.2.1, covP_last s p e l q.nd b h.2.2 he⟩
theorem joinP_snoc (s : ByteArray) (l : List PcL) (p : PcL) (e : Nat) : joinP s (l ++ [p]) e = l ++ [{ p with nd := e, inl := { p.inl with text := s.extract p.bg e } }] := by
  unfold joinP
  simp
theorem snoc_of (l : List PcL) (h : l ≠ []) : ∃ (k : List PcL) (p : PcL), l = k ++ [p] := ⟨l.dropLast, l.getLast h, (List.dropLast_concat_getLast h).symm⟩
theorem scanF_cov (s : ByteArray) : ∀ (f i : Nat) (j : Bool) (acc : List PcL), covP acc 0 i → i ≤ s.size → (j = true → acc ≠ []) → s.size - i ≤ f → covP (scanF s f i j acc) 0 s.size
  | 0, i, j, acc, h, hi, _, hf => by
    obtain rfl : i = s.size := by omega
    exact h
  | f + 1, i, j, acc, h, hi, hj, hf => by
    unfold scanF
    by_cases hl : i < s.size
    · rw [if_pos hl]
      have hb := pieceA_bd s i hl
      refine scanF_cov s f _ _ _ ?_ hb.2.2 (fun _ => ?_) (by omega)
      · split
        · rename_i c
          rw [Bool.and_eq_true] at c
          obtain ⟨k, p, rfl⟩ := snoc_of acc (hj c.2)
          rw [joinP_snoc]
          exact covP_last s p _ k 0 i h (by omega)
        · exact covP_snoc _ _ _ _ h hb.1 hb.2.1
      · split
        · rename_i c
          rw [Bool.and_eq_true] at c
          obtain ⟨k, p, rfl⟩ := snoc_of acc (hj c.2)
          rw [joinP_snoc]
          simp
        · simp
    · rw [if_neg hl]
      obtain rfl : i = s.size := by omega
      exact h
theorem scanP_cov (s : ByteArray) : covP (scanP s) 0 s.size := scanF_cov s s.size 0 false [] rfl (Nat.zero_le _) (fun h => by cases h) (by omega)
end Go.Pub
namespace Go.Pub
/-- The runs of backticks from i on: where, how long. -/
def runsF (s : ByteArray) : Nat → Nat → List (Nat × Nat)
  | 0, _ => []
  | f + 1, i => if i < s.size then (if bt s i = 96 then (i, runF s i tick) :: runsF s f (i + runF s i tick) else runsF s f (i + 1)) else []
def runsL (s : ByteArray) : List (Nat × Nat) := runsF s s.size 0
/-- A dollar sign stands at k. -/
def dolAt (s : ByteArray) (k : Nat) : Bool := decide (k < s.size) && bt s k == 36
/-- The runs that count: with a dollar sign behind them if d. -/
def runsD (s : ByteArray) (d : Bool) (l : List (Nat × Nat)) : List (Nat × Nat) := l.filter fun p => !d || dolAt s (p.1 + p.2)
/-- Where the runs of n are. -/
def posL (n : Nat) (l : List (Nat × Nat)) : List Nat := (l.filter fun p => p.2 == n).map (·.1)
theorem tick_at {s : ByteArray} {i : Nat} (h : bt s i = 96) : tick (bt s i) = true := by rw [h]; rfl
theorem tick_pos {s : ByteArray} {i : Nat} (hi : i < s.size) (h : bt s i = 96) : 0 < runF s i tick := by
  rw [runF_yes s i tick hi (tick_at h)]; omega
theorem later_head (s : ByteArray) (n : Nat) (d : Bool) : ∀ f i, laterF s n d f i = (posL n (runsD s d (runsF s f i))).head?
  | 0, _ => rfl
  | f + 1, i => by
    unfold laterF runsF
    by_cases h1 : i < s.size
    · rw [if_pos h1, if_pos h1]
      by_cases h2 : bt s i = 96
      · rw [if_pos h2, if_pos h2]
        by_cases h3 : runF s i tick = n ∧ (d = true → i + n < s.size ∧ bt s (i + n) = 36)
        · rw [if_pos h3]
          obtain ⟨h4, h5⟩ := h3
          have h6 : (!d || dolAt s (i + runF s i tick)) = true := by
            cases d
            · rfl
            · have := h5 rfl
              unfold dolAt
              rw [h4, decide_eq_true this.1, this.2]; rfl
          unfold runsD posL
          rw [List.filter_cons, if_pos h6, List.filter_cons, if_pos (by simpa using h4)]
          rfl
        · rw [if_neg h3, later_head s n d f]
          unfold runsD posL
          rw [List.filter_cons]
          split
          · rename_i h6
            rw [List.filter_cons, if_neg]
            simp only [beq_iff_eq]
            intro h4
            refine h3 ⟨h4, fun hd => ?_⟩
            subst hd
            unfold dolAt at h6
            simp only [Bool.not_true, Bool.false_or, Bool.and_eq_true, decide_eq_true_eq, beq_iff_eq] at h6
            rw [← h4]; exact h6
          · rfl
      · rw [if_neg h2, if_neg h2, later_head s n d f]
    · rw [if_neg h1, if_neg h1]; rfl
theorem runsF_ge (s : ByteArray) : ∀ f i, ∀ p ∈ runsF s f i, i ≤ p.1
  | 0, _, p, h => by cases h
  | f + 1, i, p, h => by
    unfold runsF at h
    split at h
    · split at h
      · rw [List.mem_cons] at h
        rcases h with rfl | h
        · exact Nat.le_refl _
        · have := runsF_ge s f _ p h; omega
      · have := runsF_ge s f _ p h; omega
    · cases h
theorem runsF_asc (s : ByteArray) : ∀ f i, (runsF s f i).Pairwise fun p q => p.1 < q.1
  | 0, _ => List.Pairwise.nil
  | f + 1, i => by
    unfold runsF
    split
    · rename_i hi
      split
      · rename_i hb
        refine List.Pairwise.cons (fun q hq => ?_) (runsF_asc s f _)
        have := runsF_ge s f _ q hq
        have := tick_pos hi hb
        show i < q.1
        omega
      · exact runsF_asc s f _
    · exact List.Pairwise.nil
theorem runsF_len (s : ByteArray) : ∀ f i, (runsF s f i).length ≤ s.size - i
  | 0, _ => Nat.zero_le _
  | f + 1, i => by
    unfold runsF
    split
    · rename_i hi
      split
      · rename_i hb
        have := runsF_len s f (i + runF s i tick)
        have := tick_pos hi hb
        rw [List.length_cons]; omega
      · have := runsF_len s f (i + 1); omega
    · exact Nat.zero_le _
theorem runsF_fuel (s : ByteArray) : ∀ f g i, s.size - i ≤ f → s.size - i ≤ g → runsF s f i = runsF s g i
  | 0, 0, _, _, _ => rfl
  | 0, g + 1, i, h, _ => by unfold runsF; rw [if_neg (by omega)]
  | f + 1, 0, i, _, h => by unfold runsF; rw [if_neg (by omega)]
  | f + 1, g + 1, i, h1, h2 => by
    unfold runsF
    by_cases hi : i < s.size
    · rw [if_pos hi, if_pos hi]
      by_cases hb : bt s i = 96
      · have := tick_pos hi hb
        rw [if_pos hb, if_pos hb, runsF_fuel s f g _ (by omega) (by omega)]
      · rw [if_neg hb, if_neg hb, runsF_fuel s f g _ (by omega) (by omega)]
    · rw [if_neg hi, if_neg hi]
/-- No run of backticks reaches over i. -/
def bnd (s : ByteArray) (i : Nat) : Prop := s.size ≤ i ∨ bt s i ≠ 96 ∨ i = 0 ∨ bt s (i - 1) ≠ 96
theorem bnd_runE {s : ByteArray} {i : Nat} (h : bt s i = 96) : bnd s (runE s i) := by
  have k := (runF_all s (fun b => b == bt s i) s.size i (by omega)).2
  unfold bnd
  by_cases hl : runE s i < s.size
  · refine .inr (.inl fun e => ?_)
    have := k hl
    unfold runE at e
    rw [e, h] at this
    cases this
  · exact .inl (by omega)
theorem runE_tick {s : ByteArray} {i : Nat} (h : bt s i = 96) : runE s i = i + runF s i tick := by
  unfold runE
  congr 1
  rw [h]; rfl
theorem runs_from (s : ByteArray) (i : Nat) (hb : bnd s i) : ∀ f j, j ≤ i → s.size - j ≤ f → (runsF s f j).filter (fun p => decide (i ≤ p.1)) = runsF s (s.size - i) i
  | 0, j, hj, hf => by
    rw [runsF_fuel s (s.size - i) 0 i (Nat.le_refl _) (by omega)]; rfl
  | f + 1, j, hj, hf => by
    by_cases he : j = i
    · subst he
      rw [runsF_fuel s (s.size - j) (f + 1) j (Nat.le_refl _) hf]
      exact List.filter_eq_self.2 fun p hp => decide_eq_true (runsF_ge s _ _ p hp)
    · rw [show runsF s (f + 1) j = if j < s.size then (if bt s j = 96 then (j, runF s j tick) :: runsF s f (j + runF s j tick) else runsF s f (j + 1)) else [] from rfl]
      by_cases hl : j < s.size
      · rw [if_pos hl]
        by_cases ht : bt s j = 96
        · rw [if_pos ht, List.filter_cons, if_neg (by simp; omega)]
          refine runs_from s i hb f (j + runF s j tick) ?_ (by have := tick_pos hl ht; omega)
          rcases Nat.lt_or_ge i (j + runF s j tick) with h1 | h1
          · exfalso
            have k := (runF_all s tick s.size j (by omega)).1
            have hle := runF_le s j tick
            have a1 := k i (by omega) h1
            have a2 := k (i - 1) (by omega) (by omega)
            unfold tick at a1 a2
            rw [beq_iff_eq] at a1 a2
            unfold bnd at hb
            rcases hb with h2 | h2 | h2 | h2
            · omega
            · exact h2 a1
            · omega
            · exact h2 a2
          · exact h1
        · rw [if_neg ht]
          exact runs_from s i hb f (j + 1) (by omega) (by omega)
      · rw [if_neg hl, runsF_fuel s (s.size - i) 0 i (Nat.le_refl _) (by omega)]; rfl
theorem asc_drop (x : Nat) : ∀ l : List Nat, l.Pairwise (· < ·) → l.drop (l.countP fun y => !decide (x ≤ y)) = l.filter fun y => decide (x ≤ y)
  | [], _ => rfl
  | y :: l, h => by
    rw [List.pairwise_cons] at h
    rw [List.countP_cons, List.filter_cons]
    by_cases hx : x ≤ y
    · have h0 : l.countP (fun y => !decide (x ≤ y)) = 0 := by
        rw [List.countP_eq_zero]
        intro z hz
        have := h.1 z hz
        simp; omega
      rw [h0, decide_eq_true hx]
      simp only [Bool.not_true, Bool.false_eq_true, if_false, Nat.zero_add, List.drop_zero, if_true]
      rw [List.filter_eq_self.2]
      intro z hz
      have := h.1 z hz
      simp; omega
    · rw [decide_eq_false hx]
      simp only [Bool.not_false, if_true, Bool.false_eq_true, if_false, List.drop_succ_cons]
      exact asc_drop x l h.2
theorem posL_asc (s : ByteArray) (n : Nat) (d : Bool) : (posL n (runsD s d (runsL s))).Pairwise (· < ·) := by
  unfold posL runsD
  rw [List.pairwise_map]
  exact ((runsF_asc s _ _).filter _).filter _
/-- The first run of n from a boundary on, out of the places of all. -/
theorem later_pos (s : ByteArray) (n : Nat) (d : Bool) (i : Nat) (hb : bnd s i) : laterA s i n d = (posL n (runsD s d (runsL s)))[(posL n (runsD s d (runsL s))).countP fun y => !decide (i ≤ y)]? := by
  have h1 := asc_drop i _ (posL_asc s n d)
  have h2 : ∀ (l : List Nat) (k : Nat), l[k]? = (l.drop k).head? := fun l k => by rw [List.head?_drop]
  rw [h2, h1]
  unfold laterA
  rw [later_head]
  have h3 := runs_from s i hb s.size 0 (Nat.zero_le _) (by omega)
  rw [← h3]
  congr 1
  unfold posL runsD runsL
  rw [List.filter_map, List.filter_filter, List.filter_filter, List.filter_filter, List.filter_filter]
  congr 1
  refine List.filter_congr fun p hp => ?_
  show _ = _
  simp only [Function.comp]
  cases (p.2 == n) <;> cases (!d || dolAt s (p.1 + p.2)) <;> cases (decide (i ≤ p.1)) <;> rfl
end Go.Pub
namespace Go.Pub
theorem toE_eq (s : ByteArray) (i : Nat) (p : Nat → Bool) (e : Nat) (hie : i ≤ e) (he : e ≤ s.size) (h1 : ∀ j, i ≤ j → j < e → p (bt s j) = false) (h2 : e < s.size → p (bt s e) = true) : toE s i p = e := by
  unfold toE
  rw [runF_eq s (fun b => !p b) i (e - i) (by omega) (fun j a b => by simp [h1 j a (by omega)]) (fun h => by rw [show i + (e - i) = e by omega] at h ⊢; simp [h2 h])]
  omega
theorem toE_ge (s : ByteArray) (i : Nat) (p : Nat → Bool) : i ≤ toE s i p := by unfold toE; omega
theorem toE_le (s : ByteArray) (i : Nat) (p : Nat → Bool) (h : i ≤ s.size) : toE s i p ≤ s.size := by
  have := runF_le s i fun b => !p b
  unfold toE; omega
theorem toE_stop (s : ByteArray) (i : Nat) (p : Nat → Bool) (h : toE s i p < s.size) : p (bt s (toE s i p)) = true := by
  have := (runF_all s (fun b => !p b) s.size i (by omega)).2 (by unfold toE at h; exact h)
  unfold toE; simpa using this
theorem toE_in (s : ByteArray) (i : Nat) (p : Nat → Bool) (j : Nat) (h1 : i ≤ j) (h2 : j < toE s i p) : p (bt s j) = false := by
  have := (runF_all s (fun b => !p b) s.size i (by omega)).1 j h1 (by unfold toE at h2; exact h2)
  simpa using this
theorem autK_eq (s : ByteArray) (i e : Nat) (hie : i + 1 ≤ e) (he : e ≤ s.size) (h1 : ∀ j, i + 1 ≤ j → j < e → letterN (bt s j) = true) (h2 : e < s.size → letterN (bt s e) = false) : autK s i = e := by
  unfold autK
  rw [runF_eq s letterN (i + 1) (e - (i + 1)) (by omega) (fun j a b => h1 j a (by omega)) (fun h => by rw [show i + 1 + (e - (i + 1)) = e by omega] at h ⊢; exact h2 h)]
  omega
theorem cntW_fn (p q : Nat → Bool) : ∀ l : List UInt8, (∀ b ∈ l, p b.toNat = q b.toNat) → cntW p l = cntW q l
  | [], _ => rfl
  | b :: l, h => by
    unfold cntW
    rw [h b List.mem_cons_self, cntW_fn p q l fun x hx => h x (List.mem_cons_of_mem _ hx)]
end Go.Pub
namespace Go.Pub
theorem sub_snocA (s : ByteArray) (a b : Nat) (hab : a ≤ b) (hb : b < s.size) : sub s a (b + 1) = sub s a b ++ [s.get! b] := by
  unfold sub
  have hg : ((bytesL s).drop a)[b - a]? = some (s.get! b) := by
    rw [List.getElem?_drop, show a + (b - a) = b by omega]
    unfold bytesL
    rw [show s.get! b = s.data[b]'hb from getElem!_pos s.data b hb, Array.getElem?_toList]
    exact Array.getElem?_eq_getElem hb
  rw [show b + 1 - a = (b - a) + 1 by omega, List.take_add_one, hg]; rfl
theorem numV_snoc (l : List UInt8) (b : UInt8) : numV (l ++ [b]) = 10 * numV l + (b.toNat - 48) := by
  unfold numV; rw [List.foldl_append]; rfl
theorem numV_step (s : ByteArray) (a b : Nat) (hab : a ≤ b) (hb : b < s.size) : numV (sub s a (b + 1)) = 10 * numV (sub s a b) + (bt s b - 48) := by
  rw [sub_snocA s a b hab hb, numV_snoc]; rfl
theorem digK_eq (s : ByteArray) (i k : Nat) (h2 : 2 ≤ k) (h9 : k ≤ 9) (hle : i + k ≤ s.size) (hd : ∀ j, i + 2 ≤ j → j < i + k → dgN (bt s j) = true) (he : i + k < s.size → k < 9 → dgN (bt s (i + k)) = false) : digK s i = k - 2 := by
  unfold digK
  have hall := runF_all s dgN s.size (i + 2) (by omega)
  by_cases h : k = 9
  · subst h
    have : 7 ≤ runF s (i + 2) dgN := by
      rcases Nat.lt_or_ge (runF s (i + 2) dgN) 7 with h | h
      · exfalso
        have h1 := hall.2 (by omega)
        have h2 := hd (i + 2 + runF s (i + 2) dgN) (by omega) (by omega)
        rw [h1] at h2; cases h2
      · exact h
    omega
  · rw [runF_eq s dgN (i + 2) (k - 2) (by omega) (fun j a b => hd j a (by omega)) (fun hh => by rw [show i + 2 + (k - 2) = i + k by omega] at hh ⊢; exact he hh (by omega))]
    omega
theorem argsF_stop (s : ByteArray) (f k : Nat) (h : ¬ (k < s.size ∧ bt s k = 124)) : argsF s f k = ([], k) := by
  cases f with
  | zero => rfl
  | succ f => unfold argsF; rw [if_neg h]
theorem args_step (s : ByteArray) (A : List ByteArray × Nat) (xs : List ByteArray) (k e : Nat) (hx : xs.length < 8) (hk : k < s.size) (hb : bt s k = 124) (he : argE s k = e)
    (hA : A = (xs ++ (argsF s (8 - xs.length) k).1, (argsF s (8 - xs.length) k).2)) :
    A = ((xs ++ [s.extract (k + 1) e]) ++ (argsF s (8 - (xs ++ [s.extract (k + 1) e]).length) e).1, (argsF s (8 - (xs ++ [s.extract (k + 1) e]).length) e).2) := by
  rw [hA, show 8 - xs.length = (7 - xs.length) + 1 by omega, show 8 - (xs ++ [s.extract (k + 1) e]).length = 7 - xs.length by rw [List.length_append, List.length_singleton]; omega]
  conv => lhs; unfold argsF
  rw [if_pos ⟨hk, hb⟩, he]
  simp
theorem args_stop (s : ByteArray) (A : List ByteArray × Nat) (xs : List ByteArray) (f k : Nat) (h : ¬ (k < s.size ∧ bt s k = 124)) (hA : A = (xs ++ (argsF s f k).1, (argsF s f k).2)) : A = (xs, k) := by
  rw [hA, argsF_stop s f k h]; simp
theorem args_full (s : ByteArray) (A : List ByteArray × Nat) (xs : List ByteArray) (k : Nat) (h : xs.length = 8) (hA : A = (xs ++ (argsF s (8 - xs.length) k).1, (argsF s (8 - xs.length) k).2)) : A = (xs, k) := by
  rw [hA, h]; simp [argsF]
theorem argE_eq (s : ByteArray) (k e : Nat) (hke : k + 1 ≤ e) (he : e ≤ s.size) (h1 : ∀ j, k + 1 ≤ j → j < e → bt s j ≠ 124 ∧ bt s j ≠ 123 ∧ bt s j ≠ 125 ∧ bt s j ≠ 10) (h2 : e < s.size → bt s e = 124 ∨ bt s e = 123 ∨ bt s e = 125 ∨ bt s e = 10) : argE s k = e := by
  unfold argE
  apply toE_eq s (k + 1) _ e hke he
  · intro j a b
    obtain ⟨x1, x2, x3, x4⟩ := h1 j a b
    simp [x1, x2, x3, x4]
  · intro h
    rcases h2 h with x | x | x | x <;> simp [x]
end Go.Pub
namespace Go.Pub
theorem byte_cnt (c : UInt8) : ∀ l : List UInt8, Lib.indexByte l c = if cntW (fun b => !(b == c.toNat)) l < l.length then (cntW (fun b => !(b == c.toNat)) l : Int) else -1
  | [] => rfl
  | b :: l => by
    have hl := cntW_le (fun b => !(b == c.toNat)) l
    unfold Lib.indexByte cntW
    rw [byte_cnt c l]
    by_cases hc : b = c
    · subst hc; simp
    · have h2 : (b.toNat == c.toNat) = false := beq_eq_false_iff_ne.2 fun e => hc (UInt8.toNat_inj.1 e)
      have h3 : (b == c) = false := beq_eq_false_iff_ne.2 hc
      rw [h2, h3]
      simp only [Bool.not_false, if_true, Bool.false_eq_true, if_false, List.length_cons]
      by_cases h : cntW (fun b => !(b == c.toNat)) l < l.length
      · rw [if_pos h, if_neg (by simp), if_pos (by omega)]; omega
      · rw [if_neg h, if_neg (show ¬ (cntW (fun b => !(b == c.toNat)) l + 1 < l.length + 1) by omega)]; rfl
theorem suffix_bytes (s : ByteArray) (i : Nat) : bytesL (s.extract i s.size) = sfx s i := by
  rw [bytesL_sub]; unfold sub sfx; exact List.take_of_length_le (by rw [List.length_drop, bytesL_length]; omega)
/-- The first byte of a kind, from a suffix. -/
theorem toE_byte (s : ByteArray) (i : Nat) (c : UInt8) (hi : i ≤ s.size) :
    Lib.indexByte (bytesL (s.extract i s.size)) c = if toE s i (fun b => b == c.toNat) < s.size then ((toE s i (fun b => b == c.toNat) - i : Nat) : Int) else -1 := by
  rw [byte_cnt, suffix_bytes, sfx_len]
  have := runF_le s i fun b => !(b == c.toNat)
  have hT : toE s i (fun b => b == c.toNat) = i + cntW (fun b => !(b == c.toNat)) (sfx s i) := rfl
  rw [hT]
  have this' : cntW (fun b => !(b == c.toNat)) (sfx s i) ≤ s.size - i := this
  generalize cntW (fun b => !(b == c.toNat)) (sfx s i) = n at *
  by_cases h : i + n < s.size
  · rw [if_pos h, if_pos (by omega)]; congr 1; omega
  · rw [if_neg h, if_neg (by omega)]
theorem begB_bytes (s : ByteArray) (i : Nat) (t : List UInt8) : begB s i t = t.isPrefixOf (bytesL (s.extract i s.size)) := by rw [suffix_bytes]; rfl
theorem occ_lf (c : UInt8) (l : List UInt8) : Lib.occAt (c :: l) [10] 0 = true ↔ c = 10 := by
  show ((10 : UInt8) == c && true) = true ↔ c = 10
  simp only [Bool.and_true, beq_iff_eq]
  exact ⟨Eq.symm, Eq.symm⟩
theorem unLF_cons (c : UInt8) (l : List UInt8) : unLF (c :: l) = (if c = 10 then 32 else c) :: unLF l := rfl
theorem lf_none : ∀ l : List UInt8, (∀ j, j ≤ l.length → Lib.occAt l [10] j = false) → unLF l = l
  | [], _ => rfl
  | c :: l, h => by
    rw [unLF_cons, if_neg (fun e => by have := h 0 (by simp); rw [(occ_lf c l).2 e] at this; exact absurd this (by simp)), lf_none l (fun j hj => by rw [← occ_succ c]; exact h (j + 1) (by simp; omega))]
theorem lf_first : ∀ (i : Nat) (l : List UInt8), Lib.occAt l [10] i = true → Lib.NoOcc l [10] i → unLF l = l.take i ++ [32] ++ unLF (l.drop (i + 1))
  | 0, l, h, _ => by
    match l with
    | [] => simp [Lib.occAt] at h
    | c :: l =>
      rw [occ_lf] at h
      rw [unLF_cons, if_pos h]; rfl
  | i + 1, l, h, hn => by
    match l with
    | [] => simp [Lib.occAt] at h
    | c :: l =>
      rw [occ_succ] at h
      have h0 := hn 0 (by omega)
      rw [unLF_cons, if_neg (fun e => by rw [(occ_lf c l).2 e] at h0; exact absurd h0 (by simp)), lf_first i l h (fun j hj => by rw [← occ_succ c]; exact hn (j + 1) (by omega))]
      rfl
theorem repl_lf : ∀ (n : Nat) (l : List UInt8), l.length ≤ n → Lib.replaceK [10] [32] (Lib.count l [10]) l = unLF l
  | n, l, hl => by
    rcases Lib.index_spec l [10] with ⟨h1, h2⟩ | ⟨i, h1, h2, h3, h4⟩
    · rw [Lib.count_miss h1, lf_none l h2]; rfl
    · have hr := Lib.index_room l [10] (by rw [h1]; omega)
      rw [h1] at hr
      have hr2 : i + 1 ≤ l.length := by simp at hr; omega
      rw [Lib.count_hit (by decide) h1, Nat.add_comm, Lib.replaceK_hit _ _ _ _ i h1, lf_first i l h3 h4]
      match n with
      | 0 => omega
      | n + 1 => rw [repl_lf n (l.drop (i + ([10] : List UInt8).length)) (by rw [List.length_drop]; simp; omega)]; rfl
theorem countLF_le (l : List UInt8) : Lib.count l [10] ≤ l.length := by
  have h := Lib.countB_mul_le (mk [10]) (by decide) (mk l).size (mk l) (Nat.le_refl _)
  unfold Lib.countB at h
  have e1 : (mk l).data.toList = l := bytesL_mk' l
  have e2 : (mk [10]).data.toList = [10] := bytesL_mk' _
  rw [e1, e2, mk_size, mk_size] at h
  rw [show ([10] : List UInt8).length = 1 from rfl] at h
  omega
theorem replAll_lf (l : List UInt8) : Lib.replaceAll l [10] [32] = unLF l := by
  unfold Lib.replaceAll Lib.replace Lib.replaceNum
  rw [if_neg (by decide), if_pos (by omega)]
  exact repl_lf _ _ (Nat.le_refl _)
theorem pre_sp (l : List UInt8) : Lib.hasPrefix l [32] = true ↔ l.head? = some 32 := by
  cases l with
  | nil => simp [Lib.hasPrefix]
  | cons a l => simp [Lib.hasPrefix, List.isPrefixOf]; exact ⟨Eq.symm, Eq.symm⟩
theorem suf_sp (l : List UInt8) : Lib.hasSuffix l [32] = true ↔ l.getLast? = some 32 := by
  unfold Lib.hasSuffix List.isSuffixOf
  rw [← List.head?_reverse]
  exact pre_sp l.reverse
theorem dropW_nil (l : List UInt8) : l.dropWhile (· == 32) = [] ↔ l.any (· != 32) = false := by
  induction l with
  | nil => simp
  | cons a l ih =>
    by_cases h : a = 32
    · subst h; simpa using ih
    · simp [h]
theorem trim_nil (l : List UInt8) : Lib.trimB l 32 = [] ↔ l.any (· != 32) = false := by
  unfold Lib.trimB Lib.trimLeftB Lib.trimRightB
  rw [dropW_nil]
  constructor
  · intro h
    cases h1 : l.any (· != 32) with
    | false => rfl
    | true =>
      exfalso
      have h2 : l.reverse.any (· != 32) = true := by rw [List.any_reverse]; exact h1
      have h3 : l.reverse.dropWhile (· == 32) ≠ [] := fun e => by rw [(dropW_nil _).1 e] at h2; cases h2
      have h4 : (l.reverse.dropWhile (· == 32)).any (· != 32) = false := by rw [← List.any_reverse]; exact h
      have ha := List.head_dropWhile_not (fun x : UInt8 => x == 32) (l := l.reverse) h3
      have hm := List.any_eq_false.1 h4 _ (List.head_mem h3)
      simp only [beq_eq_false_iff_ne, ne_eq] at ha
      exact hm (bne_iff_ne.2 ha)
  · intro h
    rw [List.any_reverse, (dropW_nil l.reverse).2 (by rw [List.any_reverse]; exact h)]; rfl
theorem semi_ne : ∀ l : List UInt8, semiL l ≠ []
  | [] => by simp [semiL]
  | c :: l => by
    unfold semiL
    split
    · simp
    · split <;> simp
/-- The code text, by its bytes. -/
theorem codeT_eq (l : List UInt8) : codeT l = if (unLF l).head? = some 32 ∧ (unLF l).getLast? = some 32 ∧ (unLF l).any (· != 32) = true then ((unLF l).drop 1).dropLast else unLF l := by
  unfold codeT
  by_cases h : (unLF l).any (· != 32) = true ∧ (unLF l).head? = some 32 ∧ (unLF l).getLast? = some 32
  · rw [if_pos h, if_pos ⟨h.2.1, h.2.2, h.1⟩]
  · rw [if_neg h, if_neg fun c => h ⟨c.2.2, c.1, c.2.1⟩]
end Go.Pub
namespace Go.Pub
/-- The signs '@' ahead of i: none, one, or more. -/
def AtW (p : ByteArray) (i : Nat) (a n : Nat) : Prop :=
  (n = 0 ∧ a = 0 ∧ ∀ j, j < i → bt p j ≠ 64) ∨ (n = 1 ∧ a < i ∧ bt p a = 64 ∧ ∀ j, j < i → j ≠ a → bt p j ≠ 64) ∨ (2 ≤ n ∧ n ≤ i ∧ a < i ∧ ∃ j k, j < k ∧ k < i ∧ bt p j = 64 ∧ bt p k = 64)
theorem AtW.start (p : ByteArray) : AtW p 0 0 0 := .inl ⟨rfl, rfl, fun j h => by omega⟩
theorem AtW.skip {p : ByteArray} {i a n : Nat} (h : AtW p i a n) (hb : bt p i ≠ 64) : AtW p (i + 1) a n := by
  rcases h with ⟨h1, h2, h3⟩ | ⟨h1, h2, h3, h4⟩ | ⟨h1, h2, h3, j, k, h4⟩
  · refine .inl ⟨h1, h2, fun j hj => ?_⟩
    rcases (by omega : j < i ∨ j = i) with h | rfl
    · exact h3 j h
    · exact hb
  · refine .inr (.inl ⟨h1, by omega, h3, fun j hj hne => ?_⟩)
    rcases (by omega : j < i ∨ j = i) with h | rfl
    · exact h4 j h hne
    · exact hb
  · exact .inr (.inr ⟨h1, by omega, by omega, j, k, h4.1, by omega, h4.2.2⟩)
theorem AtW.le {p : ByteArray} {i a n : Nat} (h : AtW p i a n) : n ≤ i ∧ a ≤ i := by
  rcases h with ⟨h1, h2, h3⟩ | ⟨h1, h2, h3, h4⟩ | ⟨h1, h2, h3, _⟩ <;> omega
/-- The dash ahead of a sign. -/
def barB (p : ByteArray) (a : Nat) : Bool := decide (0 < a) && bt p (a - 1) == 45
def frA (p : ByteArray) (a : Nat) : Nat := if barB p a = true then a - 1 else a
theorem AtW.one {p : ByteArray} {a : Nat} (h : AtW p p.size a 1) : a < p.size ∧ bt p a = 64 ∧
    citedI p = if frA p a = 0 ∨ bt p (frA p a - 1) = 32 then (nmEnd p (a + 1)).map (fun k => ⟨p.extract (a + 1) k, mk (trimL (sub p 0 (frA p a))), mk (trimL (sfx p k)), barB p a⟩) else none := by
  rcases h with ⟨q1, _⟩ | ⟨_, q1, q2, q3⟩ | ⟨q1, _⟩
  · omega
  · have ea : citA p = a := toE_eq p 0 _ a (by omega) (by omega) (fun j _ hj => by simpa using q3 j (by omega) (by omega)) fun _ => by simpa using q2
    have eb : toE p (a + 1) (fun b => b == 64) = p.size := toE_eq p (a + 1) _ p.size (by omega) (Nat.le_refl _) (fun j h1 h2 => by simpa using q3 j h2 (by omega)) fun h => by omega
    refine ⟨q1, q2, ?_⟩
    unfold citedI
    simp only [ea]
    show (if a < p.size ∧ toE p (a + 1) (fun b => b == 64) ≥ p.size ∧ (frA p a = 0 ∨ bt p (frA p a - 1) = 32) then (nmEnd p (a + 1)).map (fun k => (⟨p.extract (a + 1) k, mk (trimL (sub p 0 (frA p a))), mk (trimL (sfx p k)), barB p a⟩ : CitL)) else none) = _
    by_cases hc : frA p a = 0 ∨ bt p (frA p a - 1) = 32
    · rw [if_pos hc, if_pos ⟨q1, by omega, hc⟩]
    · rw [if_neg hc, if_neg fun c => hc c.2.2]
  · omega
end Go.Pub
namespace Go.Pub
theorem sub_consA (s : ByteArray) (a i : Nat) (h : a < i) (hs : a < s.size) : sub s a i = s.get! a :: sub s (a + 1) i := by
  have h1 : sub s a i = (sfx s a).take (i - a) := rfl
  have h2 : sub s (a + 1) i = (sfx s (a + 1)).take (i - (a + 1)) := rfl
  rw [h1, h2, sfx_cons s a hs, show i - a = (i - (a + 1)) + 1 by omega, List.take_succ_cons]
theorem u59 (s : ByteArray) (a : Nat) : s.get! a = 59 ↔ bt s a = 59 := bt_u8 s a 59 (by decide)
theorem semi_seg (s : ByteArray) (i : Nat) (hi : i < s.size) (h : bt s i = 59) : ∀ n a, i - a = n → a ≤ i → (∀ j, a ≤ j → j < i → bt s j ≠ 59) → semiL (sfx s a) = sub s a i :: semiL (sfx s (i + 1))
  | 0, a, hn, ha, hj => by
    obtain rfl : a = i := by omega
    rw [sfx_cons s a hi]
    conv => lhs; unfold semiL
    rw [if_pos ((u59 s a).2 h)]
    have : sub s a a = [] := by unfold sub; simp
    rw [this]
  | n + 1, a, hn, ha, hj => by
    have hlt : a < i := by omega
    rw [sfx_cons s a (by omega), sub_consA s a i hlt (by omega)]
    conv => lhs; unfold semiL
    rw [if_neg fun e => hj a (Nat.le_refl _) hlt ((u59 s a).1 e), semi_seg s i hi h n (a + 1) (by omega) (by omega) fun j h1 h2 => hj j (by omega) h2]
theorem semi_end (s : ByteArray) : ∀ n a, s.size - a = n → (∀ j, a ≤ j → j < s.size → bt s j ≠ 59) → semiL (sfx s a) = [sfx s a]
  | 0, a, hn, hj => by rw [sfx_nil s a (by omega)]; rfl
  | n + 1, a, hn, hj => by
    have hlt : a < s.size := by omega
    rw [sfx_cons s a hlt]
    conv => lhs; unfold semiL
    rw [if_neg fun e => hj a (Nat.le_refl _) hlt ((u59 s a).1 e), semi_end s n (a + 1) (by omega) fun j h1 h2 => hj j (by omega) h2]
def badN (b : Nat) : Bool := b == 91 || b == 93 || b == 96 || b == 123 || b == 36 || b == 10
theorem badN_C (b : UInt8) : badC b = badN b.toNat := by
  unfold badC badN
  have e : ∀ (k : Nat), k < 256 → (b == UInt8.ofNat k) = (b.toNat == k) := fun k hk => by
    rw [Bool.eq_iff_iff, beq_iff_eq, beq_iff_eq]; exact u8_nat b k hk
  rw [show (b == 91) = (b.toNat == 91) from e 91 (by decide), show (b == 93) = (b.toNat == 93) from e 93 (by decide), show (b == 123) = (b.toNat == 123) from e 123 (by decide), show (b == 96) = (b.toNat == 96) from e 96 (by decide), show (b == 36) = (b.toNat == 36) from e 36 (by decide), show (b == 10) = (b.toNat == 10) from e 10 (by decide)]
  generalize (b.toNat == 91) = q1; generalize (b.toNat == 93) = q2; generalize (b.toNat == 123) = q3; generalize (b.toNat == 96) = q4; generalize (b.toNat == 36) = q5; generalize (b.toNat == 10) = q6
  revert q1 q2 q3 q4 q5 q6
  decide
theorem any_none (s : ByteArray) : ∀ n a, s.size - a = n → (∀ j, a ≤ j → j < s.size → badN (bt s j) = false) → (sfx s a).any badC = false
  | 0, a, hn, hj => by rw [sfx_nil s a (by omega)]; rfl
  | n + 1, a, hn, hj => by
    have hlt : a < s.size := by omega
    rw [sfx_cons s a hlt, List.any_cons, any_none s n (a + 1) (by omega) fun j h1 h2 => hj j (by omega) h2, badN_C]
    have := hj a (Nat.le_refl _) hlt
    unfold bt at this
    rw [this]; rfl
/-- The citations up to the part that begins at a: those of the whole are they and the rest's. -/
structure CitW (s : ByteArray) (i a : Nat) (cs : List CitL) : Prop where
  ai : a ≤ i
  good : ∀ j, j < i → j < s.size → badN (bt s j) = false
  part : ∀ j, a ≤ j → j < i → bt s j ≠ 59
  rest : a ≤ s.size → allC (semiL (bytesL s)) = (allC (semiL (sfx s a))).map (cs ++ ·)
theorem CitW.start (s : ByteArray) : CitW s 0 0 [] := ⟨Nat.le_refl _, fun j h => by omega, fun j _ h => by omega, fun _ => by
  show allC (semiL (bytesL s)) = (allC (semiL (sfx s 0))).map ([] ++ ·)
  have : sfx s 0 = bytesL s := rfl
  rw [this]
  cases allC (semiL (bytesL s)) <;> rfl⟩
theorem CitW.seg {s : ByteArray} {i a : Nat} {cs : List CitL} (h : CitW s i a cs) (hi : i < s.size) (h59 : bt s i = 59) : allC (semiL (bytesL s)) = (citedI (s.extract a i)).bind fun c => (allC (semiL (sfx s (i + 1)))).map ((cs ++ [c]) ++ ·) := by
  have e : Go.Pub.mk (sub s a i) = s.extract a i := by rw [← bytesL_sub, mk_bytesL]
  rw [h.rest (by have := h.ai; omega), semi_seg s i hi h59 _ a rfl h.ai h.part]
  show (allC (sub s a i :: semiL (sfx s (i + 1)))).map (cs ++ ·) = _
  rw [show allC (sub s a i :: semiL (sfx s (i + 1))) = (citedI (Go.Pub.mk (sub s a i))).bind fun c => (allC (semiL (sfx s (i + 1)))).map fun cs => c :: cs from rfl, e]
  cases citedI (s.extract a i) with
  | none => rfl
  | some c =>
    show Option.map _ ((allC (semiL (sfx s (i + 1)))).map fun cs => c :: cs) = _
    cases allC (semiL (sfx s (i + 1))) <;> simp
theorem CitW.last {s : ByteArray} {a : Nat} {cs : List CitL} (h : CitW s s.size a cs) : citesI s = (citedI (s.extract a s.size)).map fun c => cs ++ [c] := by
  have e : Go.Pub.mk (sfx s a) = s.extract a s.size := by
    rw [← mk_bytesL (s.extract a s.size), bytesL_sub]
    unfold sub sfx
    rw [List.take_of_length_le (by rw [List.length_drop, bytesL_length]; exact Nat.le_refl _)]
  have hn := any_none s (s.size - 0) 0 rfl fun j _ h2 => h.good j h2 h2
  have h0 : sfx s 0 = bytesL s := rfl
  rw [h0] at hn
  unfold citesI
  rw [if_neg (by rw [hn]; simp), h.rest h.ai, semi_end s _ a rfl fun j h1 h2 => h.part j h1 h2]
  unfold allC allC
  rw [e]
  cases citedI (s.extract a s.size) <;> rfl
theorem CitW.fail {s : ByteArray} {i a : Nat} {cs : List CitL} (h : CitW s i a cs) (hi : i < s.size) (h59 : bt s i = 59) (hc : citedI (s.extract a i) = none) : citesI s = none := by
  unfold citesI
  rw [h.seg hi h59, hc]
  show (if _ then none else none) = none
  split <;> rfl
theorem CitW.next {s : ByteArray} {i a : Nat} {cs : List CitL} {c : CitL} (h : CitW s i a cs) (hi : i < s.size) (h59 : bt s i = 59) (hc : citedI (s.extract a i) = some c) : CitW s (i + 1) (i + 1) (cs ++ [c]) :=
  ⟨Nat.le_refl _, fun j h1 h2 => by
    rcases (by omega : j < i ∨ j = i) with h3 | rfl
    · exact h.good j h3 h2
    · rw [h59]; rfl, fun j h1 h2 => by omega, fun _ => by rw [h.seg hi h59, hc]; rfl⟩
end Go.Pub
namespace Go.Pub
theorem dropW_app (p : UInt8 → Bool) (b : UInt8) : ∀ l : List UInt8, (l ++ [b]).dropWhile p = if l.dropWhile p = [] then [b].dropWhile p else l.dropWhile p ++ [b]
  | [] => by simp
  | c :: l => by
    rw [List.cons_append, List.dropWhile_cons, List.dropWhile_cons]
    by_cases h : p c = true
    · rw [if_pos h, if_pos h, dropW_app p b l]
    · rw [if_neg h, if_neg h, if_neg (by simp)]; rfl
theorem trimL_head (l : List UInt8) : trimL (32 :: l) = trimL l := by
  unfold trimL Lib.trimB Lib.trimRightB Lib.trimLeftB
  rw [List.reverse_cons, dropW_app]
  by_cases h : l.reverse.dropWhile (· == 32) = []
  · rw [if_pos h, h]; rfl
  · rw [if_neg h, List.reverse_append]
    show ((32 : UInt8) :: (l.reverse.dropWhile (· == 32)).reverse).dropWhile (· == 32) = _
    rw [List.dropWhile_cons, if_pos (by decide)]
theorem trimL_last (l : List UInt8) : trimL (l ++ [32]) = trimL l := by
  unfold trimL Lib.trimB Lib.trimRightB
  rw [List.reverse_append]
  show Lib.trimLeftB (((32 : UInt8) :: l.reverse).dropWhile (· == 32)).reverse 32 = _
  rw [List.dropWhile_cons, if_pos (by decide)]
theorem trimL_stay (l : List UInt8) (h1 : l.head? ≠ some 32) (h2 : l.getLast? ≠ some 32) : trimL l = l := by
  have e : l.reverse.dropWhile (· == 32) = l.reverse := by
    cases hr : l.reverse with
    | nil => rfl
    | cons b r =>
      rw [List.dropWhile_cons, if_neg]
      intro hb
      have hb : b = 32 := by simpa using hb
      apply h2
      rw [← List.head?_reverse, hr, hb]; rfl
  unfold trimL Lib.trimB Lib.trimRightB
  rw [e, List.reverse_reverse]
  unfold Lib.trimLeftB
  cases l with
  | nil => rfl
  | cons b r =>
    rw [List.dropWhile_cons, if_neg]
    intro hb
    have hb : b = 32 := by simpa using hb
    exact h1 (by rw [hb]; rfl)
end Go.Pub
namespace Go.Pub
theorem scanF_end {s : ByteArray} {f i : Nat} {j : Bool} {acc : List PcL} (hi : s.size ≤ i) : scanF s f i j acc = acc := by
  cases f with
  | zero => rfl
  | succ f => unfold scanF; rw [if_neg (by omega)]
end Go.Pub
namespace Go.Pub
theorem byte9_at (s : ByteArray) (i : Nat) (h : i < s.size) : (bytesL s)[i]? = some (s.get! i) := by
  have h2 : sfx s i = s.get! i :: sfx s (i + 1) := sfx_cons s i h
  have h3 : (sfx s i)[0]? = (bytesL s)[i]? := by unfold sfx; rw [List.getElem?_drop, Nat.add_zero]
  rw [← h3, h2]; rfl
theorem byte_ext (s : ByteArray) (i : Nat) (h : i < s.size) : bytesL (s.extract i (i + 1)) = [s.get! i] := by
  rw [bytesL_sub]
  have h1 : sub s i (i + 1) = (sfx s i).take (i + 1 - i) := rfl
  rw [h1, sfx_cons s i h, show i + 1 - i = 1 by omega]; rfl
end Go.Pub
namespace Go.Pub
end Go.Pub
namespace Go.Proofs.YtcjkgmfidkgamaaGreatDoor
open Go.RowKit Go.Pub
theorem quietLeft {P : Program} {f : FuncId} {args : Array Value} {w : World} {n : Nat} {v : Value}
    (h : Calls P f args (w.drewN n) fun e w' => e = .returned v ∧ w.drewN n = w') : Calls P f args (w.drewN n) fun e w'' => e = .returned v ∧ ∃ m, w'' = w.drewN m :=
  h.mono fun _ _ ⟨he, hm⟩ => ⟨he, n, hm.symm⟩
def IdxPost (b : Bool) (w : World) (e : Ending) (w' : World) : Prop := ∃ n : Int, e = .returned (.int .i64 n) ∧ (0 ≤ n ↔ b = true) ∧ Below w.heap.size w w'
end Go.Proofs.YtcjkgmfidkgamaaGreatDoor
namespace Go.Pub
open Go.RowKit
theorem Reads.take {w : World} {B size n k : Nat} {A : Option Addr} {xs : List Value} (h : Reads w B size A n xs) (hk : k ≤ n) : Reads w B size A k (xs.take (k * size)) := by
  refine ⟨by rw [List.length_take, h.1]; exact Nat.min_eq_left (Nat.mul_le_mul_right _ hk), fun h0 => ?_⟩
  obtain ⟨ad, e, hb, hc⟩ := h.2 (by omega)
  refine ⟨ad, e, hb, fun j u hu => hc j u ?_⟩
  rw [List.getElem?_take] at hu
  split at hu
  · exact hu
  · cases hu
end Go.Pub
namespace Go.Proofs.YtcjkgmfidkgamaaGreatDoor
open Go.RowKit Go.Pub
end Go.Proofs.YtcjkgmfidkgamaaGreatDoor
