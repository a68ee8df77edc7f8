/-
  Texts of the proof, put together: LinkK, LinkL.
-/
import Derived.Test.YthfienjmigidbaaDoorB21
import Derived.Test.YthfienjmigidbaaDoorB05
import Derived.Test.YthfienjmigidbaaDoorB20
set_option linter.unusedVariables false
set_option linter.unusedSimpArgs false
namespace Go.Pub
/-- The characters that mean something in links. -/
def specB (b : Nat) : Bool := ([92, 96, 36, 123, 60, 62, 91, 93, 40, 41, 34] : List Nat).contains b
def escS1 (b : UInt8) : List UInt8 := if specB b.toNat then [92, b] else [b]
def escS (l : List UInt8) : List UInt8 := l.flatMap escS1
/-- What stands inside the parentheses. -/
def insideL (d t : List UInt8) : List UInt8 :=
  if d = [] ∧ t = [] then [] else
    (if d = [] ∨ gapB d = true then [60] ++ escS d ++ [62] else escS d) ++ (if t = [] then [] else [32, 34] ++ escS t ++ [34])
theorem escS_end (s : ByteArray) (k : Nat) (h : s.size ≤ k) : escS (sfx s k) = [] := by rw [sfx_nil s k h]; rfl
theorem escS_step (s : ByteArray) (k : Nat) (h : k < s.size) : escS (sfx s k) = escS1 (s.get! k) ++ escS (sfx s (k + 1)) := by
  rw [sfx_cons s k h]; rfl
theorem escS_len (l : List UInt8) : (escS l).length ≤ 2 * l.length := by
  induction l with
  | nil => exact Nat.le_refl _
  | cons b l ih =>
    unfold escS at ih ⊢
    rw [List.flatMap_cons, List.length_append, List.length_cons]
    have : (escS1 b).length ≤ 2 := by unfold escS1; split <;> simp
    omega
theorem spec_ways (s : ByteArray) (k : Nat) (h : k < s.size) (hy : specB (bt s k) = true) : (((s[k].toNat : Nat) : Int) == 92) = true ∨ ((((s[k].toNat : Nat) : Int) == 92) = false ∧ ((((s[k].toNat : Nat) : Int) == 96) = true ∨ ((((s[k].toNat : Nat) : Int) == 96) = false ∧ ((((s[k].toNat : Nat) : Int) == 36) = true ∨ ((((s[k].toNat : Nat) : Int) == 36) = false ∧ ((((s[k].toNat : Nat) : Int) == 123) = true ∨ ((((s[k].toNat : Nat) : Int) == 123) = false ∧ ((((s[k].toNat : Nat) : Int) == 60) = true ∨ ((((s[k].toNat : Nat) : Int) == 60) = false ∧ ((((s[k].toNat : Nat) : Int) == 62) = true ∨ ((((s[k].toNat : Nat) : Int) == 62) = false ∧ ((((s[k].toNat : Nat) : Int) == 91) = true ∨ ((((s[k].toNat : Nat) : Int) == 91) = false ∧ ((((s[k].toNat : Nat) : Int) == 93) = true ∨ ((((s[k].toNat : Nat) : Int) == 93) = false ∧ ((((s[k].toNat : Nat) : Int) == 40) = true ∨ ((((s[k].toNat : Nat) : Int) == 40) = false ∧ ((((s[k].toNat : Nat) : Int) == 41) = true ∨ ((((s[k].toNat : Nat) : Int) == 41) = false ∧ ((((s[k].toNat : Nat) : Int) == 34) = true)))))))))))))))))))) := by
  simp only [specB, List.contains_cons, List.contains_nil, Bool.or_false, Bool.or_eq_true, beq_iff_eq] at hy
  rw [get_bt s k h]
  by_cases c0 : bt s k = 92
  · left; rw [c0]; rfl
  · right; refine ⟨by rw [beq_eq_false_iff_ne]; omega, ?_⟩
    by_cases c1 : bt s k = 96
    · left; rw [c1]; rfl
    · right; refine ⟨by rw [beq_eq_false_iff_ne]; omega, ?_⟩
      by_cases c2 : bt s k = 36
      · left; rw [c2]; rfl
      · right; refine ⟨by rw [beq_eq_false_iff_ne]; omega, ?_⟩
        by_cases c3 : bt s k = 123
        · left; rw [c3]; rfl
        · right; refine ⟨by rw [beq_eq_false_iff_ne]; omega, ?_⟩
          by_cases c4 : bt s k = 60
          · left; rw [c4]; rfl
          · right; refine ⟨by rw [beq_eq_false_iff_ne]; omega, ?_⟩
            by_cases c5 : bt s k = 62
            · left; rw [c5]; rfl
            · right; refine ⟨by rw [beq_eq_false_iff_ne]; omega, ?_⟩
              by_cases c6 : bt s k = 91
              · left; rw [c6]; rfl
              · right; refine ⟨by rw [beq_eq_false_iff_ne]; omega, ?_⟩
                by_cases c7 : bt s k = 93
                · left; rw [c7]; rfl
                · right; refine ⟨by rw [beq_eq_false_iff_ne]; omega, ?_⟩
                  by_cases c8 : bt s k = 40
                  · left; rw [c8]; rfl
                  · right; refine ⟨by rw [beq_eq_false_iff_ne]; omega, ?_⟩
                    by_cases c9 : bt s k = 41
                    · left; rw [c9]; rfl
                    · right; refine ⟨by rw [beq_eq_false_iff_ne]; omega, ?_⟩
                      rw [show bt s k = 34 by omega]; rfl
theorem spec_not (s : ByteArray) (k : Nat) (h : k < s.size) (hy : specB (bt s k) = false) : (((s[k].toNat : Nat) : Int) == 92) = false ∧ (((s[k].toNat : Nat) : Int) == 96) = false ∧ (((s[k].toNat : Nat) : Int) == 36) = false ∧ (((s[k].toNat : Nat) : Int) == 123) = false ∧ (((s[k].toNat : Nat) : Int) == 60) = false ∧ (((s[k].toNat : Nat) : Int) == 62) = false ∧ (((s[k].toNat : Nat) : Int) == 91) = false ∧ (((s[k].toNat : Nat) : Int) == 93) = false ∧ (((s[k].toNat : Nat) : Int) == 40) = false ∧ (((s[k].toNat : Nat) : Int) == 41) = false ∧ (((s[k].toNat : Nat) : Int) == 34) = false := by
  simp only [specB, List.contains_cons, List.contains_nil, Bool.or_false, Bool.or_eq_false_iff, beq_eq_false_iff_ne] at hy
  rw [get_bt s k h]
  simp only [beq_eq_false_iff_ne]
  omega
end Go.Pub
namespace Go.Proofs.YthfienjmigidbaaDoor
open Go.RowKit Go.Pub

def EsRel (s : ByteArray) (R : List UInt8) (w : World) (i : Value) (wr : World) : Prop :=
  ∃ (k : Nat) (acc : List UInt8), i = .int .i64 k ∧ k ≤ s.size ∧ Lib.IsBuilderF 82 5 w.heap.size w.heap.size (Lib.byteCells acc) wr ∧ Below w.heap.size w wr ∧ Hid (acc ++ escS (sfx s k) = R) ∧ acc.length ≤ 2 * k ∧ w.heap.size < wr.heap.size

end Go.Proofs.YthfienjmigidbaaDoor
namespace Go.Pub
/-- Without the leading spaces. -/
def triL (l : List UInt8) : List UInt8 := Lib.trimLeftB l 32
theorem triL_cons (c : UInt8) (l : List UInt8) : triL (c :: l) = if c = 32 then triL l else c :: l := by
  unfold triL Lib.trimLeftB
  by_cases h : c = 32 <;> simp [h]
theorem triL_len (l : List UInt8) : (triL l).length ≤ l.length := by
  induction l with
  | nil => simp [triL, Lib.trimLeftB]
  | cons c l ih => rw [triL_cons]; split <;> simp <;> omega
def triB (s : ByteArray) : ByteArray := mk (triL (bytesL s))
theorem triB_size (s : ByteArray) : (triB s).size ≤ s.size := by
  unfold triB; rw [mk_size, ← bytesL_length s]; exact triL_len _
/-- The part of a definition behind its label. -/
def defB (lab : List UInt8) (r : ByteArray) : Option (List UInt8 × List UInt8 × List UInt8) :=
  (destR r 0).bind fun d =>
    if (triB (r.extract d.2 r.size)).size = 0 then some (lab, d.1, [])
    else if (triB (r.extract d.2 r.size)).size = r.size - d.2 then none
    else (titleR (triB (r.extract d.2 r.size)) 0).bind fun t =>
      if (triB ((triB (r.extract d.2 r.size)).extract t.2 (triB (r.extract d.2 r.size)).size)).size = 0 then some (lab, d.1, t.1) else none
def defR (s : ByteArray) : Option (List UInt8 × List UInt8 × List UInt8) :=
  if 3 < s.size - (triB s).size then none else
  (brackR (triB s) 0).bind fun b =>
    if b.2 < (triB s).size ∧ bt (triB s) b.2 = 58 then defB b.1 (triB ((triB s).extract (b.2 + 1) (triB s).size)) else none
theorem brackR_le {s : ByteArray} {i : Nat} {r : List UInt8 × Nat} (h : brackR s i = some r) : i + 1 < r.2 ∧ r.2 ≤ s.size := by
  unfold brackR at h
  split at h
  · split at h
    · rename_i h1 h2
      simp only [Option.some.injEq] at h
      subst h
      have := h2.1
      rw [sfx_len] at this
      have h3 := h1.1
      exact ⟨by show i + 1 < i + brk _ + 2; omega, by show i + brk _ + 2 ≤ _; omega⟩
    · simp at h
  · simp at h
end Go.Pub
namespace Go.Proofs.YthfienjmigidbaaDoor
open Go.RowKit Go.Pub

theorem trim_any (s : ByteArray) (w : World) : Calls Tryd.prog 37 #[.string s, .string ⟨#[32]⟩] w fun e w' => e = .returned (.string (triB s)) ∧ w = w' := by
  refine (Tryd.strings_TrimLeft_one s 32 (by decide) w).mono ?_
  rintro e w' ⟨rfl, rfl⟩
  exact ⟨rfl, rfl⟩

def defVal : Option (List UInt8 × List UInt8 × List UInt8) → Value
  | none => .tuple #[.string ⟨#[]⟩, .string ⟨#[]⟩, .string ⟨#[]⟩, .bool false]
  | some r => .tuple #[.string (mk r.1), .string (mk r.2.1), .string (mk r.2.2), .bool true]
def DefPost (r : Option (List UInt8 × List UInt8 × List UInt8)) (w : World) (e : Ending) (w' : World) : Prop := e = .returned (defVal r) ∧ Below w.heap.size w w'

end Go.Proofs.YthfienjmigidbaaDoor
