/-
  Texts of the proof, put together: RefB, MemB, RefC, RefE, AttrB.
-/
import Derived.Test.YthfienjmigidbaaDoorB08
import Derived.Test.YthfienjmigidbaaDoorB02
import Derived.Laws.BytesArg
import Derived.Lib.UnsafeStr
import Derived.Test.YthfienjmigidbaaDoorB01
import Derived.Test.YthfienjmigidbaaDoorB05
import Derived.Test.YthfienjmigidbaaDoorB07
set_option linter.unusedVariables false
set_option linter.unusedSimpArgs false
namespace Go.Proofs.YthfienjmigidbaaDoor
open Go.RowKit Go.Pub

theorem dec_rest (s : ByteArray) (i : Nat) (h : ¬ bt s i < 128) (h2 : ¬ (194 ≤ bt s i ∧ bt s i ≤ 223)) (h3 : ¬ (224 ≤ bt s i ∧ bt s i ≤ 239)) (h4 : ¬ (240 ≤ bt s i ∧ bt s i ≤ 244)) : Utf8.decode s i = (65533, 1) :=
  dec_bad_width s i (by unfold wd; rw [if_neg h, if_neg h2, if_neg h3, if_neg h4])

def PairBelow (c n : Int) (w : World) (e : Ending) (w' : World) : Prop := e = .returned (.tuple #[.int .i64 c, .int .i64 n]) ∧ Below w.heap.size w w'
theorem pairBelow_mk {c n c' n' : Int} {w w' : World} (hc : c = c') (hn : n = n') (hb : Below w.heap.size w w') : PairBelow c' n' w (.returned (.tuple #[.int .i64 c, .int .i64 n])) w' := by
  subst hc hn; exact ⟨rfl, hb⟩

end Go.Proofs.YthfienjmigidbaaDoor
namespace Go.Pub
open Go.RowKit

/-- A slice of bytes as a string. -/
theorem conv_bytes {P : Program} (w : World) (src e : TypeId) (hs : P.underlying src = some (.slice e)) (he : P.underlying e = some (.int .u8)) {B : Nat} {A : Option Addr} {n : Nat} (c : Nat) {l : List UInt8} (hr : Reads w B 1 A n (Lib.byteCells l)) :
    ∀ dst, P.underlying dst = some .string → (convert src dst (.slice A n c)).run P w = .ok (.string ⟨l.toArray⟩) w := by
  intro dst hd
  have hn : l.length = n := by have := hr.1; rw [Lib.byteCells_length] at this; omega
  rcases Nat.eq_zero_or_pos n with h0 | h0
  · subst h0
    have : l = [] := List.eq_nil_of_length_eq_zero hn
    subst this
    rw [run_convert_bytes_string w src dst e _ 0 c hs he hd]
    cases A with
    | none => simp [Conv.bytesToString]; rfl
    | some ad =>
      have := run_bytesToString (P := P) w ad 0 c [] (by rfl)
      rw [this]; rfl
  · obtain ⟨ad, rfl, _, hc⟩ := hr.2 h0
    have hl : (loadCells ad n).run P w = .ok ((l.map fun b => ((b.toNat : Nat) : Int)).map (Value.int .u8)).toArray w := by
      have := run_loadCells_list (P := P) w ad ((l.map fun b => ((b.toNat : Nat) : Int)).map (Value.int .u8)) (fun j v hj => hc j v (by simpa [Lib.byteCells] using hj))
      simpa [hn] using this
    rw [run_convert_bytes_string w src dst e _ n c hs he hd, run_bytesToString w _ n c _ hl, foldl_push_bytes]
    simp only [List.map_map, ByteArray.empty, ByteArray.emptyWithCapacity]
    have e1 : (fun n : Int => UInt8.ofNat n.toNat) ∘ (fun b : UInt8 => ((b.toNat : Nat) : Int)) = id := by
      funext b; simp
    rw [e1, List.map_id]
    simp
    rfl
end Go.Pub
namespace Go.Pub
open Go.RowKit
def SliceOwn (e : TypeId) (size n : Nat) (xs : List Value) (w : World) (en : Ending) (w' : World) : Prop := ∃ v, en = .returned v ∧ w'.ownsRow w.heap.size e size v n xs ∧ Below w.heap.size w w'
end Go.Pub
namespace Go.Proofs.YthfienjmigidbaaDoor
open Go.RowKit Go.Pub

theorem below_new {w : World} {o : Obj} : Below w.heap.size w (w.alloc o) := (Below.refl _ _).alloc (Nat.le_refl _) _

end Go.Proofs.YthfienjmigidbaaDoor
namespace Go.Pub
def intCells (l : List Int) : List Value := l.map (Value.int .i64)
theorem intCells_at (l : List Int) (k : Nat) (h : k < l.length) : (intCells l)[k]? = some (.int .i64 l[k]) := by simp [intCells, h]
theorem add_plain (g k : Nat) : (⟨g, 0, none⟩ : Addr).add k = ⟨g, k, none⟩ := by unfold Addr.add; split <;> simp_all
end Go.Pub
namespace Go.Proofs.YthfienjmigidbaaDoor
open Go.RowKit Go.Pub

end Go.Proofs.YthfienjmigidbaaDoor
namespace Go.Pub
theorem indexByte_neg (l : List UInt8) (c : UInt8) : -1 ≤ Lib.indexByte l c ∧ (decide (Lib.indexByte l c < 0) = !l.contains c) := by
  induction l with
  | nil => exact ⟨Int.le_refl _, rfl⟩
  | cons b l ih =>
    unfold Lib.indexByte
    by_cases h : b = c
    · subst h; simp
    · have h1 : (b == c) = false := by simpa using h
      have h2 : (c == b) = false := by simpa using fun e => h e.symm
      rw [h1]
      simp only [Bool.false_eq_true, if_false, List.contains_cons, h2, Bool.false_or]
      by_cases h3 : Lib.indexByte l c = -1
      · rw [show (Lib.indexByte l c == -1) = true by simpa using h3, if_pos rfl]
        refine ⟨by decide, ?_⟩
        rw [← ih.2, h3]
      · rw [show (Lib.indexByte l c == -1) = false by simpa using h3, if_neg (by decide)]
        have := ih.1
        refine ⟨by omega, ?_⟩
        rw [← ih.2]
        rw [decide_eq_false (by omega), decide_eq_false (by omega)]
def noLF (s : ByteArray) : Bool := !(bytesL s).contains 10
theorem noLF_iff (s : ByteArray) : noLF s = true ↔ ∀ k, k < s.size → bt s k ≠ 10 := by
  unfold noLF
  rw [Bool.not_eq_true', ← Bool.not_eq_true, List.contains_iff_mem]
  have key : ∀ k, k < s.size → ((bytesL s)[k]? = some (s.get! k)) := fun k hk => by
    unfold bytesL
    rw [Array.getElem?_toList]
    have : s.get! k = s.data[k]! := rfl
    rw [this, getElem!_pos s.data k hk, Array.getElem?_eq_getElem hk]
  constructor
  · intro h k hk e
    apply h
    have h10 : s.get! k = 10 := UInt8.toNat_inj.1 e
    have := key k hk
    rw [h10] at this
    exact List.mem_of_getElem? this
  · intro h hm
    obtain ⟨k, hk, he⟩ := List.mem_iff_getElem.1 hm
    have hk' : k < s.size := by have e : (bytesL s).length = s.size := Array.length_toList; omega
    have := key k hk'
    rw [List.getElem?_eq_getElem hk, he] at this
    injection this with this
    exact h k hk' (by unfold bt; rw [← this]; rfl)
end Go.Pub
namespace Go.Proofs.YthfienjmigidbaaDoor
open Go.RowKit Go.Pub

def lineB (s : ByteArray) : Bool := validB s && noLF s

set_option maxRecDepth 100000 in
set_option maxHeartbeats 2000000 in
theorem cleanLine_any (s : ByteArray) (w : World) (hs : s.size < 9223372036854775800) : Calls Tryd.prog 84 #[.string s] w fun e w' => e = .returned (.bool (lineB s)) ∧ Below w.heap.size w w' := by
  have HL : Hid (lineB s = (validB s && noLF s)) := Lib.hid rfl
  have HV := Lib.hid (valid_any s)
  have HX : Hid (∀ W, Calls Tryd.prog 32 #[.string s, .int .u8 10] W fun e w' => e = .returned (.int .i64 (Lib.indexByte (bytesL s) 10)) ∧ w' = W) := Lib.hid fun W => Tryd.strings_IndexByte s 10 W
  have HD : Hid (decide (Lib.indexByte (bytesL s) 10 < 0) = noLF s) := Lib.hid (indexByte_neg _ _).2
  generalize lineB s = R at *
  generalize validB s = V at *
  generalize Lib.indexByte (bytesL s) 10 = x at *
  cases V
  · go_enter Tryd.func84, Tryd.ntmps84
    go_wp2_with fail
    refine (HV.out _ hs).mono ?_
    rintro e w1 ⟨rfl, b1⟩
    go_wp2_with fail
    go_ret
    exact ⟨ret_bool (by rw [HL.out]; rfl), b1⟩
  · go_enter Tryd.func84, Tryd.ntmps84
    go_wp2_with fail
    refine (HV.out _ hs).mono ?_
    rintro e w1 ⟨rfl, b1⟩
    go_wp2_with fail
    refine (HX.out _).mono ?_
    rintro e w2 ⟨rfl, rfl⟩
    go_wp2
    go_ret
    exact ⟨ret_bool (by rw [HL.out, ← HD.out]; rfl), b1⟩

end Go.Proofs.YthfienjmigidbaaDoor
