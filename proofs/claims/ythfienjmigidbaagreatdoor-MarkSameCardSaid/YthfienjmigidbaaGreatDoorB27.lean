/-
  Texts of the proof, put together: LinkK, LinkL.
-/
import Derived.Test.YthfienjmigidbaaGreatDoorB26
import Derived.Test.YthfienjmigidbaaGreatDoorB05
import Derived.Test.YthfienjmigidbaaGreatDoorB25
set_option linter.unusedVariables false
set_option linter.unusedSimpArgs false
namespace Go.Pub
/-- The characters that mean something in links. -/
def specB (b : Nat) : Bool := ([92, 96, 36, 123, 60, 62, 91, 93, 40, 41, 34] : List Nat).contains b
def escS1 (b : UInt8) : List UInt8 := if specB b.toNat then [92, b] else [b]
def escS (l : List UInt8) : List UInt8 := l.flatMap escS1
/-- What stands inside the parentheses. -/
def insideL (d t : List UInt8) : List UInt8 :=
  if d = [] ∧ t = [] then [] else
    (if d = [] ∨ gapB d = true then [60] ++ escS d ++ [62] else escS d) ++ (if t = [] then [] else [32, 34] ++ escS t ++ [34])
theorem escS_end (s : ByteArray) (k : Nat) (h : s.size ≤ k) : escS (sfx s k) = [] := by rw [sfx_nil s k h]; rfl
theorem escS_step (s : ByteArray) (k : Nat) (h : k < s.size) : escS (sfx s k) = escS1 (s.get! k) ++ escS (sfx s (k + 1)) := by
  rw [sfx_cons s k h]; rfl
theorem escS_len (l : List UInt8) : (escS l).length ≤ 2 * l.length := by
  induction l with
  | nil => exact Nat.le_refl _
  | cons b l ih =>
    unfold escS at ih ⊢
    rw [List.flatMap_cons, List.length_append, List.length_cons]
    have : (escS1 b).length ≤ 2 := by unfold escS1; split <;> simp
    omega
theorem spec_ways (s : ByteArray) (k : Nat) (h : k < s.size) (hy : specB (bt s k) = true) : (((s[k].toNat : Nat) : Int) == 92) = true ∨ ((((s[k].toNat : Nat) : Int) == 92) = false ∧ ((((s[k].toNat : Nat) : Int) == 96) = true ∨ ((((s[k].toNat : Nat) : Int) == 96) = false ∧ ((((s[k].toNat : Nat) : Int) == 36) = true ∨ ((((s[k].toNat : Nat) : Int) == 36) = false ∧ ((((s[k].toNat : Nat) : Int) == 123) = true ∨ ((((s[k].toNat : Nat) : Int) == 123) = false ∧ ((((s[k].toNat : Nat) : Int) == 60) = true ∨ ((((s[k].toNat : Nat) : Int) == 60) = false ∧ ((((s[k].toNat : Nat) : Int) == 62) = true ∨ ((((s[k].toNat : Nat) : Int) == 62) = false ∧ ((((s[k].toNat : Nat) : Int) == 91) = true ∨ ((((s[k].toNat : Nat) : Int) == 91) = false ∧ ((((s[k].toNat : Nat) : Int) == 93) = true ∨ ((((s[k].toNat : Nat) : Int) == 93) = false ∧ ((((s[k].toNat : Nat) : Int) == 40) = true ∨ ((((s[k].toNat : Nat) : Int) == 40) = false ∧ ((((s[k].toNat : Nat) : Int) == 41) = true ∨ ((((s[k].toNat : Nat) : Int) == 41) = false ∧ ((((s[k].toNat : Nat) : Int) == 34) = true)))))))))))))))))))) := by
  simp only [specB, List.contains_cons, List.contains_nil, Bool.or_false, Bool.or_eq_true, beq_iff_eq] at hy
  rw [get_bt s k h]
  by_cases c0 : bt s k = 92
  · left; rw [c0]; rfl
  · right; refine ⟨by rw [beq_eq_false_iff_ne]; omega, ?_⟩
    by_cases c1 : bt s k = 96
    · left; rw [c1]; rfl
    · right; refine ⟨by rw [beq_eq_false_iff_ne]; omega, ?_⟩
      by_cases c2 : bt s k = 36
      · left; rw [c2]; rfl
      · right; refine ⟨by rw [beq_eq_false_iff_ne]; omega, ?_⟩
        by_cases c3 : bt s k = 123
        · left; rw [c3]; rfl
        · right; refine ⟨by rw [beq_eq_false_iff_ne]; omega, ?_⟩
          by_cases c4 : bt s k = 60
          · left; rw [c4]; rfl
          · right; refine ⟨by rw [beq_eq_false_iff_ne]; omega, ?_⟩
            by_cases c5 : bt s k = 62
            · left; rw [c5]; rfl
            · right; refine ⟨by rw [beq_eq_false_iff_ne]; omega, ?_⟩
              by_cases c6 : bt s k = 91
              · left; rw [c6]; rfl
              · right; refine ⟨by rw [beq_eq_false_iff_ne]; omega, ?_⟩
                by_cases c7 : bt s k = 93
                · left; rw [c7]; rfl
                · right; refine ⟨by rw [beq_eq_false_iff_ne]; omega, ?_⟩
                  by_cases c8 : bt s k = 40
                  · left; rw [c8]; rfl
                  · right; refine ⟨by rw [beq_eq_false_iff_ne]; omega, ?_⟩
                    by_cases c9 : bt s k = 41
                    · left; rw [c9]; rfl
                    · right; refine ⟨by rw [beq_eq_false_iff_ne]; omega, ?_⟩
                      rw [show bt s k = 34 by omega]; rfl
theorem spec_not (s : ByteArray) (k : Nat) (h : k < s.size) (hy : specB (bt s k) = false) : (((s[k].toNat : Nat) : Int) == 92) = false ∧ (((s[k].toNat : Nat) : Int) == 96) = false ∧ (((s[k].toNat : Nat) : Int) == 36) = false ∧ (((s[k].toNat : Nat) : Int) == 123) = false ∧ (((s[k].toNat : Nat) : Int) == 60) = false ∧ (((s[k].toNat : Nat) : Int) == 62) = false ∧ (((s[k].toNat : Nat) : Int) == 91) = false ∧ (((s[k].toNat : Nat) : Int) == 93) = false ∧ (((s[k].toNat : Nat) : Int) == 40) = false ∧ (((s[k].toNat : Nat) : Int) == 41) = false ∧ (((s[k].toNat : Nat) : Int) == 34) = false := by
  simp only [specB, List.contains_cons, List.contains_nil, Bool.or_false, Bool.or_eq_false_iff, beq_eq_false_iff_ne] at hy
  rw [get_bt s k h]
  simp only [beq_eq_false_iff_ne]
  omega
end Go.Pub
namespace Go.Proofs.YthfienjmigidbaaGreatDoor
open Go.RowKit Go.Pub

def EsRel (s : ByteArray) (R : List UInt8) (w : World) (i : Value) (wr : World) : Prop :=
  ∃ (k : Nat) (acc : List UInt8), i = .int .i64 k ∧ k ≤ s.size ∧ Lib.IsBuilderF 75 5 w.heap.size w.heap.size (Lib.byteCells acc) wr ∧ Below w.heap.size w wr ∧ Hid (acc ++ escS (sfx s k) = R) ∧ acc.length ≤ 2 * k ∧ w.heap.size < wr.heap.size

set_option maxRecDepth 100000 in
set_option maxHeartbeats 8000000 in
theorem l_escape (s : ByteArray) (w : World) (hs : s.size ≤ 1000000) : Calls Tryz.prog 67 #[.string s] w fun e w' => e = .returned (.string (mk (escS (bytesL s)))) ∧ Below w.heap.size w w' := by
  have HX : Hid (escS (sfx s 0) = escS (bytesL s)) := Lib.hid rfl
  generalize escS (bytesL s) = R at *
  go_enter Tryz.func67, Tryz.ntmps67
  go_wp2
  go_loopw [7] (fun v wr => EsRel s R w v wr) (fun v _ => s.size - (intOf v).toNat)
  case atStart => exact ⟨0, [], rfl, by omega, Lib.IsBuilderF.of (Lib.fresh_isBuilder 75 5 w), (Below.refl _ w).alloc (Nat.le_refl _) _, HX, by simp, by simp⟩
  case round =>
    obtain ⟨k, acc, rfl, hk, hI, hbw, Hacc, hal, hsz⟩ := hrel
    by_cases hlt : k < s.size
    · have hlt2 : ((s[k].toNat : Nat) : Int) < 256 := by rw [get_bt s k hlt]; have := bt_lt s k; omega
      have hbi := Lib.hid (bt_int s k hlt)
      have hst := Lib.hid (escS_step s k hlt)
      cases hsp : specB (bt s k)
      · have hy : Hid (escS1 (s.get! k) = [s.get! k]) := Lib.hid (by unfold escS1; exact if_neg (by show ¬ specB (bt s k) = true; rw [hsp]; simp))
        obtain ⟨z0, z1, z2, z3, z4, z5, z6, z7, z8, z9, z10⟩ := spec_not s k hlt hsp
        clear hsp
        go_wp2_with fail
        refine (writeByte_k w.heap.size w.heap.size _ _ _ hI (by rw [Lib.byteCells_length]; omega) (by omega)).mono ?_
        rintro e W1 ⟨rfl, h1, b1, _⟩
        have hz1 := b1.size
        go_wp2
        go_roundw
        case rel =>
          refine ⟨k + 1, acc ++ [s.get! k], by go_num, by omega, by rw [Lib.byteCells_append, byteCell1, ← hbi.out]; exact Or.inr h1, hbw.trans b1, Lib.hid (by rw [← Hacc.out, hst.out, hy.out]; simp), by simp; omega, by omega⟩
        case measure => simp [intOf]; omega
      · have hy : Hid (escS1 (s.get! k) = [92, s.get! k]) := Lib.hid (by unfold escS1; exact if_pos (by show specB (bt s k) = true; rw [hsp]))
        have hw := spec_ways s k hlt hsp
        clear hsp
        rcases hw with z0 | ⟨z0, z1 | ⟨z1, z2 | ⟨z2, z3 | ⟨z3, z4 | ⟨z4, z5 | ⟨z5, z6 | ⟨z6, z7 | ⟨z7, z8 | ⟨z8, z9 | ⟨z9, z10⟩⟩⟩⟩⟩⟩⟩⟩⟩⟩
        all_goals
          go_wp2_with fail
          refine (writeByte_k w.heap.size w.heap.size _ _ _ hI (by rw [Lib.byteCells_length]; omega) (by omega)).mono ?_
          rintro e W1 ⟨rfl, h1, b1, _⟩
          have hz1 := b1.size
          go_wp2_with fail
          refine (writeByte_k w.heap.size w.heap.size _ _ _ (Or.inr h1) (by rw [List.length_append, Lib.byteCells_length]; simp; omega) (by omega)).mono ?_
          rintro e W2 ⟨rfl, h2, b2, _⟩
          have hz2 := b2.size
          go_wp2
          go_roundw
          case rel =>
            refine ⟨k + 1, acc ++ [92, s.get! k], by go_num, by omega, ?_, (hbw.trans b1).trans b2, Lib.hid (by rw [← Hacc.out, hst.out, hy.out]; simp), by simp; omega, by omega⟩
            have e1 : Lib.byteCells (acc ++ [92, s.get! k]) = Lib.byteCells acc ++ [.int .u8 92] ++ [.int .u8 (bt s k)] := by
              rw [Lib.byteCells_append, List.append_assoc]; rfl
            rw [e1, ← hbi.out]; exact Or.inr h2
          case measure => simp [intOf]; omega
    · have HR : Hid (acc = R) := Lib.hid (by rw [← Hacc.out, escS_end s k (by omega), List.append_nil])
      go_wp2_with fail
      refine (Tryz.Builder_String_any_k w.heap.size w.heap.size acc _ hI (by omega)).mono ?_
      rintro e W1 ⟨rfl, h1, b1, _⟩
      go_wp2
      go_ret
      exact ⟨ret_str (by rw [HR.out]; rfl), hbw.trans b1⟩

set_option maxRecDepth 100000 in
set_option maxHeartbeats 4000000 in
theorem l_inside (d t : ByteArray) (w : World) (hd : d.size ≤ 1000000) (ht : t.size ≤ 1000000) : Calls Tryz.prog 23 #[.string d, .string t] w fun e w' => e = .returned (.string (mk (insideL (bytesL d) (bytesL t)))) ∧ Below w.heap.size w w' := by
  have HX : Hid (insideL (bytesL d) (bytesL t) = if bytesL d = [] ∧ bytesL t = [] then [] else
    (if bytesL d = [] ∨ gapB (bytesL d) = true then [60] ++ escS (bytesL d) ++ [62] else escS (bytesL d)) ++ (if bytesL t = [] then [] else [32, 34] ++ escS (bytesL t) ++ [34])) := Lib.hid rfl
  have HE := Lib.hid fun W => l_escape d W hd
  have HT := Lib.hid fun W => l_escape t W ht
  have HA := Lib.hid fun W => containsAny2 d W hd
  have hs1 : (mk (escS (bytesL d))).size ≤ 2000000 := by rw [mk_size]; have := escS_len (bytesL d); rw [bytesL_length] at this; omega
  have hs2 : (mk (escS (bytesL t))).size ≤ 2000000 := by rw [mk_size]; have := escS_len (bytesL t); rw [bytesL_length] at this; omega
  generalize insideL (bytesL d) (bytesL t) = R at *
  generalize escS (bytesL d) = E at *
  generalize escS (bytesL t) = F at *
  by_cases h1 : bytesL d = []
  · obtain ⟨x1, x2⟩ := nil_list d h1
    by_cases h2 : bytesL t = []
    · obtain ⟨y1, y2⟩ := nil_list t h2
      have HF : Hid (R = []) := Lib.hid (by rw [HX.out, if_pos ⟨h1, h2⟩])
      clear h1 h2 HX
      go_enter Tryz.func23, Tryz.ntmps23
      go_wp2_with fail
      go_ret
      exact ⟨ret_str (by rw [HF.out]; rfl), Below.refl _ _⟩
    · obtain ⟨y1, y2⟩ := cons_list t h2
      have HF : Hid (R = ([60] ++ E ++ [62]) ++ ([32, 34] ++ F ++ [34])) := Lib.hid (by rw [HX.out, if_neg (fun e => h2 e.2), if_pos (Or.inl h1), if_neg h2])
      clear h1 h2 HX
      go_enter Tryz.func23, Tryz.ntmps23
      go_wp2_with fail
      ((with_reducible refine (HE.out _).mono ?_))
      rintro e w1 ⟨rfl, b1⟩
      have hz1 := b1.size
      go_wp2_with fail
      ((with_reducible refine (HT.out _).mono ?_))
      rintro e w2 ⟨rfl, b2⟩
      go_wp2_with fail
      go_ret
      exact ⟨ret_str (by rw [HF.out, ← mk_app, ← mk_app, ← mk_app, ← mk_app, ← mk_app]; rfl), b1.trans (b2.mono hz1)⟩
  · obtain ⟨x1, x2⟩ := cons_list d h1
    cases hg : gapB (bytesL d)
    · rw [hg] at HA
      by_cases h2 : bytesL t = []
      · obtain ⟨y1, y2⟩ := nil_list t h2
        have HF : Hid (R = E) := Lib.hid (by rw [HX.out, if_neg (fun e => h1 e.1), if_neg (by rintro (e | e); exact h1 e; rw [hg] at e; cases e), if_pos h2, List.append_nil])
        clear h1 h2 HX hg
        go_enter Tryz.func23, Tryz.ntmps23
        go_wp2_with fail
        ((with_reducible refine (HE.out _).mono ?_))
        rintro e w1 ⟨rfl, b1⟩
        have hz1 := b1.size
        go_wp2_with fail
        ((with_reducible refine (HA.out _).mono ?_))
        rintro e w2 ⟨rfl, b2⟩
        go_wp2_with fail
        go_ret
        exact ⟨ret_str (by rw [HF.out]), b1.trans (b2.mono hz1)⟩
      · obtain ⟨y1, y2⟩ := cons_list t h2
        have HF : Hid (R = E ++ ([32, 34] ++ F ++ [34])) := Lib.hid (by rw [HX.out, if_neg (fun e => h1 e.1), if_neg (by rintro (e | e); exact h1 e; rw [hg] at e; cases e), if_neg h2])
        clear h1 h2 HX hg
        go_enter Tryz.func23, Tryz.ntmps23
        go_wp2_with fail
        ((with_reducible refine (HE.out _).mono ?_))
        rintro e w1 ⟨rfl, b1⟩
        have hz1 := b1.size
        go_wp2_with fail
        ((with_reducible refine (HA.out _).mono ?_))
        rintro e w2 ⟨rfl, b2⟩
        have hz2 := b2.size
        go_wp2_with fail
        ((with_reducible refine (HT.out _).mono ?_))
        rintro e w3 ⟨rfl, b3⟩
        go_wp2_with fail
        go_ret
        exact ⟨ret_str (by rw [HF.out, ← mk_app, ← mk_app, ← mk_app]; rfl), b1.trans ((b2.trans (b3.mono hz2)).mono hz1)⟩
    · rw [hg] at HA
      by_cases h2 : bytesL t = []
      · obtain ⟨y1, y2⟩ := nil_list t h2
        have HF : Hid (R = [60] ++ E ++ [62]) := Lib.hid (by rw [HX.out, if_neg (fun e => h1 e.1), if_pos (Or.inr hg), if_pos h2, List.append_nil])
        clear h1 h2 HX hg
        go_enter Tryz.func23, Tryz.ntmps23
        go_wp2_with fail
        ((with_reducible refine (HE.out _).mono ?_))
        rintro e w1 ⟨rfl, b1⟩
        have hz1 := b1.size
        go_wp2_with fail
        ((with_reducible refine (HA.out _).mono ?_))
        rintro e w2 ⟨rfl, b2⟩
        go_wp2_with fail
        go_ret
        exact ⟨ret_str (by rw [HF.out, ← mk_app, ← mk_app]; rfl), b1.trans (b2.mono hz1)⟩
      · obtain ⟨y1, y2⟩ := cons_list t h2
        have HF : Hid (R = ([60] ++ E ++ [62]) ++ ([32, 34] ++ F ++ [34])) := Lib.hid (by rw [HX.out, if_neg (fun e => h1 e.1), if_pos (Or.inr hg), if_neg h2])
        clear h1 h2 HX hg
        go_enter Tryz.func23, Tryz.ntmps23
        go_wp2_with fail
        ((with_reducible refine (HE.out _).mono ?_))
        rintro e w1 ⟨rfl, b1⟩
        have hz1 := b1.size
        go_wp2_with fail
        ((with_reducible refine (HA.out _).mono ?_))
        rintro e w2 ⟨rfl, b2⟩
        have hz2 := b2.size
        go_wp2_with fail
        ((with_reducible refine (HT.out _).mono ?_))
        rintro e w3 ⟨rfl, b3⟩
        go_wp2_with fail
        go_ret
        exact ⟨ret_str (by rw [HF.out, ← mk_app, ← mk_app, ← mk_app, ← mk_app, ← mk_app]; rfl), b1.trans ((b2.trans (b3.mono hz2)).mono hz1)⟩
end Go.Proofs.YthfienjmigidbaaGreatDoor
namespace Go.Pub
/-- Without the leading spaces. -/
def triL (l : List UInt8) : List UInt8 := Lib.trimLeftB l 32
theorem triL_cons (c : UInt8) (l : List UInt8) : triL (c :: l) = if c = 32 then triL l else c :: l := by
  unfold triL Lib.trimLeftB
  by_cases h : c = 32 <;> simp [h]
theorem triL_len (l : List UInt8) : (triL l).length ≤ l.length := by
  induction l with
  | nil => simp [triL, Lib.trimLeftB]
  | cons c l ih => rw [triL_cons]; split <;> simp <;> omega
def triB (s : ByteArray) : ByteArray := mk (triL (bytesL s))
theorem triB_size (s : ByteArray) : (triB s).size ≤ s.size := by
  unfold triB; rw [mk_size, ← bytesL_length s]; exact triL_len _
/-- The part of a definition behind its label. -/
def defB (lab : List UInt8) (r : ByteArray) : Option (List UInt8 × List UInt8 × List UInt8) :=
  (destR r 0).bind fun d =>
    if (triB (r.extract d.2 r.size)).size = 0 then some (lab, d.1, [])
    else if (triB (r.extract d.2 r.size)).size = r.size - d.2 then none
    else (titleR (triB (r.extract d.2 r.size)) 0).bind fun t =>
      if (triB ((triB (r.extract d.2 r.size)).extract t.2 (triB (r.extract d.2 r.size)).size)).size = 0 then some (lab, d.1, t.1) else none
def defR (s : ByteArray) : Option (List UInt8 × List UInt8 × List UInt8) :=
  if 3 < s.size - (triB s).size then none else
  (brackR (triB s) 0).bind fun b =>
    if b.2 < (triB s).size ∧ bt (triB s) b.2 = 58 then defB b.1 (triB ((triB s).extract (b.2 + 1) (triB s).size)) else none
theorem brackR_le {s : ByteArray} {i : Nat} {r : List UInt8 × Nat} (h : brackR s i = some r) : i + 1 < r.2 ∧ r.2 ≤ s.size := by
  unfold brackR at h
  split at h
  · split at h
    · rename_i h1 h2
      simp only [Option.some.injEq] at h
      subst h
      have := h2.1
      rw [sfx_len] at this
      have h3 := h1.1
      exact ⟨by show i + 1 < i + brk _ + 2; omega, by show i + brk _ + 2 ≤ _; omega⟩
    · simp at h
  · simp at h
end Go.Pub
namespace Go.Proofs.YthfienjmigidbaaGreatDoor
open Go.RowKit Go.Pub

theorem trim_any (s : ByteArray) (w : World) : Calls Tryz.prog 59 #[.string s, .string ⟨#[32]⟩] w fun e w' => e = .returned (.string (triB s)) ∧ w = w' := by
  refine (Tryz.strings_TrimLeft_one s 32 (by decide) w).mono ?_
  rintro e w' ⟨rfl, rfl⟩
  exact ⟨rfl, rfl⟩

def defVal : Option (List UInt8 × List UInt8 × List UInt8) → Value
  | none => .tuple #[.string ⟨#[]⟩, .string ⟨#[]⟩, .string ⟨#[]⟩, .bool false]
  | some r => .tuple #[.string (mk r.1), .string (mk r.2.1), .string (mk r.2.2), .bool true]
def DefPost (r : Option (List UInt8 × List UInt8 × List UInt8)) (w : World) (e : Ending) (w' : World) : Prop := e = .returned (defVal r) ∧ Below w.heap.size w w'

set_option maxRecDepth 100000 in
set_option maxHeartbeats 8000000 in
theorem l_def (s : ByteArray) (w : World) (hs : s.size ≤ 1000000) : Calls Tryz.prog 18 #[.string s] w (DefPost (defR s) w) := by
  have HX : Hid (defR s = if 3 < s.size - (triB s).size then none else
    (brackR (triB s) 0).bind fun b => if b.2 < (triB s).size ∧ bt (triB s) b.2 = 58 then defB b.1 (triB ((triB s).extract (b.2 + 1) (triB s).size)) else none) := Lib.hid rfl
  have HT := Lib.hid fun W => trim_any s W
  have hC := triB_size s
  generalize defR s = R at *
  generalize triB s = C at *
  have HB : Hid (∀ W, Calls Tryz.prog 60 #[.string C, .int .i64 0] W (PartPost (brackR C 0) W)) := Lib.hid fun W => l_brack C 0 W (by omega) (by omega)
  have hble : ∀ r, brackR C 0 = some r → r.2 ≤ C.size := fun r h => (brackR_le h).2
  have HBL := Lib.hid hble
  clear hble
  generalize brackR C 0 = B at *
  by_cases h3 : 3 < s.size - C.size
  · have HF : Hid (R = none) := Lib.hid (by rw [HX.out, if_pos h3])
    have h3' : (3 : Int) < (s.size : Int) - C.size := by omega
    go_enter Tryz.func18, Tryz.ntmps18
    go_wp2_with fail
    ((with_reducible refine (HT.out _).mono ?_))
    rintro e w0 ⟨rfl, rfl⟩
    go_wp2_with fail
    exact bodyPost_ret (v := .tuple #[.string ⟨#[]⟩, .string ⟨#[]⟩, .string ⟨#[]⟩, .bool false]) (by simp [results, Tryz.results18, go_sem]) rfl ⟨by rw [HF.out]; rfl, Below.refl _ _⟩
  have h3' : (s.size : Int) - C.size ≤ 3 := by omega
  have HX2 : Hid (R = B.bind fun b => if b.2 < C.size ∧ bt C b.2 = 58 then defB b.1 (triB (C.extract (b.2 + 1) C.size)) else none) := Lib.hid (by rw [HX.out, if_neg h3])
  clear HX h3
  cases B with
  | none =>
    have HF : Hid (R = none) := Lib.hid (by rw [HX2.out]; rfl)
    go_enter Tryz.func18, Tryz.ntmps18
    go_wp2_with fail
    ((with_reducible refine (HT.out _).mono ?_))
    rintro e w0 ⟨rfl, rfl⟩
    go_wp2_with fail
    ((with_reducible refine (HB.out _).mono ?_))
    rintro e w1 ⟨rfl, b1⟩
    go_wp2_with fail
    exact bodyPost_ret (v := .tuple #[.string ⟨#[]⟩, .string ⟨#[]⟩, .string ⟨#[]⟩, .bool false]) (by simp [results, Tryz.results18, go_sem]) rfl ⟨by rw [HF.out]; rfl, b1⟩
  | some b =>
    obtain ⟨lab, n⟩ := b
    have hn := HBL.out _ rfl
    simp only at hn
    have HX3 : Hid (R = if n < C.size ∧ bt C n = 58 then defB lab (triB (C.extract (n + 1) C.size)) else none) := Lib.hid (by rw [HX2.out]; rfl)
    clear HX2 HBL
    by_cases c1 : n < C.size
    rotate_left
    · have HF : Hid (R = none) := Lib.hid (by rw [HX3.out, if_neg (fun e => c1 e.1)])
      go_enter Tryz.func18, Tryz.ntmps18
      go_wp2_with fail
      ((with_reducible refine (HT.out _).mono ?_))
      rintro e w0 ⟨rfl, rfl⟩
      go_wp2_with fail
      ((with_reducible refine (HB.out _).mono ?_))
      rintro e w1 ⟨rfl, b1⟩
      go_wp2_with fail
      exact bodyPost_ret (v := .tuple #[.string ⟨#[]⟩, .string ⟨#[]⟩, .string ⟨#[]⟩, .bool false]) (by simp [results, Tryz.results18, go_sem]) rfl ⟨by rw [HF.out]; rfl, b1⟩
    have hlt2 : ((C[n].toNat : Nat) : Int) < 256 := by rw [get_bt C n c1]; have := bt_lt C n; omega
    by_cases c2 : bt C n = 58
    rotate_left
    · have HF : Hid (R = none) := Lib.hid (by rw [HX3.out, if_neg (fun e => c2 e.2)])
      have z1 : (((C[n].toNat : Nat) : Int) != 58) = true := by rw [get_bt C n c1]; simp; omega
      clear c2
      go_enter Tryz.func18, Tryz.ntmps18
      go_wp2_with fail
      ((with_reducible refine (HT.out _).mono ?_))
      rintro e w0 ⟨rfl, rfl⟩
      go_wp2_with fail
      ((with_reducible refine (HB.out _).mono ?_))
      rintro e w1 ⟨rfl, b1⟩
      go_wp2_with fail
      exact bodyPost_ret (v := .tuple #[.string ⟨#[]⟩, .string ⟨#[]⟩, .string ⟨#[]⟩, .bool false]) (by simp [results, Tryz.results18, go_sem]) rfl ⟨by rw [HF.out]; rfl, b1⟩
    have z1 : (((C[n].toNat : Nat) : Int) != 58) = false := by rw [get_bt C n c1, c2]; rfl
    have HX4 : Hid (R = defB lab (triB (C.extract (n + 1) C.size))) := Lib.hid (by rw [HX3.out, if_pos ⟨c1, c2⟩])
    clear HX3 c2
    have HT2 := Lib.hid fun W => trim_any (C.extract (n + 1) C.size) W
    have hQ : (triB (C.extract (n + 1) C.size)).size ≤ C.size := by
      have := triB_size (C.extract (n + 1) C.size)
      rw [ByteArray.size_extract] at this
      omega
    generalize triB (C.extract (n + 1) C.size) = Q at *
    have HX5 : Hid (R = (destR Q 0).bind fun d =>
      if (triB (Q.extract d.2 Q.size)).size = 0 then some (lab, d.1, [])
      else if (triB (Q.extract d.2 Q.size)).size = Q.size - d.2 then none
      else (titleR (triB (Q.extract d.2 Q.size)) 0).bind fun t =>
        if (triB ((triB (Q.extract d.2 Q.size)).extract t.2 (triB (Q.extract d.2 Q.size)).size)).size = 0 then some (lab, d.1, t.1) else none) := Lib.hid (by rw [HX4.out]; rfl)
    clear HX4
    have HD := Lib.hid fun W => l_dest Q 0 W (by omega)
    have hle : ∀ r, destR Q 0 = some r → r.2 ≤ Q.size := fun r hr => (destR_le hr).2.1
    have HLE := Lib.hid hle
    clear hle
    generalize destR Q 0 = D at *
    cases D with
    | none =>
      have HF : Hid (R = none) := Lib.hid (by rw [HX5.out]; rfl)
      go_enter Tryz.func18, Tryz.ntmps18
      go_wp2_with fail
      ((with_reducible refine (HT.out _).mono ?_))
      rintro e w0 ⟨rfl, rfl⟩
      go_wp2_with fail
      ((with_reducible refine (HB.out _).mono ?_))
      rintro e w1 ⟨rfl, b1⟩
      go_wp2_with fail
      ((with_reducible refine (HT2.out _).mono ?_))
      rintro e w0 ⟨rfl, rfl⟩
      go_wp2_with fail
      ((with_reducible refine (HD.out _).mono ?_))
      rintro e w2 ⟨rfl, b2⟩
      go_wp2_with fail
      exact bodyPost_ret (v := .tuple #[.string ⟨#[]⟩, .string ⟨#[]⟩, .string ⟨#[]⟩, .bool false]) (by simp [results, Tryz.results18, go_sem]) rfl ⟨by rw [HF.out]; rfl, b1.trans (b2.mono b1.size)⟩
    | some d =>
      obtain ⟨dst, m⟩ := d
      have hm := HLE.out _ rfl
      simp only at hm
      have HX6 : Hid (R = if (triB (Q.extract m Q.size)).size = 0 then some (lab, dst, [])
        else if (triB (Q.extract m Q.size)).size = Q.size - m then none
        else (titleR (triB (Q.extract m Q.size)) 0).bind fun t =>
          if (triB ((triB (Q.extract m Q.size)).extract t.2 (triB (Q.extract m Q.size)).size)).size = 0 then some (lab, dst, t.1) else none) := Lib.hid (by rw [HX5.out]; rfl)
      clear HX5 HLE
      have HT3 := Lib.hid fun W => trim_any (Q.extract m Q.size) W
      have hA : (triB (Q.extract m Q.size)).size ≤ Q.size - m := by
        have := triB_size (Q.extract m Q.size)
        rw [ByteArray.size_extract] at this
        omega
      generalize triB (Q.extract m Q.size) = A at *
      by_cases c3 : A.size = 0
      · have HF : Hid (R = some (lab, dst, [])) := Lib.hid (by rw [HX6.out, if_pos c3])
        obtain ⟨x1, x2⟩ := nil_list A ((size_nil A).1 c3)
        clear c3
        go_enter Tryz.func18, Tryz.ntmps18
        go_wp2_with fail
        ((with_reducible refine (HT.out _).mono ?_))
        rintro e w0 ⟨rfl, rfl⟩
        go_wp2_with fail
        ((with_reducible refine (HB.out _).mono ?_))
        rintro e w1 ⟨rfl, b1⟩
        go_wp2_with fail
        ((with_reducible refine (HT2.out _).mono ?_))
        rintro e w0 ⟨rfl, rfl⟩
        go_wp2_with fail
        ((with_reducible refine (HD.out _).mono ?_))
        rintro e w2 ⟨rfl, b2⟩
        go_wp2_with fail
        ((with_reducible refine (HT3.out _).mono ?_))
        rintro e w0 ⟨rfl, rfl⟩
        go_wp2_with fail
        exact bodyPost_ret (v := .tuple #[.string (mk lab), .string (mk dst), .string ⟨#[]⟩, .bool true]) (by simp [results, Tryz.results18, go_sem]) rfl ⟨by rw [HF.out]; rfl, b1.trans (b2.mono b1.size)⟩
      obtain ⟨x1, x2⟩ := cons_list A (fun e => c3 ((size_nil A).2 e))
      by_cases c4 : A.size = Q.size - m
      · have HF : Hid (R = none) := Lib.hid (by rw [HX6.out, if_neg c3, if_pos c4])
        have y1 : ((A.size : Int) == (Q.size : Int) - m) = true := by rw [beq_iff_eq]; omega
        clear c3 c4
        go_enter Tryz.func18, Tryz.ntmps18
        go_wp2_with fail
        ((with_reducible refine (HT.out _).mono ?_))
        rintro e w0 ⟨rfl, rfl⟩
        go_wp2_with fail
        ((with_reducible refine (HB.out _).mono ?_))
        rintro e w1 ⟨rfl, b1⟩
        go_wp2_with fail
        ((with_reducible refine (HT2.out _).mono ?_))
        rintro e w0 ⟨rfl, rfl⟩
        go_wp2_with fail
        ((with_reducible refine (HD.out _).mono ?_))
        rintro e w2 ⟨rfl, b2⟩
        go_wp2_with fail
        ((with_reducible refine (HT3.out _).mono ?_))
        rintro e w0 ⟨rfl, rfl⟩
        go_wp2_with fail
        exact bodyPost_ret (v := .tuple #[.string ⟨#[]⟩, .string ⟨#[]⟩, .string ⟨#[]⟩, .bool false]) (by simp [results, Tryz.results18, go_sem]) rfl ⟨by rw [HF.out]; rfl, b1.trans (b2.mono b1.size)⟩
      have y1 : ((A.size : Int) == (Q.size : Int) - m) = false := by rw [beq_eq_false_iff_ne]; omega
      have HX7 : Hid (R = (titleR A 0).bind fun t => if (triB (A.extract t.2 A.size)).size = 0 then some (lab, dst, t.1) else none) := Lib.hid (by rw [HX6.out, if_neg c3, if_neg c4])
      clear HX6 c3 c4
      have HTi := Lib.hid fun W => l_title A 0 W (by omega)
      have hle : ∀ r, titleR A 0 = some r → r.2 ≤ A.size := fun r hr => (titleR_le hr).2.1
      have HLE := Lib.hid hle
      clear hle
      generalize titleR A 0 = T at *
      cases T with
      | none =>
        have HF : Hid (R = none) := Lib.hid (by rw [HX7.out]; rfl)
        go_enter Tryz.func18, Tryz.ntmps18
        go_wp2_with fail
        ((with_reducible refine (HT.out _).mono ?_))
        rintro e w0 ⟨rfl, rfl⟩
        go_wp2_with fail
        ((with_reducible refine (HB.out _).mono ?_))
        rintro e w1 ⟨rfl, b1⟩
        go_wp2_with fail
        ((with_reducible refine (HT2.out _).mono ?_))
        rintro e w0 ⟨rfl, rfl⟩
        go_wp2_with fail
        ((with_reducible refine (HD.out _).mono ?_))
        rintro e w2 ⟨rfl, b2⟩
        go_wp2_with fail
        ((with_reducible refine (HT3.out _).mono ?_))
        rintro e w0 ⟨rfl, rfl⟩
        go_wp2_with fail
        ((with_reducible refine (HTi.out _).mono ?_))
        rintro e w3 ⟨rfl, b3⟩
        go_wp2_with fail
        exact bodyPost_ret (v := .tuple #[.string ⟨#[]⟩, .string ⟨#[]⟩, .string ⟨#[]⟩, .bool false]) (by simp [results, Tryz.results18, go_sem]) rfl ⟨by rw [HF.out]; rfl, b1.trans ((b2.trans (b3.mono b2.size)).mono b1.size)⟩
      | some d =>
        obtain ⟨ttl, q⟩ := d
        have hq := HLE.out _ rfl
        simp only at hq
        have HX8 : Hid (R = if (triB (A.extract q A.size)).size = 0 then some (lab, dst, ttl) else none) := Lib.hid (by rw [HX7.out]; rfl)
        clear HX7 HLE
        have HT4 := Lib.hid fun W => trim_any (A.extract q A.size) W
        generalize triB (A.extract q A.size) = Z at *
        by_cases c5 : Z.size = 0
        · have HF : Hid (R = some (lab, dst, ttl)) := Lib.hid (by rw [HX8.out, if_pos c5])
          obtain ⟨x3, x4⟩ := nil_list Z ((size_nil Z).1 c5)
          clear c5
          go_enter Tryz.func18, Tryz.ntmps18
          go_wp2_with fail
          ((with_reducible refine (HT.out _).mono ?_))
          rintro e w0 ⟨rfl, rfl⟩
          go_wp2_with fail
          ((with_reducible refine (HB.out _).mono ?_))
          rintro e w1 ⟨rfl, b1⟩
          go_wp2_with fail
          ((with_reducible refine (HT2.out _).mono ?_))
          rintro e w0 ⟨rfl, rfl⟩
          go_wp2_with fail
          ((with_reducible refine (HD.out _).mono ?_))
          rintro e w2 ⟨rfl, b2⟩
          go_wp2_with fail
          ((with_reducible refine (HT3.out _).mono ?_))
          rintro e w0 ⟨rfl, rfl⟩
          go_wp2_with fail
          ((with_reducible refine (HTi.out _).mono ?_))
          rintro e w3 ⟨rfl, b3⟩
          go_wp2_with fail
          ((with_reducible refine (HT4.out _).mono ?_))
          rintro e w0 ⟨rfl, rfl⟩
          go_wp2_with fail
          exact bodyPost_ret (v := .tuple #[.string (mk lab), .string (mk dst), .string (mk ttl), .bool true]) (by simp [results, Tryz.results18, go_sem]) rfl ⟨by rw [HF.out]; rfl, b1.trans ((b2.trans (b3.mono b2.size)).mono b1.size)⟩
        · have HF : Hid (R = none) := Lib.hid (by rw [HX8.out, if_neg c5])
          obtain ⟨x3, x4⟩ := cons_list Z (fun e => c5 ((size_nil Z).2 e))
          clear c5
          go_enter Tryz.func18, Tryz.ntmps18
          go_wp2_with fail
          ((with_reducible refine (HT.out _).mono ?_))
          rintro e w0 ⟨rfl, rfl⟩
          go_wp2_with fail
          ((with_reducible refine (HB.out _).mono ?_))
          rintro e w1 ⟨rfl, b1⟩
          go_wp2_with fail
          ((with_reducible refine (HT2.out _).mono ?_))
          rintro e w0 ⟨rfl, rfl⟩
          go_wp2_with fail
          ((with_reducible refine (HD.out _).mono ?_))
          rintro e w2 ⟨rfl, b2⟩
          go_wp2_with fail
          ((with_reducible refine (HT3.out _).mono ?_))
          rintro e w0 ⟨rfl, rfl⟩
          go_wp2_with fail
          ((with_reducible refine (HTi.out _).mono ?_))
          rintro e w3 ⟨rfl, b3⟩
          go_wp2_with fail
          ((with_reducible refine (HT4.out _).mono ?_))
          rintro e w0 ⟨rfl, rfl⟩
          go_wp2_with fail
          exact bodyPost_ret (v := .tuple #[.string ⟨#[]⟩, .string ⟨#[]⟩, .string ⟨#[]⟩, .bool false]) (by simp [results, Tryz.results18, go_sem]) rfl ⟨by rw [HF.out]; rfl, b1.trans ((b2.trans (b3.mono b2.size)).mono b1.size)⟩
end Go.Proofs.YthfienjmigidbaaGreatDoor
