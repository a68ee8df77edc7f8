/-
  link.escape, link.Inside.
-/
import Derived.Test.YtepeaenbjgbnfaaDoorAnyB
import Derived.Test.YtepeaenbjgbnfaaDoorLinkA
set_option linter.unusedVariables false
set_option linter.unusedSimpArgs false
namespace Go.Pub
/-- The characters that mean something in links. -/
def specB (b : Nat) : Bool := ([92, 96, 36, 123, 60, 62, 91, 93, 40, 41, 34] : List Nat).contains b
def escS1 (b : UInt8) : List UInt8 := if specB b.toNat then [92, b] else [b]
def escS (l : List UInt8) : List UInt8 := l.flatMap escS1
/-- What stands inside the parentheses. -/
def insideL (d t : List UInt8) : List UInt8 :=
  if d = [] ∧ t = [] then [] else
    (if d = [] ∨ gapB d = true then [60] ++ escS d ++ [62] else escS d) ++ (if t = [] then [] else [32, 34] ++ escS t ++ [34])
theorem escS_end (s : ByteArray) (k : Nat) (h : s.size ≤ k) : escS (sfx s k) = [] := by rw [sfx_nil s k h]; rfl
theorem escS_step (s : ByteArray) (k : Nat) (h : k < s.size) : escS (sfx s k) = escS1 (s.get! k) ++ escS (sfx s (k + 1)) := by
  rw [sfx_cons s k h]; rfl
theorem escS_len (l : List UInt8) : (escS l).length ≤ 2 * l.length := by
  induction l with
  | nil => exact Nat.le_refl _
  | cons b l ih =>
    unfold escS at ih ⊢
    rw [List.flatMap_cons, List.length_append, List.length_cons]
    have : (escS1 b).length ≤ 2 := by unfold escS1; split <;> simp
    omega
theorem spec_ways (s : ByteArray) (k : Nat) (h : k < s.size) (hy : specB (bt s k) = true) : (((s[k].toNat : Nat) : Int) == 92) = true ∨ ((((s[k].toNat : Nat) : Int) == 92) = false ∧ ((((s[k].toNat : Nat) : Int) == 96) = true ∨ ((((s[k].toNat : Nat) : Int) == 96) = false ∧ ((((s[k].toNat : Nat) : Int) == 36) = true ∨ ((((s[k].toNat : Nat) : Int) == 36) = false ∧ ((((s[k].toNat : Nat) : Int) == 123) = true ∨ ((((s[k].toNat : Nat) : Int) == 123) = false ∧ ((((s[k].toNat : Nat) : Int) == 60) = true ∨ ((((s[k].toNat : Nat) : Int) == 60) = false ∧ ((((s[k].toNat : Nat) : Int) == 62) = true ∨ ((((s[k].toNat : Nat) : Int) == 62) = false ∧ ((((s[k].toNat : Nat) : Int) == 91) = true ∨ ((((s[k].toNat : Nat) : Int) == 91) = false ∧ ((((s[k].toNat : Nat) : Int) == 93) = true ∨ ((((s[k].toNat : Nat) : Int) == 93) = false ∧ ((((s[k].toNat : Nat) : Int) == 40) = true ∨ ((((s[k].toNat : Nat) : Int) == 40) = false ∧ ((((s[k].toNat : Nat) : Int) == 41) = true ∨ ((((s[k].toNat : Nat) : Int) == 41) = false ∧ ((((s[k].toNat : Nat) : Int) == 34) = true)))))))))))))))))))) := by
  simp only [specB, List.contains_cons, List.contains_nil, Bool.or_false, Bool.or_eq_true, beq_iff_eq] at hy
  rw [get_bt s k h]
  by_cases c0 : bt s k = 92
  · left; rw [c0]; rfl
  · right; refine ⟨by rw [beq_eq_false_iff_ne]; omega, ?_⟩
    by_cases c1 : bt s k = 96
    · left; rw [c1]; rfl
    · right; refine ⟨by rw [beq_eq_false_iff_ne]; omega, ?_⟩
      by_cases c2 : bt s k = 36
      · left; rw [c2]; rfl
      · right; refine ⟨by rw [beq_eq_false_iff_ne]; omega, ?_⟩
        by_cases c3 : bt s k = 123
        · left; rw [c3]; rfl
        · right; refine ⟨by rw [beq_eq_false_iff_ne]; omega, ?_⟩
          by_cases c4 : bt s k = 60
          · left; rw [c4]; rfl
          · right; refine ⟨by rw [beq_eq_false_iff_ne]; omega, ?_⟩
            by_cases c5 : bt s k = 62
            · left; rw [c5]; rfl
            · right; refine ⟨by rw [beq_eq_false_iff_ne]; omega, ?_⟩
              by_cases c6 : bt s k = 91
              · left; rw [c6]; rfl
              · right; refine ⟨by rw [beq_eq_false_iff_ne]; omega, ?_⟩
                by_cases c7 : bt s k = 93
                · left; rw [c7]; rfl
                · right; refine ⟨by rw [beq_eq_false_iff_ne]; omega, ?_⟩
                  by_cases c8 : bt s k = 40
                  · left; rw [c8]; rfl
                  · right; refine ⟨by rw [beq_eq_false_iff_ne]; omega, ?_⟩
                    by_cases c9 : bt s k = 41
                    · left; rw [c9]; rfl
                    · right; refine ⟨by rw [beq_eq_false_iff_ne]; omega, ?_⟩
                      rw [show bt s k = 34 by omega]; rfl
theorem spec_not (s : ByteArray) (k : Nat) (h : k < s.size) (hy : specB (bt s k) = false) : (((s[k].toNat : Nat) : Int) == 92) = false ∧ (((s[k].toNat : Nat) : Int) == 96) = false ∧ (((s[k].toNat : Nat) : Int) == 36) = false ∧ (((s[k].toNat : Nat) : Int) == 123) = false ∧ (((s[k].toNat : Nat) : Int) == 60) = false ∧ (((s[k].toNat : Nat) : Int) == 62) = false ∧ (((s[k].toNat : Nat) : Int) == 91) = false ∧ (((s[k].toNat : Nat) : Int) == 93) = false ∧ (((s[k].toNat : Nat) : Int) == 40) = false ∧ (((s[k].toNat : Nat) : Int) == 41) = false ∧ (((s[k].toNat : Nat) : Int) == 34) = false := by
  simp only [specB, List.contains_cons, List.contains_nil, Bool.or_false, Bool.or_eq_false_iff, beq_eq_false_iff_ne] at hy
  rw [get_bt s k h]
  simp only [beq_eq_false_iff_ne]
  omega
end Go.Pub
namespace Go.Proofs.YtepeaenbjgbnfaaDoor
open Go.RowKit Go.Pub

def EsRel (s : ByteArray) (R : List UInt8) (w : World) (i : Value) (wr : World) : Prop :=
  ∃ (k : Nat) (acc : List UInt8), i = .int .i64 k ∧ k ≤ s.size ∧ Lib.IsBuilderF 49 5 w.heap.size w.heap.size (Lib.byteCells acc) wr ∧ Below w.heap.size w wr ∧ Hid (acc ++ escS (sfx s k) = R) ∧ acc.length ≤ 2 * k ∧ w.heap.size < wr.heap.size

set_option maxRecDepth 100000 in
set_option maxHeartbeats 8000000 in
theorem l_escape (s : ByteArray) (w : World) (hs : s.size ≤ 1000000) : Calls Tryd.prog 29 #[.string s] w fun e w' => e = .returned (.string (mk (escS (bytesL s)))) ∧ Below w.heap.size w w' := by
  have HX : Hid (escS (sfx s 0) = escS (bytesL s)) := Lib.hid rfl
  generalize escS (bytesL s) = R at *
  go_enter Tryd.func29, Tryd.ntmps29
  go_wp2
  go_loopw [7] (fun v wr => EsRel s R w v wr) (fun v _ => s.size - (intOf v).toNat)
  case atStart => exact ⟨0, [], rfl, by omega, Lib.IsBuilderF.of (Lib.fresh_isBuilder 49 5 w), (Below.refl _ w).alloc (Nat.le_refl _) _, HX, by simp, by simp⟩
  case round =>
    obtain ⟨k, acc, rfl, hk, hI, hbw, Hacc, hal, hsz⟩ := hrel
    by_cases hlt : k < s.size
    · have hlt2 : ((s[k].toNat : Nat) : Int) < 256 := by rw [get_bt s k hlt]; have := bt_lt s k; omega
      have hbi := Lib.hid (bt_int s k hlt)
      have hst := Lib.hid (escS_step s k hlt)
      cases hsp : specB (bt s k)
      · have hy : Hid (escS1 (s.get! k) = [s.get! k]) := Lib.hid (by unfold escS1; exact if_neg (by show ¬ specB (bt s k) = true; rw [hsp]; simp))
        obtain ⟨z0, z1, z2, z3, z4, z5, z6, z7, z8, z9, z10⟩ := spec_not s k hlt hsp
        clear hsp
        go_wp2_with fail
        refine (writeByte_k w.heap.size w.heap.size _ _ _ hI (by rw [Lib.byteCells_length]; omega) (by omega)).mono ?_
        rintro e W1 ⟨rfl, h1, b1, _⟩
        have hz1 := b1.size
        go_wp2
        go_roundw
        case rel =>
          refine ⟨k + 1, acc ++ [s.get! k], by go_num, by omega, by rw [Lib.byteCells_append, byteCell1, ← hbi.out]; exact Or.inr h1, hbw.trans b1, Lib.hid (by rw [← Hacc.out, hst.out, hy.out]; simp), by simp; omega, by omega⟩
        case measure => simp [intOf]; omega
      · have hy : Hid (escS1 (s.get! k) = [92, s.get! k]) := Lib.hid (by unfold escS1; exact if_pos (by show specB (bt s k) = true; rw [hsp]))
        have hw := spec_ways s k hlt hsp
        clear hsp
        rcases hw with z0 | ⟨z0, z1 | ⟨z1, z2 | ⟨z2, z3 | ⟨z3, z4 | ⟨z4, z5 | ⟨z5, z6 | ⟨z6, z7 | ⟨z7, z8 | ⟨z8, z9 | ⟨z9, z10⟩⟩⟩⟩⟩⟩⟩⟩⟩⟩
        all_goals
          go_wp2_with fail
          refine (writeByte_k w.heap.size w.heap.size _ _ _ hI (by rw [Lib.byteCells_length]; omega) (by omega)).mono ?_
          rintro e W1 ⟨rfl, h1, b1, _⟩
          have hz1 := b1.size
          go_wp2_with fail
          refine (writeByte_k w.heap.size w.heap.size _ _ _ (Or.inr h1) (by rw [List.length_append, Lib.byteCells_length]; simp; omega) (by omega)).mono ?_
          rintro e W2 ⟨rfl, h2, b2, _⟩
          have hz2 := b2.size
          go_wp2
          go_roundw
          case rel =>
            refine ⟨k + 1, acc ++ [92, s.get! k], by go_num, by omega, ?_, (hbw.trans b1).trans b2, Lib.hid (by rw [← Hacc.out, hst.out, hy.out]; simp), by simp; omega, by omega⟩
            have e1 : Lib.byteCells (acc ++ [92, s.get! k]) = Lib.byteCells acc ++ [.int .u8 92] ++ [.int .u8 (bt s k)] := by
              rw [Lib.byteCells_append, List.append_assoc]; rfl
            rw [e1, ← hbi.out]; exact Or.inr h2
          case measure => simp [intOf]; omega
    · have HR : Hid (acc = R) := Lib.hid (by rw [← Hacc.out, escS_end s k (by omega), List.append_nil])
      go_wp2_with fail
      refine (Tryd.Builder_String_any_k w.heap.size w.heap.size acc _ hI (by omega)).mono ?_
      rintro e W1 ⟨rfl, h1, b1, _⟩
      go_wp2
      go_ret
      exact ⟨ret_str (by rw [HR.out]; rfl), hbw.trans b1⟩

theorem mk_app (a b : List UInt8) : mk a ++ mk b = mk (a ++ b) := by
  apply ByteArray.ext
  simp [mk, ByteArray.data_append]
theorem nil_list (s : ByteArray) (h : bytesL s = []) : s.toList = [] ∧ s.toList.isEmpty = true := by
  have e : s = ⟨#[]⟩ := by rw [← mk_bytesL s, h]; rfl
  subst e
  exact ⟨by rw [Lib.toList_data], by rw [Lib.toList_data]; rfl⟩
theorem cons_list (s : ByteArray) (h : bytesL s ≠ []) : s.toList ≠ [] ∧ s.toList.isEmpty = false := by
  have e : s.toList = bytesL s := Lib.toList_data s
  rw [e]
  refine ⟨h, ?_⟩
  cases hb : bytesL s with
  | nil => exact absurd hb h
  | cons a l => rfl

set_option maxRecDepth 100000 in
set_option maxHeartbeats 4000000 in
theorem l_inside (d t : ByteArray) (w : World) (hd : d.size ≤ 1000000) (ht : t.size ≤ 1000000) : Calls Tryd.prog 14 #[.string d, .string t] w fun e w' => e = .returned (.string (mk (insideL (bytesL d) (bytesL t)))) ∧ Below w.heap.size w w' := by
  have HX : Hid (insideL (bytesL d) (bytesL t) = if bytesL d = [] ∧ bytesL t = [] then [] else
    (if bytesL d = [] ∨ gapB (bytesL d) = true then [60] ++ escS (bytesL d) ++ [62] else escS (bytesL d)) ++ (if bytesL t = [] then [] else [32, 34] ++ escS (bytesL t) ++ [34])) := Lib.hid rfl
  have HE := Lib.hid fun W => l_escape d W hd
  have HT := Lib.hid fun W => l_escape t W ht
  have HA := Lib.hid fun W => containsAny2 d W hd
  have hs1 : (mk (escS (bytesL d))).size ≤ 2000000 := by rw [mk_size]; have := escS_len (bytesL d); rw [bytesL_length] at this; omega
  have hs2 : (mk (escS (bytesL t))).size ≤ 2000000 := by rw [mk_size]; have := escS_len (bytesL t); rw [bytesL_length] at this; omega
  generalize insideL (bytesL d) (bytesL t) = R at *
  generalize escS (bytesL d) = E at *
  generalize escS (bytesL t) = F at *
  by_cases h1 : bytesL d = []
  · obtain ⟨x1, x2⟩ := nil_list d h1
    by_cases h2 : bytesL t = []
    · obtain ⟨y1, y2⟩ := nil_list t h2
      have HF : Hid (R = []) := Lib.hid (by rw [HX.out, if_pos ⟨h1, h2⟩])
      clear h1 h2 HX
      go_enter Tryd.func14, Tryd.ntmps14
      go_wp2_with fail
      go_ret
      exact ⟨ret_str (by rw [HF.out]; rfl), Below.refl _ _⟩
    · obtain ⟨y1, y2⟩ := cons_list t h2
      have HF : Hid (R = ([60] ++ E ++ [62]) ++ ([32, 34] ++ F ++ [34])) := Lib.hid (by rw [HX.out, if_neg (fun e => h2 e.2), if_pos (Or.inl h1), if_neg h2])
      clear h1 h2 HX
      go_enter Tryd.func14, Tryd.ntmps14
      go_wp2_with fail
      ((with_reducible refine (HE.out _).mono ?_))
      rintro e w1 ⟨rfl, b1⟩
      have hz1 := b1.size
      go_wp2_with fail
      ((with_reducible refine (HT.out _).mono ?_))
      rintro e w2 ⟨rfl, b2⟩
      go_wp2_with fail
      go_ret
      exact ⟨ret_str (by rw [HF.out, ← mk_app, ← mk_app, ← mk_app, ← mk_app, ← mk_app]; rfl), b1.trans (b2.mono hz1)⟩
  · obtain ⟨x1, x2⟩ := cons_list d h1
    cases hg : gapB (bytesL d)
    · rw [hg] at HA
      by_cases h2 : bytesL t = []
      · obtain ⟨y1, y2⟩ := nil_list t h2
        have HF : Hid (R = E) := Lib.hid (by rw [HX.out, if_neg (fun e => h1 e.1), if_neg (by rintro (e | e); exact h1 e; rw [hg] at e; cases e), if_pos h2, List.append_nil])
        clear h1 h2 HX hg
        go_enter Tryd.func14, Tryd.ntmps14
        go_wp2_with fail
        ((with_reducible refine (HE.out _).mono ?_))
        rintro e w1 ⟨rfl, b1⟩
        have hz1 := b1.size
        go_wp2_with fail
        ((with_reducible refine (HA.out _).mono ?_))
        rintro e w2 ⟨rfl, b2⟩
        go_wp2_with fail
        go_ret
        exact ⟨ret_str (by rw [HF.out]), b1.trans (b2.mono hz1)⟩
      · obtain ⟨y1, y2⟩ := cons_list t h2
        have HF : Hid (R = E ++ ([32, 34] ++ F ++ [34])) := Lib.hid (by rw [HX.out, if_neg (fun e => h1 e.1), if_neg (by rintro (e | e); exact h1 e; rw [hg] at e; cases e), if_neg h2])
        clear h1 h2 HX hg
        go_enter Tryd.func14, Tryd.ntmps14
        go_wp2_with fail
        ((with_reducible refine (HE.out _).mono ?_))
        rintro e w1 ⟨rfl, b1⟩
        have hz1 := b1.size
        go_wp2_with fail
        ((with_reducible refine (HA.out _).mono ?_))
        rintro e w2 ⟨rfl, b2⟩
        have hz2 := b2.size
        go_wp2_with fail
        ((with_reducible refine (HT.out _).mono ?_))
        rintro e w3 ⟨rfl, b3⟩
        go_wp2_with fail
        go_ret
        exact ⟨ret_str (by rw [HF.out, ← mk_app, ← mk_app, ← mk_app]; rfl), b1.trans ((b2.trans (b3.mono hz2)).mono hz1)⟩
    · rw [hg] at HA
      by_cases h2 : bytesL t = []
      · obtain ⟨y1, y2⟩ := nil_list t h2
        have HF : Hid (R = [60] ++ E ++ [62]) := Lib.hid (by rw [HX.out, if_neg (fun e => h1 e.1), if_pos (Or.inr hg), if_pos h2, List.append_nil])
        clear h1 h2 HX hg
        go_enter Tryd.func14, Tryd.ntmps14
        go_wp2_with fail
        ((with_reducible refine (HE.out _).mono ?_))
        rintro e w1 ⟨rfl, b1⟩
        have hz1 := b1.size
        go_wp2_with fail
        ((with_reducible refine (HA.out _).mono ?_))
        rintro e w2 ⟨rfl, b2⟩
        go_wp2_with fail
        go_ret
        exact ⟨ret_str (by rw [HF.out, ← mk_app, ← mk_app]; rfl), b1.trans (b2.mono hz1)⟩
      · obtain ⟨y1, y2⟩ := cons_list t h2
        have HF : Hid (R = ([60] ++ E ++ [62]) ++ ([32, 34] ++ F ++ [34])) := Lib.hid (by rw [HX.out, if_neg (fun e => h1 e.1), if_pos (Or.inr hg), if_neg h2])
        clear h1 h2 HX hg
        go_enter Tryd.func14, Tryd.ntmps14
        go_wp2_with fail
        ((with_reducible refine (HE.out _).mono ?_))
        rintro e w1 ⟨rfl, b1⟩
        have hz1 := b1.size
        go_wp2_with fail
        ((with_reducible refine (HA.out _).mono ?_))
        rintro e w2 ⟨rfl, b2⟩
        have hz2 := b2.size
        go_wp2_with fail
        ((with_reducible refine (HT.out _).mono ?_))
        rintro e w3 ⟨rfl, b3⟩
        go_wp2_with fail
        go_ret
        exact ⟨ret_str (by rw [HF.out, ← mk_app, ← mk_app, ← mk_app, ← mk_app, ← mk_app]; rfl), b1.trans ((b2.trans (b3.mono hz2)).mono hz1)⟩
end Go.Proofs.YtepeaenbjgbnfaaDoor
