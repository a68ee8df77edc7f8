/-
  link.Def.
-/
import Derived.Test.YtepeaenbjgbnfaaDoorLinkG
import Derived.Test.YtepeaenbjgbnfaaDoorLinkK
set_option linter.unusedVariables false
set_option linter.unusedSimpArgs false
namespace Go.Pub
/-- Without the leading spaces. -/
def triL (l : List UInt8) : List UInt8 := Lib.trimLeftB l 32
theorem triL_cons (c : UInt8) (l : List UInt8) : triL (c :: l) = if c = 32 then triL l else c :: l := by
  unfold triL Lib.trimLeftB
  by_cases h : c = 32 <;> simp [h]
theorem triL_len (l : List UInt8) : (triL l).length ≤ l.length := by
  induction l with
  | nil => simp [triL, Lib.trimLeftB]
  | cons c l ih => rw [triL_cons]; split <;> simp <;> omega
def triB (s : ByteArray) : ByteArray := mk (triL (bytesL s))
theorem triB_size (s : ByteArray) : (triB s).size ≤ s.size := by
  unfold triB; rw [mk_size, ← bytesL_length s]; exact triL_len _
/-- The part of a definition behind its label. -/
def defB (lab : List UInt8) (r : ByteArray) : Option (List UInt8 × List UInt8 × List UInt8) :=
  (destR r 0).bind fun d =>
    if (triB (r.extract d.2 r.size)).size = 0 then some (lab, d.1, [])
    else if (triB (r.extract d.2 r.size)).size = r.size - d.2 then none
    else (titleR (triB (r.extract d.2 r.size)) 0).bind fun t =>
      if (triB ((triB (r.extract d.2 r.size)).extract t.2 (triB (r.extract d.2 r.size)).size)).size = 0 then some (lab, d.1, t.1) else none
def defR (s : ByteArray) : Option (List UInt8 × List UInt8 × List UInt8) :=
  if 3 < s.size - (triB s).size then none else
  (brackR (triB s) 0).bind fun b =>
    if b.2 < (triB s).size ∧ bt (triB s) b.2 = 58 then defB b.1 (triB ((triB s).extract (b.2 + 1) (triB s).size)) else none
theorem size_nil (s : ByteArray) : s.size = 0 ↔ bytesL s = [] := by
  rw [← bytesL_length s]; exact List.length_eq_zero_iff
theorem brackR_le {s : ByteArray} {i : Nat} {r : List UInt8 × Nat} (h : brackR s i = some r) : i + 1 < r.2 ∧ r.2 ≤ s.size := by
  unfold brackR at h
  split at h
  · split at h
    · rename_i h1 h2
      simp only [Option.some.injEq] at h
      subst h
      have := h2.1
      rw [sfx_len] at this
      have h3 := h1.1
      exact ⟨by show i + 1 < i + brk _ + 2; omega, by show i + brk _ + 2 ≤ _; omega⟩
    · simp at h
  · simp at h
end Go.Pub
namespace Go.Proofs.YtepeaenbjgbnfaaDoor
open Go.RowKit Go.Pub

theorem trim_any (s : ByteArray) (w : World) : Calls Tryd.prog 33 #[.string s, .string ⟨#[32]⟩] w fun e w' => e = .returned (.string (triB s)) ∧ w = w' := by
  refine (Tryd.strings_TrimLeft_one s 32 (by decide) w).mono ?_
  rintro e w' ⟨rfl, rfl⟩
  exact ⟨rfl, rfl⟩

def defVal : Option (List UInt8 × List UInt8 × List UInt8) → Value
  | none => .tuple #[.string ⟨#[]⟩, .string ⟨#[]⟩, .string ⟨#[]⟩, .bool false]
  | some r => .tuple #[.string (mk r.1), .string (mk r.2.1), .string (mk r.2.2), .bool true]
def DefPost (r : Option (List UInt8 × List UInt8 × List UInt8)) (w : World) (e : Ending) (w' : World) : Prop := e = .returned (defVal r) ∧ Below w.heap.size w w'

set_option maxRecDepth 100000 in
set_option maxHeartbeats 8000000 in
theorem l_def (s : ByteArray) (w : World) (hs : s.size ≤ 1000000) : Calls Tryd.prog 17 #[.string s] w (DefPost (defR s) w) := by
  have HX : Hid (defR s = if 3 < s.size - (triB s).size then none else
    (brackR (triB s) 0).bind fun b => if b.2 < (triB s).size ∧ bt (triB s) b.2 = 58 then defB b.1 (triB ((triB s).extract (b.2 + 1) (triB s).size)) else none) := Lib.hid rfl
  have HT := Lib.hid fun W => trim_any s W
  have hC := triB_size s
  generalize defR s = R at *
  generalize triB s = C at *
  have HB : Hid (∀ W, Calls Tryd.prog 25 #[.string C, .int .i64 0] W (PartPost (brackR C 0) W)) := Lib.hid fun W => l_brack C 0 W (by omega) (by omega)
  have hble : ∀ r, brackR C 0 = some r → r.2 ≤ C.size := fun r h => (brackR_le h).2
  have HBL := Lib.hid hble
  clear hble
  generalize brackR C 0 = B at *
  by_cases h3 : 3 < s.size - C.size
  · have HF : Hid (R = none) := Lib.hid (by rw [HX.out, if_pos h3])
    have h3' : (3 : Int) < (s.size : Int) - C.size := by omega
    go_enter Tryd.func17, Tryd.ntmps17
    go_wp2_with fail
    ((with_reducible refine (HT.out _).mono ?_))
    rintro e w0 ⟨rfl, rfl⟩
    go_wp2_with fail
    exact bodyPost_ret (v := .tuple #[.string ⟨#[]⟩, .string ⟨#[]⟩, .string ⟨#[]⟩, .bool false]) (by simp [results, Tryd.results17, go_sem]) rfl ⟨by rw [HF.out]; rfl, Below.refl _ _⟩
  have h3' : (s.size : Int) - C.size ≤ 3 := by omega
  have HX2 : Hid (R = B.bind fun b => if b.2 < C.size ∧ bt C b.2 = 58 then defB b.1 (triB (C.extract (b.2 + 1) C.size)) else none) := Lib.hid (by rw [HX.out, if_neg h3])
  clear HX h3
  cases B with
  | none =>
    have HF : Hid (R = none) := Lib.hid (by rw [HX2.out]; rfl)
    go_enter Tryd.func17, Tryd.ntmps17
    go_wp2_with fail
    ((with_reducible refine (HT.out _).mono ?_))
    rintro e w0 ⟨rfl, rfl⟩
    go_wp2_with fail
    ((with_reducible refine (HB.out _).mono ?_))
    rintro e w1 ⟨rfl, b1⟩
    go_wp2_with fail
    exact bodyPost_ret (v := .tuple #[.string ⟨#[]⟩, .string ⟨#[]⟩, .string ⟨#[]⟩, .bool false]) (by simp [results, Tryd.results17, go_sem]) rfl ⟨by rw [HF.out]; rfl, b1⟩
  | some b =>
    obtain ⟨lab, n⟩ := b
    have hn := HBL.out _ rfl
    simp only at hn
    have HX3 : Hid (R = if n < C.size ∧ bt C n = 58 then defB lab (triB (C.extract (n + 1) C.size)) else none) := Lib.hid (by rw [HX2.out]; rfl)
    clear HX2 HBL
    by_cases c1 : n < C.size
    rotate_left
    · have HF : Hid (R = none) := Lib.hid (by rw [HX3.out, if_neg (fun e => c1 e.1)])
      go_enter Tryd.func17, Tryd.ntmps17
      go_wp2_with fail
      ((with_reducible refine (HT.out _).mono ?_))
      rintro e w0 ⟨rfl, rfl⟩
      go_wp2_with fail
      ((with_reducible refine (HB.out _).mono ?_))
      rintro e w1 ⟨rfl, b1⟩
      go_wp2_with fail
      exact bodyPost_ret (v := .tuple #[.string ⟨#[]⟩, .string ⟨#[]⟩, .string ⟨#[]⟩, .bool false]) (by simp [results, Tryd.results17, go_sem]) rfl ⟨by rw [HF.out]; rfl, b1⟩
    have hlt2 : ((C[n].toNat : Nat) : Int) < 256 := by rw [get_bt C n c1]; have := bt_lt C n; omega
    by_cases c2 : bt C n = 58
    rotate_left
    · have HF : Hid (R = none) := Lib.hid (by rw [HX3.out, if_neg (fun e => c2 e.2)])
      have z1 : (((C[n].toNat : Nat) : Int) != 58) = true := by rw [get_bt C n c1]; simp; omega
      clear c2
      go_enter Tryd.func17, Tryd.ntmps17
      go_wp2_with fail
      ((with_reducible refine (HT.out _).mono ?_))
      rintro e w0 ⟨rfl, rfl⟩
      go_wp2_with fail
      ((with_reducible refine (HB.out _).mono ?_))
      rintro e w1 ⟨rfl, b1⟩
      go_wp2_with fail
      exact bodyPost_ret (v := .tuple #[.string ⟨#[]⟩, .string ⟨#[]⟩, .string ⟨#[]⟩, .bool false]) (by simp [results, Tryd.results17, go_sem]) rfl ⟨by rw [HF.out]; rfl, b1⟩
    have z1 : (((C[n].toNat : Nat) : Int) != 58) = false := by rw [get_bt C n c1, c2]; rfl
    have HX4 : Hid (R = defB lab (triB (C.extract (n + 1) C.size))) := Lib.hid (by rw [HX3.out, if_pos ⟨c1, c2⟩])
    clear HX3 c2
    have HT2 := Lib.hid fun W => trim_any (C.extract (n + 1) C.size) W
    have hQ : (triB (C.extract (n + 1) C.size)).size ≤ C.size := by
      have := triB_size (C.extract (n + 1) C.size)
      rw [ByteArray.size_extract] at this
      omega
    generalize triB (C.extract (n + 1) C.size) = Q at *
    have HX5 : Hid (R = (destR Q 0).bind fun d =>
      if (triB (Q.extract d.2 Q.size)).size = 0 then some (lab, d.1, [])
      else if (triB (Q.extract d.2 Q.size)).size = Q.size - d.2 then none
      else (titleR (triB (Q.extract d.2 Q.size)) 0).bind fun t =>
        if (triB ((triB (Q.extract d.2 Q.size)).extract t.2 (triB (Q.extract d.2 Q.size)).size)).size = 0 then some (lab, d.1, t.1) else none) := Lib.hid (by rw [HX4.out]; rfl)
    clear HX4
    have HD := Lib.hid fun W => l_dest Q 0 W (by omega)
    have hle : ∀ r, destR Q 0 = some r → r.2 ≤ Q.size := fun r hr => (destR_le hr).2.1
    have HLE := Lib.hid hle
    clear hle
    generalize destR Q 0 = D at *
    cases D with
    | none =>
      have HF : Hid (R = none) := Lib.hid (by rw [HX5.out]; rfl)
      go_enter Tryd.func17, Tryd.ntmps17
      go_wp2_with fail
      ((with_reducible refine (HT.out _).mono ?_))
      rintro e w0 ⟨rfl, rfl⟩
      go_wp2_with fail
      ((with_reducible refine (HB.out _).mono ?_))
      rintro e w1 ⟨rfl, b1⟩
      go_wp2_with fail
      ((with_reducible refine (HT2.out _).mono ?_))
      rintro e w0 ⟨rfl, rfl⟩
      go_wp2_with fail
      ((with_reducible refine (HD.out _).mono ?_))
      rintro e w2 ⟨rfl, b2⟩
      go_wp2_with fail
      exact bodyPost_ret (v := .tuple #[.string ⟨#[]⟩, .string ⟨#[]⟩, .string ⟨#[]⟩, .bool false]) (by simp [results, Tryd.results17, go_sem]) rfl ⟨by rw [HF.out]; rfl, b1.trans (b2.mono b1.size)⟩
    | some d =>
      obtain ⟨dst, m⟩ := d
      have hm := HLE.out _ rfl
      simp only at hm
      have HX6 : Hid (R = if (triB (Q.extract m Q.size)).size = 0 then some (lab, dst, [])
        else if (triB (Q.extract m Q.size)).size = Q.size - m then none
        else (titleR (triB (Q.extract m Q.size)) 0).bind fun t =>
          if (triB ((triB (Q.extract m Q.size)).extract t.2 (triB (Q.extract m Q.size)).size)).size = 0 then some (lab, dst, t.1) else none) := Lib.hid (by rw [HX5.out]; rfl)
      clear HX5 HLE
      have HT3 := Lib.hid fun W => trim_any (Q.extract m Q.size) W
      have hA : (triB (Q.extract m Q.size)).size ≤ Q.size - m := by
        have := triB_size (Q.extract m Q.size)
        rw [ByteArray.size_extract] at this
        omega
      generalize triB (Q.extract m Q.size) = A at *
      by_cases c3 : A.size = 0
      · have HF : Hid (R = some (lab, dst, [])) := Lib.hid (by rw [HX6.out, if_pos c3])
        obtain ⟨x1, x2⟩ := nil_list A ((size_nil A).1 c3)
        clear c3
        go_enter Tryd.func17, Tryd.ntmps17
        go_wp2_with fail
        ((with_reducible refine (HT.out _).mono ?_))
        rintro e w0 ⟨rfl, rfl⟩
        go_wp2_with fail
        ((with_reducible refine (HB.out _).mono ?_))
        rintro e w1 ⟨rfl, b1⟩
        go_wp2_with fail
        ((with_reducible refine (HT2.out _).mono ?_))
        rintro e w0 ⟨rfl, rfl⟩
        go_wp2_with fail
        ((with_reducible refine (HD.out _).mono ?_))
        rintro e w2 ⟨rfl, b2⟩
        go_wp2_with fail
        ((with_reducible refine (HT3.out _).mono ?_))
        rintro e w0 ⟨rfl, rfl⟩
        go_wp2_with fail
        exact bodyPost_ret (v := .tuple #[.string (mk lab), .string (mk dst), .string ⟨#[]⟩, .bool true]) (by simp [results, Tryd.results17, go_sem]) rfl ⟨by rw [HF.out]; rfl, b1.trans (b2.mono b1.size)⟩
      obtain ⟨x1, x2⟩ := cons_list A (fun e => c3 ((size_nil A).2 e))
      by_cases c4 : A.size = Q.size - m
      · have HF : Hid (R = none) := Lib.hid (by rw [HX6.out, if_neg c3, if_pos c4])
        have y1 : ((A.size : Int) == (Q.size : Int) - m) = true := by rw [beq_iff_eq]; omega
        clear c3 c4
        go_enter Tryd.func17, Tryd.ntmps17
        go_wp2_with fail
        ((with_reducible refine (HT.out _).mono ?_))
        rintro e w0 ⟨rfl, rfl⟩
        go_wp2_with fail
        ((with_reducible refine (HB.out _).mono ?_))
        rintro e w1 ⟨rfl, b1⟩
        go_wp2_with fail
        ((with_reducible refine (HT2.out _).mono ?_))
        rintro e w0 ⟨rfl, rfl⟩
        go_wp2_with fail
        ((with_reducible refine (HD.out _).mono ?_))
        rintro e w2 ⟨rfl, b2⟩
        go_wp2_with fail
        ((with_reducible refine (HT3.out _).mono ?_))
        rintro e w0 ⟨rfl, rfl⟩
        go_wp2_with fail
        exact bodyPost_ret (v := .tuple #[.string ⟨#[]⟩, .string ⟨#[]⟩, .string ⟨#[]⟩, .bool false]) (by simp [results, Tryd.results17, go_sem]) rfl ⟨by rw [HF.out]; rfl, b1.trans (b2.mono b1.size)⟩
      have y1 : ((A.size : Int) == (Q.size : Int) - m) = false := by rw [beq_eq_false_iff_ne]; omega
      have HX7 : Hid (R = (titleR A 0).bind fun t => if (triB (A.extract t.2 A.size)).size = 0 then some (lab, dst, t.1) else none) := Lib.hid (by rw [HX6.out, if_neg c3, if_neg c4])
      clear HX6 c3 c4
      have HTi := Lib.hid fun W => l_title A 0 W (by omega)
      have hle : ∀ r, titleR A 0 = some r → r.2 ≤ A.size := fun r hr => (titleR_le hr).2.1
      have HLE := Lib.hid hle
      clear hle
      generalize titleR A 0 = T at *
      cases T with
      | none =>
        have HF : Hid (R = none) := Lib.hid (by rw [HX7.out]; rfl)
        go_enter Tryd.func17, Tryd.ntmps17
        go_wp2_with fail
        ((with_reducible refine (HT.out _).mono ?_))
        rintro e w0 ⟨rfl, rfl⟩
        go_wp2_with fail
        ((with_reducible refine (HB.out _).mono ?_))
        rintro e w1 ⟨rfl, b1⟩
        go_wp2_with fail
        ((with_reducible refine (HT2.out _).mono ?_))
        rintro e w0 ⟨rfl, rfl⟩
        go_wp2_with fail
        ((with_reducible refine (HD.out _).mono ?_))
        rintro e w2 ⟨rfl, b2⟩
        go_wp2_with fail
        ((with_reducible refine (HT3.out _).mono ?_))
        rintro e w0 ⟨rfl, rfl⟩
        go_wp2_with fail
        ((with_reducible refine (HTi.out _).mono ?_))
        rintro e w3 ⟨rfl, b3⟩
        go_wp2_with fail
        exact bodyPost_ret (v := .tuple #[.string ⟨#[]⟩, .string ⟨#[]⟩, .string ⟨#[]⟩, .bool false]) (by simp [results, Tryd.results17, go_sem]) rfl ⟨by rw [HF.out]; rfl, b1.trans ((b2.trans (b3.mono b2.size)).mono b1.size)⟩
      | some d =>
        obtain ⟨ttl, q⟩ := d
        have hq := HLE.out _ rfl
        simp only at hq
        have HX8 : Hid (R = if (triB (A.extract q A.size)).size = 0 then some (lab, dst, ttl) else none) := Lib.hid (by rw [HX7.out]; rfl)
        clear HX7 HLE
        have HT4 := Lib.hid fun W => trim_any (A.extract q A.size) W
        generalize triB (A.extract q A.size) = Z at *
        by_cases c5 : Z.size = 0
        · have HF : Hid (R = some (lab, dst, ttl)) := Lib.hid (by rw [HX8.out, if_pos c5])
          obtain ⟨x3, x4⟩ := nil_list Z ((size_nil Z).1 c5)
          clear c5
          go_enter Tryd.func17, Tryd.ntmps17
          go_wp2_with fail
          ((with_reducible refine (HT.out _).mono ?_))
          rintro e w0 ⟨rfl, rfl⟩
          go_wp2_with fail
          ((with_reducible refine (HB.out _).mono ?_))
          rintro e w1 ⟨rfl, b1⟩
          go_wp2_with fail
          ((with_reducible refine (HT2.out _).mono ?_))
          rintro e w0 ⟨rfl, rfl⟩
          go_wp2_with fail
          ((with_reducible refine (HD.out _).mono ?_))
          rintro e w2 ⟨rfl, b2⟩
          go_wp2_with fail
          ((with_reducible refine (HT3.out _).mono ?_))
          rintro e w0 ⟨rfl, rfl⟩
          go_wp2_with fail
          ((with_reducible refine (HTi.out _).mono ?_))
          rintro e w3 ⟨rfl, b3⟩
          go_wp2_with fail
          ((with_reducible refine (HT4.out _).mono ?_))
          rintro e w0 ⟨rfl, rfl⟩
          go_wp2_with fail
          exact bodyPost_ret (v := .tuple #[.string (mk lab), .string (mk dst), .string (mk ttl), .bool true]) (by simp [results, Tryd.results17, go_sem]) rfl ⟨by rw [HF.out]; rfl, b1.trans ((b2.trans (b3.mono b2.size)).mono b1.size)⟩
        · have HF : Hid (R = none) := Lib.hid (by rw [HX8.out, if_neg c5])
          obtain ⟨x3, x4⟩ := cons_list Z (fun e => c5 ((size_nil Z).2 e))
          clear c5
          go_enter Tryd.func17, Tryd.ntmps17
          go_wp2_with fail
          ((with_reducible refine (HT.out _).mono ?_))
          rintro e w0 ⟨rfl, rfl⟩
          go_wp2_with fail
          ((with_reducible refine (HB.out _).mono ?_))
          rintro e w1 ⟨rfl, b1⟩
          go_wp2_with fail
          ((with_reducible refine (HT2.out _).mono ?_))
          rintro e w0 ⟨rfl, rfl⟩
          go_wp2_with fail
          ((with_reducible refine (HD.out _).mono ?_))
          rintro e w2 ⟨rfl, b2⟩
          go_wp2_with fail
          ((with_reducible refine (HT3.out _).mono ?_))
          rintro e w0 ⟨rfl, rfl⟩
          go_wp2_with fail
          ((with_reducible refine (HTi.out _).mono ?_))
          rintro e w3 ⟨rfl, b3⟩
          go_wp2_with fail
          ((with_reducible refine (HT4.out _).mono ?_))
          rintro e w0 ⟨rfl, rfl⟩
          go_wp2_with fail
          exact bodyPost_ret (v := .tuple #[.string ⟨#[]⟩, .string ⟨#[]⟩, .string ⟨#[]⟩, .bool false]) (by simp [results, Tryd.results17, go_sem]) rfl ⟨by rw [HF.out]; rfl, b1.trans ((b2.trans (b3.mono b2.size)).mono b1.size)⟩
end Go.Proofs.YtepeaenbjgbnfaaDoor
