/-
  Texts of the proof, put together (what this law reaches): Join, MkS, MkSB, MkInf, NsA.
-/
import Derived.Test.YtpoafhgbhnblmaaGreatDoorD07
import Derived.Test.YtpoafhgbhnblmaaGreatDoorD03
import Derived.Test.YtpoafhgbhnblmaaGreatDoorD12
import Derived.Test.YtpoafhgbhnblmaaGreatDoorD11
import Derived.Test.YtpoafhgbhnblmaaGreatDoorD13
set_option linter.unusedVariables false
set_option linter.unusedSimpArgs false
namespace Go.Pub
/-- The bytes of texts with a separator between them. -/
def joinL (sep : ByteArray) : List ByteArray → List UInt8
  | [] => []
  | x :: r => bytesL x ++ r.flatMap fun y => bytesL sep ++ bytesL y
def sizes (l : List ByteArray) : Nat := (l.map ByteArray.size).sum
theorem sizes_take (l : List ByteArray) (k : Nat) (h : k < l.length) : sizes (l.take (k + 1)) = sizes (l.take k) + l[k].size := by
  unfold sizes; rw [List.take_succ_eq_append_getElem h, List.map_append, List.sum_append]; simp
theorem sizes_le (l : List ByteArray) (k : Nat) : sizes (l.take k) ≤ sizes l := by
  unfold sizes
  rw [← List.take_append_drop k l, List.map_append, List.sum_append, List.take_append_drop]
  omega
theorem sizes_bd (M : Nat) : ∀ l : List ByteArray, (∀ x ∈ l, x.size ≤ M) → sizes l ≤ l.length * M
  | [], _ => by simp [sizes]
  | x :: l, h => by
    have := sizes_bd M l fun y hy => h y (List.mem_cons_of_mem _ hy)
    have h1 := h x (List.mem_cons_self ..)
    unfold sizes at this ⊢
    rw [List.map_cons, List.sum_cons, List.length_cons, Nat.succ_mul]
    omega
theorem strCells_eq (s : ByteArray) : Lib.strCells s = Lib.byteCells (bytesL s) := rfl
end Go.Pub
namespace Go.Proofs.YtpoafhgbhnblmaaGreatDoor
open Go.RowKit Go.Pub
set_option maxRecDepth 100000 in
set_option maxHeartbeats 1000000 in
theorem join_few (zs : List ByteArray) (A : Option Addr) (c B : Nat) (sep : ByteArray) (w : World) (hr : Reads w B 1 A zs.length (strs zs)) (hn : zs.length ≤ 1) :
    Calls Tryz.prog 122 #[.slice A zs.length c, .string sep] w fun e w' => e = .returned (.string (mk (joinL sep zs))) ∧ w = w' := by
  match zs, hn with
  | [], _ =>
    have HX : Hid (mk (joinL sep []) = ⟨#[]⟩) := Lib.hid rfl
    clear hr
    generalize mk (joinL sep []) = R at *
    go_enter Tryz.func122, Tryz.ntmps122
    go_wp2
    go_ret
    exact ⟨ret_str HX.out.symm, rfl⟩
  | [x], _ =>
    have HX : Hid (mk (joinL sep [x]) = x) := Lib.hid (by show mk (bytesL x ++ []) = x; rw [List.append_nil]; exact mk_bytesL x)
    generalize mk (joinL sep [x]) = R at *
    obtain ⟨b, off, rfl, hb, hcell⟩ := hr.row (by simp) (by omega)
    have hc := hcell 0 _ (strs_at [x] 0 (by simp))
    simp at hc
    clear hcell hr
    go_enter Tryz.func122, Tryz.ntmps122
    go_wp2
    go_ret
    exact ⟨ret_str HX.out.symm, rfl⟩

def JRel (zs : List ByteArray) (sep : ByteArray) (B0 : Nat) (w : World) (i : Value) (wr : World) : Prop :=
  ∃ (k : Nat) (acc : List UInt8), i = .int .i64 k ∧ k + 1 ≤ zs.length ∧ Lib.IsBuilderF 158 5 w.heap.size w.heap.size (Lib.byteCells acc) wr ∧ Below w.heap.size w wr ∧ Hid (acc = joinL sep (zs.take (k + 1))) ∧ acc.length ≤ sizes (zs.take (k + 1)) + k * sep.size ∧ w.heap.size < wr.heap.size
theorem joinL_succ (sep : ByteArray) (zs : List ByteArray) (k : Nat) (h : k + 1 < zs.length) : joinL sep (zs.take (k + 1 + 1)) = joinL sep (zs.take (k + 1)) ++ bytesL sep ++ bytesL zs[k + 1] := by
  match zs, h with
  | x :: r, h =>
    have h' : k < r.length := by simpa using h
    rw [List.take_succ_cons, List.take_succ_cons]
    show bytesL x ++ _ = bytesL x ++ _ ++ bytesL sep ++ bytesL (x :: r)[k + 1]
    rw [List.take_succ_eq_append_getElem h', List.flatMap_append]
    simp
set_option maxRecDepth 100000 in
set_option maxHeartbeats 600000 in
theorem join_many (zs : List ByteArray) (A : Option Addr) (c B : Nat) (sep : ByteArray) (w : World) (hr : Reads w B 1 A zs.length (strs zs)) (hB : B ≤ w.heap.size) (hn : 2 ≤ zs.length) (hc : zs.length ≤ c) (hl : zs.length ≤ 1000000) (ht : sizes zs ≤ 1000000000) (hsep : 0 < sep.size) (hsl : sep.size ≤ 1000) :
    Calls Tryz.prog 122 #[.slice A zs.length c, .string sep] w fun e w' => e = .returned (.string (mk (joinL sep zs))) ∧ Below w.heap.size w w' := by
  have HX : Hid (joinL sep zs = joinL sep (zs.take zs.length)) := Lib.hid (by rw [List.take_length])
  generalize joinL sep zs = R at *
  have HRd := Lib.hid hr
  obtain ⟨b, off, rfl, hb, hcell⟩ := hr.row (by omega) (by omega)
  have HC := Lib.hid fun k (hk : k < zs.length) => hcell k _ (strs_at zs k hk)
  have hc0 := HC.out 0 (by omega)
  clear hcell hr
  have z0 : ((zs.length : Int) == 0) = false := by rw [beq_eq_false_iff_ne]; omega
  have z1 : ((zs.length : Int) == 1) = false := by rw [beq_eq_false_iff_ne]; omega
  have hdv : 9223372036854775807 / 1000000 ≤ (9223372036854775807 : Int) / ((zs.length : Int) - 1) := Int.le_ediv_of_mul_le (by omega) (by omega)
  have hq : decide ((9223372036854775807 : Int) / ((zs.length : Int) - 1) ≤ (sep.size : Int)) = false := decide_eq_false (by omega)
  have hm1 : (sep.size : Int) * ((zs.length : Int) - 1) ≤ 1000 * 1000000 := by
    have := Int.mul_le_mul (a := (sep.size : Int)) (b := (zs.length : Int) - 1) (c := 1000) (d := 1000000) (by omega) (by omega) (by omega) (by omega)
    exact this
  have hm0 : 0 ≤ (sep.size : Int) * ((zs.length : Int) - 1) := Int.mul_nonneg (by omega) (by omega)
  clear hdv
  go_enter Tryz.func122, Tryz.ntmps122
  go_wp2_with fail
  go_loop [5, 41] (fun n i => ∃ k : Nat, i = .int .i64 k ∧ k ≤ zs.length ∧ n = .int .i64 ((sep.size : Int) * ((zs.length : Int) - 1) + (sizes (zs.take k) : Nat))) (fun _ i => zs.length - (intOf i).toNat)
  case atStart => exact ⟨0, rfl, by omega, by simp [sizes]⟩
  case round =>
    obtain ⟨k, rfl, hk, rfl⟩ := hrel
    have hsk := sizes_le zs k
    by_cases hlt : k < zs.length
    · have hck := HC.out k hlt
      have hs1 := Lib.hid (sizes_take zs k hlt)
      have hs2 := sizes_le zs (k + 1)
      have hs3 : sizes (zs.take k) + zs[k].size ≤ 1000000000 := by rw [← hs1.out]; omega
      go_wp2
      go_round
      case rel => exact ⟨k + 1, by go_num, by omega, by rw [hs1.out]; go_num⟩
      case measure => simp [intOf]; omega
    · obtain rfl : k = zs.length := by omega
      have htl := Lib.hid (List.take_length (l := zs))
      have hcast : Hid ((sep.size : Int) * ((zs.length : Int) - 1) + ((sizes zs : Nat) : Int) = ((sep.size * (zs.length - 1) + sizes zs : Nat) : Int)) := Lib.hid (by
        rw [Int.natCast_add, Int.natCast_mul, Int.natCast_sub (by omega)]; rfl)
      have hbig : sep.size * (zs.length - 1) + sizes zs ≤ 281474976710656 := by
        have := Nat.mul_le_mul (show sep.size ≤ 1000 from hsl) (show zs.length - 1 ≤ 1000000 by omega)
        omega
      have HG : Hid (Calls Tryz.prog 175 #[.pointer (some ⟨w.heap.size, 0, none⟩), .int .i64 ((sep.size : Int) * ((zs.length : Int) - 1) + ((sizes zs : Nat) : Int))] (w.alloc (.cells #[.pointer none, .slice none 0 0] 158)) fun e w' => e = .returned (.tuple #[]) ∧ Lib.IsBuilderF 158 5 w.heap.size w.heap.size (Lib.byteCells []) w' ∧ Below w.heap.size (w.alloc (.cells #[.pointer none, .slice none 0 0] 158)) w') := Lib.hid (by
        rw [hcast.out]
        refine (Tryz.Builder_Grow_fresh_cap w.heap.size w.heap.size (sep.size * (zs.length - 1) + sizes zs) _ (Nat.le_refl _) ?_ (by simp) hbig).mono ?_
        · exact heap_alloc_new w _
        · rintro e w' ⟨rfl, ⟨h1, h2⟩, _⟩
          exact ⟨rfl, Or.inr (Lib.BuilderAtF.of h1), h2⟩)
      clear hcast
      have hwc : ∀ (W : World), Below w.heap.size w W → W.cell? ⟨b, off, none⟩ = some (.string zs[0]) := fun W hW => (hW.cell (p := ⟨b, off, none⟩) (by show b < _; omega)).trans hc0
      have HWC := Lib.hid hwc
      clear hwc
      go_wp2_with fail
      ((with_reducible refine HG.out.mono ?_))
      rintro e W1 ⟨rfl, I1, b1⟩
      have bb1 : Below w.heap.size w W1 := ((Below.refl _ w).alloc (Nat.le_refl _) _).trans b1
      have hz1 := b1.size
      simp only [heap_alloc_size] at hz1
      have hd1 := HWC.out W1 bb1
      have KB1 := Lib.hid bb1
      clear bb1 b1
      go_wp2_with fail
      refine (writeString_k w.heap.size w.heap.size _ _ _ I1 (by have := sizes_take zs 0 (by omega); have := sizes_le zs 1; simp [Lib.byteCells_length] at *; omega) (by omega)).mono ?_
      rintro e W2 ⟨rfl, h2, b2, _⟩
      rw [strCells_eq, ← Lib.byteCells_append, List.nil_append] at h2
      have hz2 := b2.size
      have KB2 := Lib.hid (KB1.out.trans b2)
      clear b2 hd1
      have hcn : c ≠ 1 := by omega
      clear hq hm1 hm0 z0 z1 HG hbig hc0
      go_wp2_with fail
      go_loopw [65] (fun v wr => JRel zs sep B w v wr) (fun v _ => zs.length - (intOf v).toNat)
      case atStart =>
        refine ⟨0, bytesL zs[0], rfl, by omega, ?_, KB2.out, Lib.hid ?_, ?_, by omega⟩
        · exact Or.inr h2
        · match zs, hn with
          | x :: r, _ => show bytesL x = bytesL x ++ []; rw [List.append_nil]
        · have := sizes_take zs 0 (by omega)
          rw [bytesL_length]; omega
      case round =>
        obtain ⟨k, acc, rfl, hk, hI, hbw, Hacc, hal, hsz⟩ := hrel
        by_cases hlt : k + 1 < zs.length
        · have hck0 := HC.out (k + 1) hlt
          have hck : wr.cell? ⟨b, off + 1 + k, none⟩ = some (.string zs[k + 1]) := by
            rw [show off + 1 + k = off + (k + 1) by omega]
            exact (hbw.cell (p := ⟨b, off + (k + 1), none⟩) (by show b < _; omega)).trans hck0
          clear hck0
          have hs1 := sizes_take zs (k + 1) hlt
          have hs2 := sizes_le zs (k + 1 + 1)
          have hmul : k * sep.size ≤ 1000000 * 1000 := Nat.mul_le_mul (by omega) hsl
          have hmul2 : (k + 1) * sep.size = k * sep.size + sep.size := Nat.succ_mul _ _
          have HS1 := Lib.hid hs1
          have HM2 := Lib.hid hmul2
          have hlen1 : acc.length + sep.size ≤ 140737488355328 := by omega
          have hlen2 : acc.length + sep.size + zs[k + 1].size ≤ 140737488355328 := by omega
          have hjs := Lib.hid (joinL_succ sep zs k hlt)
          have hal2 : acc.length + sep.size + zs[k + 1].size ≤ sizes (zs.take (k + 1 + 1)) + (k + 1) * sep.size := by omega
          have HAL2 := Lib.hid hal2
          have hkl : k < zs.length - 1 := by omega
          clear hs1 hmul2 hal2
          go_wp2_with fail
          refine (writeString_k w.heap.size w.heap.size _ _ _ hI (by rw [Lib.byteCells_length]; exact hlen1) (by omega)).mono ?_
          rintro e W3 ⟨rfl, h3, b3, _⟩
          rw [strCells_eq, ← Lib.byteCells_append] at h3
          have hz3 := b3.size
          go_wp2_with fail
          refine (writeString_k w.heap.size w.heap.size _ _ _ (Or.inr h3) (by rw [Lib.byteCells_length, List.length_append, bytesL_length]; exact hlen2) (by omega)).mono ?_
          rintro e W4 ⟨rfl, h4, b4, _⟩
          rw [strCells_eq, ← Lib.byteCells_append] at h4
          have hz4 := b4.size
          go_wp2_with fail
          go_roundw
          case rel =>
            refine ⟨k + 1, acc ++ bytesL sep ++ bytesL zs[k + 1], by go_num, by omega, ?_, (hbw.trans b3).trans b4, Lib.hid (by rw [hjs.out, ← Hacc.out]), ?_, by omega⟩
            · exact Or.inr h4
            · rw [List.length_append, List.length_append, bytesL_length, bytesL_length]; exact HAL2.out
          case measure => simp [intOf]; omega
        · have hkl : ¬ k < zs.length - 1 := by omega
          have hkk : Hid (k + 1 = zs.length) := Lib.hid (by omega)
          go_wp2_with fail
          refine (Tryz.Builder_String_any_k w.heap.size w.heap.size acc _ hI (by omega)).mono ?_
          rintro e W1 ⟨rfl, h1, b1, _⟩
          go_wp2
          go_ret
          exact ⟨ret_str (by rw [HX.out, ← hkk.out, ← Hacc.out]; rfl), hbw.trans b1⟩

theorem join_any (zs : List ByteArray) (A : Option Addr) (c B : Nat) (sep : ByteArray) (w : World) (hr : Reads w B 1 A zs.length (strs zs)) (hB : B ≤ w.heap.size) (hc : zs.length ≤ c) (hl : zs.length ≤ 1000000) (ht : sizes zs ≤ 1000000000) (hsep : 0 < sep.size) (hsl : sep.size ≤ 1000) :
    Calls Tryz.prog 122 #[.slice A zs.length c, .string sep] w fun e w' => e = .returned (.string (mk (joinL sep zs))) ∧ Below w.heap.size w w' := by
  by_cases hn : 2 ≤ zs.length
  · exact join_many zs A c B sep w hr hB hn hc hl ht hsep hsl
  · exact (join_few zs A c B sep w hr (by omega)).mono fun e w' h => ⟨h.1, h.2 ▸ Below.refl _ _⟩
end Go.Proofs.YtpoafhgbhnblmaaGreatDoor
namespace Go.Proofs.YtpoafhgbhnblmaaGreatDoor
open Go.RowKit Go.Pub
theorem head_kind {c : ByteArray} {m : MkL} (h : headM c = some m) : m.kind = 2 := by
  unfold headM at h
  split at h
  · split at h
    · injection h with h; subst h; rfl
    · cases h
  · cases h
theorem rule_kind {c : ByteArray} {m : MkL} (h : ruleM c = some m) : m.kind = 3 := by
  unfold ruleM at h
  split at h
  · split at h
    · injection h with h; subst h; rfl
    · cases h
  · cases h
theorem quote_some {c : ByteArray} {ind : Nat} {m : MkL} (h : quoteM c ind = some m) : bt c 0 = 62 ∧ m = { kind := 4, off := ind + c.size - (stripB (tl1 c) 1).size, rest := stripB (tl1 c) 1 } := by
  unfold quoteM at h
  split at h
  · rename_i h0; injection h with h; exact ⟨h0, h.symm⟩
  · cases h
theorem bullet_some {c : ByteArray} {ind : Nat} {m : MkL} (h : bulletM c ind = some m) : m = { kind := 5, ch := c.extract 0 1, off := ind + 2, rest := tl1 (tl1 c) } := by
  unfold bulletM at h
  split at h
  · split at h
    · injection h with h; exact h.symm
    · cases h
  · cases h
theorem number_some {c : ByteArray} {ind : Nat} {m : MkL} (h : numberM c ind = some m) : ∃ k v, m = { kind := 6, n := v, ch := c.extract k (k + 1), off := ind + k + 2, info := c.extract 0 k, rest := tl1 (c.extract (k + 1) c.size) } := by
  unfold numberM numR at h
  split at h
  · split at h
    · injection h with h; exact ⟨_, _, h.symm⟩
    · cases h
  · cases h
theorem fence_some {c : ByteArray} {ind : Nat} {m : MkL} (h : fenceM c ind = some m) : m.kind = 7 := by
  unfold fenceM at h
  split at h
  · split at h
    · injection h with h; subst h; rfl
    · cases h
  · cases h
theorem math_kind {c : ByteArray} {m : MkL} (h : mathM c = some m) : m.kind = 8 := by
  unfold mathM at h
  split at h
  · injection h with h; subst h; rfl
  · cases h
theorem div_kind {c : ByteArray} {m : MkL} (h : divM c = some m) : m.kind = 9 := by
  unfold divM divT at h
  split at h
  · split at h
    · generalize onlyR _ = o at h
      cases o with
      | none => cases h
      | some a => injection h with h; subst h; rfl
    · cases h
  · cases h
theorem note_some {c : ByteArray} {m : MkL} (h : noteM c = some m) : cutB (c.extract 2 c.size) = true ∧ m = { kind := 10, info := cutHead (c.extract 2 c.size), off := 4, rest := stripB (tl1 (cutRest (c.extract 2 c.size))) 1 } := by
  unfold noteM noteX at h
  split at h
  · split at h
    · rename_i h0; injection h with h; exact ⟨h0.1, h.symm⟩
    · cases h
  · cases h
theorem defTitle_kind {L : ByteArray} {d : List UInt8} {A : ByteArray} {n : Nat} {m : MkL} (h : defTitle L d A n = some m) : m.kind = 11 := by
  unfold defTitle at h
  by_cases h1 : A.size = 0
  · rw [if_pos h1] at h; injection h with h; rw [← h]
  rw [if_neg h1] at h
  by_cases h2 : A.size = n
  · rw [if_pos h2] at h; cases h
  rw [if_neg h2] at h
  generalize titleR A 0 = o at h
  cases o with
  | none => cases h
  | some p =>
    obtain ⟨t, q⟩ := p
    simp only at h
    by_cases h3 : blankB (A.extract q A.size) = true
    · rw [if_pos h3] at h; injection h with h; rw [← h]
    · rw [if_neg h3] at h; cases h
theorem defTail_kind {L r : ByteArray} {m : MkL} (h : defTail L r = some m) : m.kind = 11 := by
  unfold defTail at h
  generalize destR r 0 = o at h
  cases o with
  | none => cases h
  | some p => exact defTitle_kind h
theorem def_kind {c : ByteArray} {m : MkL} (h : defM c = some m) : m.kind = 11 := by
  unfold defM at h
  by_cases h1 : bt c 0 = 91 ∧ cutB (tl1 c) = true ∧ Lib.hasPrefix (bytesL (cutRest (tl1 c))) [58] = true ∧ labelL (bytesL (cutHead (tl1 c))) ≠ []
  · rw [if_pos h1] at h; exact defTail_kind h
  · rw [if_neg h1] at h; cases h
theorem first_mem : ∀ (l : List (Option MkL)) (m : MkL), firstS l = some m → some m ∈ l
  | some x :: l, m, h => by injection h with h; subst h; exact List.mem_cons_self ..
  | none :: l, m, h => List.mem_cons_of_mem _ (first_mem l m h)
theorem sfx_mk (c : ByteArray) (a b : Nat) : mk (sfx (mk (sfx c a)) b) = mk (sfx c (a + b)) := by
  unfold sfx; rw [bytesL_mk', List.drop_drop]
theorem tl1_sfx (x : ByteArray) : tl1 x = mk (sfx x 1) := extract_drop x 1
theorem strip_sfx (x : ByteArray) (n : Nat) : stripB x n = mk (sfx x (min n (indA x 0))) := extract_drop x _
/-- The rest of a mark is the end of its line. -/
def RestAt (c : ByteArray) (ind : Nat) (m : MkL) : Prop := m.kind = 4 ∨ m.kind = 5 ∨ m.kind = 6 ∨ m.kind = 10 → ∃ j, m.rest = mk (sfx c j) ∧ (m.kind = 10 → m.off = 4) ∧ (m.kind ≠ 10 → m.off = ind + j)
theorem rdrs_rest (c : ByteArray) (ind : Nat) (h0 : 0 < c.size) (m : MkL) (h : some m ∈ rdrs c ind) : RestAt c ind m := by
  unfold rdrs at h
  simp only [List.mem_cons, List.not_mem_nil, or_false] at h
  intro hk
  rcases h with h | h | h | h | h | h | h | h | h | h
  · have := head_kind h.symm; omega
  · have := rule_kind h.symm; omega
  · obtain ⟨hq, rfl⟩ := quote_some h.symm
    have e : stripB (tl1 c) 1 = mk (sfx c (1 + min 1 (indA (tl1 c) 0))) := by rw [strip_sfx, tl1_sfx, sfx_mk, ← tl1_sfx]
    refine ⟨1 + min 1 (indA (tl1 c) 0), e, (fun h => by cases h), fun _ => ?_⟩
    have h1 := indA_le (tl1 c)
    have h2 := tl1_size c
    show ind + c.size - (stripB (tl1 c) 1).size = _
    rw [e, mk_size, sfx_len]
    omega
  · have := bullet_some h.symm
    subst this
    exact ⟨2, by show tl1 (tl1 c) = _; rw [tl1_sfx, tl1_sfx, sfx_mk], (fun h => by cases h), fun _ => rfl⟩
  · obtain ⟨k, v, rfl⟩ := number_some h.symm
    refine ⟨k + 2, ?_, (fun h => by cases h), fun _ => ?_⟩
    · show tl1 (c.extract (k + 1) c.size) = _
      rw [extract_drop, tl1_sfx, sfx_mk]
    · show ind + k + 2 = _; omega
  · have := fence_some h.symm; omega
  · have := math_kind h.symm; omega
  · have := div_kind h.symm; omega
  · obtain ⟨hc, rfl⟩ := note_some h.symm
    unfold cutB at hc
    have hc := of_decide_eq_true hc
    refine ⟨2 + (brk (bytesL (c.extract 2 c.size)) + 1) + (1 + min 1 (indA (tl1 (cutRest (c.extract 2 c.size))) 0)), ?_, fun _ => rfl, fun h => absurd rfl h⟩
    show stripB (tl1 (cutRest (c.extract 2 c.size))) 1 = _
    rw [strip_sfx]
    generalize min 1 (indA (tl1 (cutRest (c.extract 2 c.size))) 0) = q
    have e : cutRest (c.extract 2 c.size) = mk (sfx c (2 + (brk (bytesL (c.extract 2 c.size)) + 1))) := by
      unfold cutRest
      rw [if_pos hc, extract_drop, extract_drop, sfx_mk]
    rw [e, tl1_sfx, sfx_mk, sfx_mk]
  · have := def_kind h.symm; omega
theorem mark_rest (s : ByteArray) (hk : (markM s).kind = 4 ∨ (markM s).kind = 5 ∨ (markM s).kind = 6 ∨ (markM s).kind = 10) :
    (markM s).rest.size ≤ s.size ∧ s.extract (s.size - (markM s).rest.size) s.size = (markM s).rest ∧ ((markM s).kind = 10 → (markM s).off = 4) ∧ ((markM s).kind ≠ 10 → s.size - (markM s).rest.size = (markM s).off ∨ (markM s).rest.size = 0 ∧ s.size - (markM s).rest.size ≤ (markM s).off) := by
  have hR : (0 < (s.extract (indA s 0) s.size).size ∧ some (markM s) ∈ rdrs (s.extract (indA s 0) s.size) (indA s 0)) := by
    unfold markM at hk ⊢
    by_cases hb : blankB s = true
    · rw [if_pos hb] at hk
      have : (1 : Nat) = 4 ∨ (1 : Nat) = 5 ∨ (1 : Nat) = 6 ∨ (1 : Nat) = 10 := hk
      omega
    · rw [if_neg hb] at hk ⊢
      unfold markC at hk ⊢
      by_cases h3 : 3 < indA s 0
      · rw [if_pos h3] at hk
        have : (0 : Nat) = 4 ∨ (0 : Nat) = 5 ∨ (0 : Nat) = 6 ∨ (0 : Nat) = 10 := hk
        omega
      · rw [if_neg h3] at hk ⊢
        have h1 := indA_le s
        have h2 : indA s 0 ≠ s.size := fun e => hb (by unfold blankB; exact decide_eq_true e)
        refine ⟨by rw [ByteArray.size_extract]; omega, ?_⟩
        cases hf : firstS (rdrs (s.extract (indA s 0) s.size) (indA s 0)) with
        | none =>
          rw [hf] at hk
          have : (0 : Nat) = 4 ∨ (0 : Nat) = 5 ∨ (0 : Nat) = 6 ∨ (0 : Nat) = 10 := hk
          omega
        | some m => exact first_mem _ _ hf
  obtain ⟨h0, hm⟩ := hR
  obtain ⟨j, e1, e2, e3⟩ := rdrs_rest _ _ h0 _ hm hk
  have e4 : (markM s).rest = mk (sfx s (indA s 0 + j)) := by rw [e1, extract_drop, sfx_mk]
  have hz : (markM s).rest.size = s.size - (indA s 0 + j) := by rw [e4, mk_size, sfx_len]
  refine ⟨by omega, ?_, e2, fun h => ?_⟩
  · rw [hz, extract_drop, e4]
    rcases Nat.le_total (indA s 0 + j) s.size with h | h
    · rw [show s.size - (s.size - (indA s 0 + j)) = indA s 0 + j by omega]
    · rw [sfx_nil s _ h, sfx_nil s _ (by omega)]
  · have := e3 h
    omega
end Go.Proofs.YtpoafhgbhnblmaaGreatDoor
namespace Go.Proofs.YtpoafhgbhnblmaaGreatDoor
open Go.RowKit Go.Pub
theorem attrEnd_small (s : ByteArray) : SmallA s.size (attrEndR s).2 := by
  unfold attrEndR
  split
  · exact parseL_small s _
  · exact emptyA_small _
theorem mk_trim_le (s : ByteArray) (k : Nat) : (mk (trimS (sfx s k))).size ≤ s.size := by
  rw [mk_size]
  have h1 := trimS_len (sfx s k)
  rw [sfx_len] at h1
  omega
theorem head_small {c : ByteArray} {m : MkL} (h : headM c = some m) : SmallA c.size m.att ∧ m.off = 0 := by
  unfold headM at h
  generalize firstN c (· != 35) = n at h
  by_cases h1 : 1 ≤ n ∧ n ≤ 6
  · rw [if_pos h1] at h
    by_cases h2 : spB (c.extract n c.size) = true
    · rw [if_pos h2] at h
      injection h with h
      subst h
      exact ⟨small_mono (attrEnd_small _) (mk_trim_le c n), rfl⟩
    · rw [if_neg h2] at h; cases h
  · rw [if_neg h1] at h; cases h
theorem div_small {c : ByteArray} {m : MkL} (h : divM c = some m) : SmallA c.size m.att ∧ m.off = 0 := by
  unfold divM at h
  generalize firstN c (· != 58) = n at h
  by_cases h1 : 3 ≤ n
  · rw [if_pos h1] at h
    have hz := mk_trim_le c n
    generalize mk (trimS (sfx c n)) = T at h hz
    unfold divT at h
    by_cases h2 : nameB (T.extract 0 (nameN T)) = true
    · rw [if_pos h2] at h
      cases ho : onlyR (T.extract (nameN T) T.size) with
      | none => rw [ho] at h; cases h
      | some a =>
        rw [ho] at h
        injection h with h
        subst h
        exact ⟨small_mono (onlyR_small _ _ ho) (Nat.le_trans (extract_le _ _ _) hz), rfl⟩
    · rw [if_neg h2] at h; cases h
  · rw [if_neg h1] at h; cases h
theorem rule_small {c : ByteArray} {m : MkL} (h : ruleM c = some m) : m.att = emptyA ∧ m.off = 0 := by
  unfold ruleM at h
  split at h
  · split at h
    · injection h with h; subst h; exact ⟨rfl, rfl⟩
    · cases h
  · cases h
theorem fence_small {c : ByteArray} {ind : Nat} {m : MkL} (h : fenceM c ind = some m) : m.att = emptyA ∧ m.off = ind := by
  unfold fenceM at h
  split at h
  · split at h
    · injection h with h; subst h; exact ⟨rfl, rfl⟩
    · cases h
  · cases h
theorem math_small {c : ByteArray} {m : MkL} (h : mathM c = some m) : m.att = emptyA ∧ m.off = 0 := by
  unfold mathM at h
  split at h
  · injection h with h; subst h; exact ⟨rfl, rfl⟩
  · cases h
theorem defTitle_small {L : ByteArray} {d : List UInt8} {A : ByteArray} {n : Nat} {m : MkL} (h : defTitle L d A n = some m) : m.att = emptyA ∧ m.off = 0 := by
  unfold defTitle at h
  by_cases h1 : A.size = 0
  · rw [if_pos h1] at h; injection h with h; subst h; exact ⟨rfl, rfl⟩
  rw [if_neg h1] at h
  by_cases h2 : A.size = n
  · rw [if_pos h2] at h; cases h
  rw [if_neg h2] at h
  generalize titleR A 0 = o at h
  cases o with
  | none => cases h
  | some p =>
    obtain ⟨t, q⟩ := p
    simp only at h
    by_cases h3 : blankB (A.extract q A.size) = true
    · rw [if_pos h3] at h; injection h with h; subst h; exact ⟨rfl, rfl⟩
    · rw [if_neg h3] at h; cases h
theorem def_small {c : ByteArray} {m : MkL} (h : defM c = some m) : m.att = emptyA ∧ m.off = 0 := by
  unfold defM at h
  by_cases h1 : bt c 0 = 91 ∧ cutB (tl1 c) = true ∧ Lib.hasPrefix (bytesL (cutRest (tl1 c))) [58] = true ∧ labelL (bytesL (cutHead (tl1 c))) ≠ []
  · rw [if_pos h1] at h
    unfold defTail at h
    generalize destR _ 0 = o at h
    cases o with
    | none => cases h
    | some p => exact defTitle_small h
  · rw [if_neg h1] at h; cases h
theorem number_off {c : ByteArray} {ind : Nat} {m : MkL} (h : numberM c ind = some m) : m.att = emptyA ∧ m.off ≤ ind + 11 := by
  unfold numberM numR at h
  generalize numDig c = k at h
  generalize numVal c k = v at h
  by_cases h1 : (1 ≤ k ∧ k ≤ 9 ∧ k < c.size) ∧ (bt c k = 46 ∨ bt c k = 41)
  · rw [if_pos h1] at h
    by_cases h2 : spB (c.extract (k + 1) c.size) = true
    · rw [if_pos h2] at h
      injection h with h
      subst h
      exact ⟨rfl, by show ind + k + 2 ≤ _; omega⟩
    · rw [if_neg h2] at h; cases h
  · rw [if_neg h1] at h; cases h
theorem rdrs_small (c : ByteArray) (ind : Nat) (hi : ind ≤ 3) (m : MkL) (h : some m ∈ rdrs c ind) : SmallA c.size m.att ∧ m.off ≤ c.size + 14 := by
  have E : ∀ {n : Nat}, m.att = emptyA → SmallA n m.att := fun e => by rw [e]; exact emptyA_small _
  unfold rdrs at h
  simp only [List.mem_cons, List.not_mem_nil, or_false] at h
  rcases h with h | h | h | h | h | h | h | h | h | h
  · obtain ⟨h1, h2⟩ := head_small h.symm; exact ⟨h1, by omega⟩
  · obtain ⟨h1, h2⟩ := rule_small h.symm; exact ⟨E h1, by omega⟩
  · obtain ⟨_, rfl⟩ := quote_some h.symm; exact ⟨emptyA_small _, by show ind + c.size - _ ≤ _; omega⟩
  · have := bullet_some h.symm; subst this; exact ⟨emptyA_small _, by show ind + 2 ≤ _; omega⟩
  · obtain ⟨h1, h2⟩ := number_off h.symm; exact ⟨E h1, by omega⟩
  · obtain ⟨h1, h2⟩ := fence_small h.symm; exact ⟨E h1, by omega⟩
  · obtain ⟨h1, h2⟩ := math_small h.symm; exact ⟨E h1, by omega⟩
  · obtain ⟨h1, h2⟩ := div_small h.symm; exact ⟨h1, by omega⟩
  · obtain ⟨_, rfl⟩ := note_some h.symm; exact ⟨emptyA_small _, by show 4 ≤ _; omega⟩
  · obtain ⟨h1, h2⟩ := def_small h.symm; exact ⟨E h1, by omega⟩
theorem mark_small (s : ByteArray) : SmallA s.size (markM s).att ∧ (markM s).off ≤ s.size + 14 := by
  unfold markM
  by_cases hb : blankB s = true
  · rw [if_pos hb]; exact ⟨emptyA_small _, Nat.zero_le _⟩
  rw [if_neg hb]
  unfold markC
  by_cases h3 : 3 < indA s 0
  · rw [if_pos h3]; exact ⟨emptyA_small _, Nat.zero_le _⟩
  rw [if_neg h3]
  cases hf : firstS (rdrs (s.extract (indA s 0) s.size) (indA s 0)) with
  | none => exact ⟨emptyA_small _, Nat.zero_le _⟩
  | some m =>
    obtain ⟨h1, h2⟩ := rdrs_small _ _ (by omega) m (first_mem _ _ hf)
    have hz := extract_le s (indA s 0) s.size
    exact ⟨small_mono h1 hz, by show m.off ≤ _; omega⟩
end Go.Proofs.YtpoafhgbhnblmaaGreatDoor
namespace Go.Proofs.YtpoafhgbhnblmaaGreatDoor
open Go.RowKit Go.Pub
theorem number_info {c : ByteArray} {ind : Nat} {m : MkL} (h : numberM c ind = some m) : m.info.size ≤ c.size := by
  unfold numberM numR at h
  generalize numDig c = k at h
  generalize numVal c k = v at h
  by_cases h1 : (1 ≤ k ∧ k ≤ 9 ∧ k < c.size) ∧ (bt c k = 46 ∨ bt c k = 41)
  · rw [if_pos h1] at h
    by_cases h2 : spB (c.extract (k + 1) c.size) = true
    · rw [if_pos h2] at h
      injection h with h
      subst h
      show (c.extract 0 k).size ≤ c.size
      rw [ByteArray.size_extract]; omega
    · rw [if_neg h2] at h; cases h
  · rw [if_neg h1] at h; cases h
theorem rdrs_info (c : ByteArray) (ind : Nat) (m : MkL) (h : some m ∈ rdrs c ind) (h6 : m.kind = 6) : m.info.size ≤ c.size := by
  unfold rdrs at h
  simp only [List.mem_cons, List.not_mem_nil, or_false] at h
  rcases h with h | h | h | h | h | h | h | h | h | h
  · have := head_kind h.symm; omega
  · have := rule_kind h.symm; omega
  · obtain ⟨_, rfl⟩ := quote_some h.symm; exact absurd h6 (by decide : (4 : Nat) ≠ 6)
  · have := bullet_some h.symm; subst this; exact absurd h6 (by decide : (5 : Nat) ≠ 6)
  · exact number_info h.symm
  · have := fence_some h.symm; omega
  · have := math_kind h.symm; omega
  · have := div_kind h.symm; omega
  · obtain ⟨_, rfl⟩ := note_some h.symm; exact absurd h6 (by decide : (10 : Nat) ≠ 6)
  · have := def_kind h.symm; omega
theorem mark_info (s : ByteArray) (h6 : (markM s).kind = 6) : (markM s).info.size ≤ s.size := by
  unfold markM at h6 ⊢
  by_cases hb : blankB s = true
  · rw [if_pos hb] at h6; exact absurd h6 (by decide : (1 : Nat) ≠ 6)
  rw [if_neg hb] at h6 ⊢
  unfold markC at h6 ⊢
  by_cases h3 : 3 < indA s 0
  · rw [if_pos h3] at h6; exact absurd h6 (by decide : (0 : Nat) ≠ 6)
  rw [if_neg h3] at h6 ⊢
  cases hf : firstS (rdrs (s.extract (indA s 0) s.size) (indA s 0)) with
  | none => rw [hf] at h6; exact absurd h6 (by decide : (0 : Nat) ≠ 6)
  | some m =>
    rw [hf] at h6
    exact Nat.le_trans (rdrs_info _ _ m (first_mem _ _ hf) h6) (extract_le s (indA s 0) s.size)
theorem mkpost_val {m : MkL} {w w' : World} {e : Ending} (h : MkPost m w e w') : ∃ A c D d, e = .returned (.agg (m.cells (.slice A m.att.cl.length c) (.slice D m.att.pr.length d))) ∧ Below w.heap.size w w' := by
  obtain ⟨⟨_, rfl, C, P, rfl, o⟩, b⟩ := h
  obtain ⟨A, c, rfl⟩ := own_slice o.cls
  obtain ⟨D, d, rfl⟩ := own_slice o.prs
  exact ⟨A, c, D, d, rfl, b⟩
theorem number_kind {c : ByteArray} {ind : Nat} {m : MkL} (h : numberM c ind = some m) : m.kind = 6 := by
  unfold numberM numR at h
  generalize numDig c = k at h
  generalize numVal c k = v at h
  by_cases h1 : (1 ≤ k ∧ k ≤ 9 ∧ k < c.size) ∧ (bt c k = 46 ∨ bt c k = 41)
  · rw [if_pos h1] at h
    by_cases h2 : spB (c.extract (k + 1) c.size) = true
    · rw [if_pos h2] at h
      injection h with h
      subst h
      rfl
    · rw [if_neg h2] at h; cases h
  · rw [if_neg h1] at h; cases h
theorem rdrs_kind (c : ByteArray) (ind : Nat) (m : MkL) (h : some m ∈ rdrs c ind) : 2 ≤ m.kind ∧ m.kind ≤ 11 := by
  unfold rdrs at h
  simp only [List.mem_cons, List.not_mem_nil, or_false] at h
  rcases h with h | h | h | h | h | h | h | h | h | h
  · have := head_kind h.symm; omega
  · have := rule_kind h.symm; omega
  · obtain ⟨_, rfl⟩ := quote_some h.symm; exact (by decide : 2 ≤ (4 : Nat) ∧ (4 : Nat) ≤ 11)
  · have := bullet_some h.symm; subst this; exact (by decide : 2 ≤ (5 : Nat) ∧ (5 : Nat) ≤ 11)
  · have := number_kind h.symm; omega
  · have := fence_some h.symm; omega
  · have := math_kind h.symm; omega
  · have := div_kind h.symm; omega
  · obtain ⟨_, rfl⟩ := note_some h.symm; exact (by decide : 2 ≤ (10 : Nat) ∧ (10 : Nat) ≤ 11)
  · have := def_kind h.symm; omega
theorem mark_kinds (s : ByteArray) : (blankB s = true → (markM s).kind = 1) ∧ (blankB s = false → (markM s).kind = 0 ∨ 2 ≤ (markM s).kind ∧ (markM s).kind ≤ 11) := by
  unfold markM
  refine ⟨fun h => by rw [if_pos h], fun h => ?_⟩
  rw [if_neg (by rw [h]; exact Bool.false_ne_true)]
  unfold markC
  by_cases h3 : 3 < indA s 0
  · rw [if_pos h3]; exact .inl rfl
  rw [if_neg h3]
  cases hf : firstS (rdrs (s.extract (indA s 0) s.size) (indA s 0)) with
  | none => exact .inl rfl
  | some m => exact .inr (rdrs_kind _ _ m (first_mem _ _ hf))
end Go.Proofs.YtpoafhgbhnblmaaGreatDoor
namespace Go.Proofs.YtpoafhgbhnblmaaGreatDoor
open Go.RowKit Go.Pub
/-- A block: its line is a source text. -/
inductive BkT where
  | mk (kind level : Nat) (info text dest title : ByteArray) (att : AttrL) (line : ByteArray) (kids : List BkT)
/-- A leaf of a kind, or a block that only holds others. -/
def kidB (kind : Nat) (kids : List BkT) : BkT := .mk kind 0 ⟨#[]⟩ ⟨#[]⟩ ⟨#[]⟩ ⟨#[]⟩ emptyA ⟨#[]⟩ kids
def leafB (kind : Nat) (line : ByteArray) : BkT := .mk kind 0 ⟨#[]⟩ ⟨#[]⟩ ⟨#[]⟩ ⟨#[]⟩ emptyA line []
/-- Line number i. -/
def ln (zs : List ByteArray) (i : Nat) : ByteArray := zs.getD i ⟨#[]⟩
theorem ln_at (zs : List ByteArray) (i : Nat) (h : i < zs.length) : zs[i] = ln zs i := by
  unfold ln; rw [List.getD_eq_getElem?_getD, List.getElem?_eq_getElem h]; rfl
/-- The first index from i on, below n, that p holds of; or n. -/
def seekF (p : Nat → Bool) : Nat → Nat → Nat
  | 0, i => i
  | d + 1, i => if p i = true then i else seekF p d (i + 1)
def seek (p : Nat → Bool) (n i : Nat) : Nat := seekF p (n - i) i
theorem seekF_spec (p : Nat → Bool) : ∀ (d i : Nat), i ≤ seekF p d i ∧ seekF p d i ≤ i + d ∧ (∀ j, i ≤ j → j < seekF p d i → p j = false) ∧ (seekF p d i < i + d → p (seekF p d i) = true)
  | 0, i => ⟨Nat.le_refl _, Nat.le_refl _, fun j h1 h2 => absurd h2 (by show ¬ j < i; omega), fun h => absurd h (by show ¬ i < i + 0; omega)⟩
  | d + 1, i => by
    unfold seekF
    by_cases h : p i = true
    · rw [if_pos h]
      exact ⟨Nat.le_refl _, by omega, fun j h1 h2 => absurd h2 (by omega), fun _ => h⟩
    · rw [if_neg h]
      obtain ⟨h1, h2, h3, h4⟩ := seekF_spec p d (i + 1)
      refine ⟨by omega, by omega, fun j hj1 hj2 => ?_, fun hlt => h4 (by omega)⟩
      by_cases e : j = i
      · subst e; simpa using h
      · exact h3 j (by omega) hj2
theorem seek_spec (p : Nat → Bool) (n i : Nat) (hi : i ≤ n) : i ≤ seek p n i ∧ seek p n i ≤ n ∧ (∀ j, i ≤ j → j < seek p n i → p j = false) ∧ (seek p n i < n → p (seek p n i) = true) := by
  obtain ⟨h1, h2, h3, h4⟩ := seekF_spec p (n - i) i
  exact ⟨h1, by unfold seek; omega, h3, fun h => h4 (by unfold seek at h; omega)⟩
/-- It is the only one. -/
theorem seek_eq (p : Nat → Bool) (n i k : Nat) (hi : i ≤ k) (hk : k ≤ n) (hno : ∀ j, i ≤ j → j < k → p j = false) (hit : k < n → p k = true) : seek p n i = k := by
  obtain ⟨h1, h2, h3, h4⟩ := seek_spec p n i (by omega)
  rcases Nat.lt_trichotomy (seek p n i) k with h | h | h
  · have a := h4 (by omega)
    rw [hno _ h1 h] at a; cases a
  · exact h
  · have a := hit (by omega)
    rw [h3 k hi h] at a; cases a
/-- One behind the last index in [i, i + d) that q holds of; or i. -/
def lastN (q : Nat → Bool) (i : Nat) : Nat → Nat
  | 0 => i
  | d + 1 => if q (i + d) = true then i + d + 1 else lastN q i d
theorem lastN_le (q : Nat → Bool) (i : Nat) : ∀ d, i ≤ lastN q i d ∧ lastN q i d ≤ i + d
  | 0 => ⟨Nat.le_refl _, Nat.le_refl _⟩
  | d + 1 => by
    unfold lastN
    have := lastN_le q i d
    by_cases h : q (i + d) = true
    · rw [if_pos h]; omega
    · rw [if_neg h]; omega
/-- The lines from i to k. -/
def cutL (zs : List ByteArray) (i k : Nat) : List ByteArray := (zs.drop i).take (k - i)
theorem cutL_len (zs : List ByteArray) (i k : Nat) (h : i ≤ k) (hk : k ≤ zs.length) : (cutL zs i k).length = k - i := by
  unfold cutL; rw [List.length_take, List.length_drop]; omega
theorem ln_cut (zs : List ByteArray) (i k j : Nat) (hj : i + j < k) : ln (cutL zs i k) j = ln zs (i + j) := by
  unfold ln cutL
  rw [List.getD_eq_getElem?_getD, List.getD_eq_getElem?_getD, List.getElem?_take, if_pos (by omega), List.getElem?_drop]
def kindOf (zs : List ByteArray) (i : Nat) : Nat := (markM (ln zs i)).kind
/-- The lines joined, each with a line feed. -/
def joinN (zs : List ByteArray) : List UInt8 := zs.flatMap fun z => bytesL z ++ [10]
/-- What closes the block of the mark m, from i on. -/
def closeP (zs : List ByteArray) (m : MkL) (j : Nat) : Bool := (closesM (ln zs j) m.kind m.n m.ch).2
def closeI (zs : List ByteArray) (m : MkL) (i : Nat) : Nat := seek (closeP zs m) zs.length i
def closeA (zs : List ByteArray) (m : MkL) (i : Nat) : AttrL := if closeI zs m i < zs.length then (closesM (ln zs (closeI zs m i)) m.kind m.n m.ch).1 else emptyA
/-- The content of an item or note. -/
def contStop (zs : List ByteArray) (m : MkL) (j : Nat) : Bool := !blankB (ln zs j) && decide (indA (ln zs j) 0 < m.off)
def contTo (zs : List ByteArray) (i : Nat) (m : MkL) : Nat := lastN (fun j => !blankB (ln zs j)) (i + 1) (seek (contStop zs m) zs.length (i + 1) - (i + 1))
def contNo (zs : List ByteArray) (i : Nat) (m : MkL) : Bool := blankB m.rest && (decide (zs.length ≤ i + 1) || blankB (ln zs (i + 1)))
def contL (zs : List ByteArray) (i : Nat) (m : MkL) : List ByteArray × Nat :=
  if contNo zs i m = true then ([], i + 1) else (m.rest :: (cutL zs (i + 1) (contTo zs i m)).map fun z => stripB z m.off, contTo zs i m)
/-- Quotations. -/
def quoteTo (zs : List ByteArray) (i : Nat) : Nat := seek (fun j => !decide (kindOf zs j = 4)) zs.length i
def quoteIn (zs : List ByteArray) (i : Nat) : List ByteArray := (cutL zs i (quoteTo zs i)).map fun z => (markM z).rest
/-- Tables. -/
def headAt (zs : List ByteArray) (i : Nat) : Bool := decide (i + 1 < zs.length) && headB (bytesL (ln zs i)) (bytesL (ln zs (i + 1)))
def rowT (z : ByteArray) (n : Nat) : BkT := kidB 11 ((fitL (cellsB (bytesL z)) n).map (leafB 12))
def tableTo (zs : List ByteArray) (i : Nat) : Nat := seek (fun j => !decide (kindOf zs j = 0)) zs.length (i + 2)
def tableB (zs : List ByteArray) (i : Nat) (r : List UInt8) : BkT := .mk 10 0 (mk r) ⟨#[]⟩ ⟨#[]⟩ ⟨#[]⟩ emptyA ⟨#[]⟩ (rowT (ln zs i) r.length :: (cutL zs (i + 2) (tableTo zs i)).map fun z => rowT z r.length)
/-- Paragraphs. -/
def paraTo (zs : List ByteArray) (i : Nat) : Nat := seek (fun j => !decide (kindOf zs j = 0) || headAt zs j) zs.length (i + 1)
def paraB (zs : List ByteArray) (i : Nat) : BkT := leafB 1 (mk (joinL ⟨#[10]⟩ ((cutL zs i (paraTo zs i)).map fun z => mk (trimS (bytesL z)))))
/-- Lists: rec gives the blocks of an item's lines. -/
def nextNB (zs : List ByteArray) (i : Nat) : Nat := seek (fun j => !blankB (ln zs j)) zs.length i
def itemsF (rec : List ByteArray → Option (List BkT)) (zs : List ByteArray) : Nat → Nat → MkL → Option (List BkT × Nat)
  | 0, _, _ => none
  | f + 1, i, m =>
    match rec (contL zs i m).1 with
    | none => none
    | some kids =>
      if nextNB zs (contL zs i m).2 < zs.length ∧ sameR m (markM (ln zs (nextNB zs (contL zs i m).2))) = true then
        (itemsF rec zs f (nextNB zs (contL zs i m).2) (markM (ln zs (nextNB zs (contL zs i m).2)))).map fun r => (kidB 9 kids :: r.1, r.2)
      else some ([kidB 9 kids], (contL zs i m).2)
def listB (m : MkL) (kids : List BkT) : BkT := .mk (if m.kind = 6 then 8 else 7) (if m.kind = 6 then m.n else 0) ⟨#[]⟩ ⟨#[]⟩ ⟨#[]⟩ ⟨#[]⟩ emptyA ⟨#[]⟩ kids
/-- The block that begins on line i with the mark m, and the line behind it: rec1 one level deeper, rec2 two levels; d2, d3: whether two, three are left. -/
def blockT (rec1 rec2 : List ByteArray → Option (List BkT)) (d2 d3 : Bool) (zs : List ByteArray) (i : Nat) (m : MkL) : Option (BkT × Nat) :=
  if m.kind = 2 then some (.mk 2 m.n ⟨#[]⟩ ⟨#[]⟩ ⟨#[]⟩ ⟨#[]⟩ m.att m.rest [], i + 1)
  else if m.kind = 3 then some (kidB 5 [], i + 1)
  else if m.kind = 11 then some (.mk 15 0 m.info ⟨#[]⟩ m.dest m.title emptyA ⟨#[]⟩ [], i + 1)
  else if m.kind = 4 then (rec1 (quoteIn zs i)).map fun k => (kidB 6 k, quoteTo zs i)
  else if m.kind = 7 then some (.mk 3 0 m.info (mk (joinN ((cutL zs (i + 1) (closeI zs m (i + 1))).map fun z => stripB z m.off))) ⟨#[]⟩ ⟨#[]⟩ emptyA ⟨#[]⟩ [], min (closeI zs m (i + 1) + 1) zs.length)
  else if m.kind = 8 then some (.mk 4 0 ⟨#[]⟩ (mk (joinN (cutL zs (i + 1) (closeI zs m (i + 1))))) ⟨#[]⟩ ⟨#[]⟩ (closeA zs m (i + 1)) ⟨#[]⟩ [], min (closeI zs m (i + 1) + 1) zs.length)
  else if m.kind = 9 then (rec1 (cutL zs (i + 1) (closeI zs m (i + 1)))).map fun k => (.mk 13 0 m.info ⟨#[]⟩ ⟨#[]⟩ ⟨#[]⟩ m.att ⟨#[]⟩ k, min (closeI zs m (i + 1) + 1) zs.length)
  else if m.kind = 10 then (rec1 (contL zs i m).1).map fun k => (.mk 14 0 m.info ⟨#[]⟩ ⟨#[]⟩ ⟨#[]⟩ emptyA ⟨#[]⟩ k, (contL zs i m).2)
  else if m.kind = 5 ∨ m.kind = 6 then (if d2 = true then (itemsF rec2 zs (zs.length - i) i m).map fun r => (listB m r.1, r.2) else none)
  else if headAt zs i = true then (if d3 = true then some (tableB zs i ((alignR (bytesL (ln zs (i + 1)))).getD []), tableTo zs i) else none)
  else some (paraB zs i, paraTo zs i)
/-- The loop over the lines; f: rounds that are left. -/
def loopT (at_ : Nat → MkL → Option (BkT × Nat)) (zs : List ByteArray) : Nat → Nat → Option (List BkT × List (Nat × Nat))
  | 0, _ => some ([], [])
  | f + 1, i =>
    if zs.length ≤ i then some ([], [])
    else if blankB (ln zs i) = true then loopT at_ zs f (i + 1)
    else match at_ i (markM (ln zs i)) with
      | none => none
      | some (b, tq) => (loopT at_ zs f tq).map fun r => (b :: r.1, (i, tq) :: r.2)
/-- The blocks of lines, n levels left, and their ranges. -/
def blocksN : Nat → List ByteArray → Option (List BkT × List (Nat × Nat))
  | 0, zs => loopT (fun _ _ => none) zs zs.length 0
  | 1, zs => loopT (blockT (fun l => (blocksN 0 l).map (·.1)) (fun _ => none) false false zs) zs zs.length 0
  | n + 2, zs => loopT (blockT (fun l => (blocksN (n + 1) l).map (·.1)) (fun l => (blocksN n l).map (·.1)) true (decide (1 ≤ n)) zs) zs zs.length 0
end Go.Proofs.YtpoafhgbhnblmaaGreatDoor
