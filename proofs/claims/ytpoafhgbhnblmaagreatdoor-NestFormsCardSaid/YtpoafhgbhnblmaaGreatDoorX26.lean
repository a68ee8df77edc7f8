/-
  Texts of the proof, put together (what this law reaches): MkP, Join, ReadS.
-/
import Derived.Test.YtpoafhgbhnblmaaGreatDoorX11
import Derived.Test.YtpoafhgbhnblmaaGreatDoorX15
import Derived.Test.YtpoafhgbhnblmaaGreatDoorX08
import Derived.Test.YtpoafhgbhnblmaaGreatDoorX05
import Derived.Test.YtpoafhgbhnblmaaGreatDoorX09
import Derived.Deep.AppendLies
set_option linter.unusedVariables false
set_option linter.unusedSimpArgs false
namespace Go.Proofs.YtpoafhgbhnblmaaGreatDoor
open Go.RowKit Go.Pub
/-- Whether the mark b continues the list of the mark a. -/
def sameR (a b : MkL) : Bool := decide (a.kind = b.kind ∧ a.ch = b.ch ∧ (b.kind = 6 ∧ (b.off : Int) - 2 - (b.info.size : Int) < (a.off : Int) ∨ b.kind = 5 ∧ (b.off : Int) - 2 < (a.off : Int)))
set_option maxRecDepth 100000 in
set_option maxHeartbeats 1000000 in
theorem m_same (a b : MkL) (A1 A2 A3 A4 : Option Addr) (n1 c1 n2 c2 n3 c3 n4 c4 : Nat) (w : World) (ha : a.off ≤ 2000000) (hb : b.off ≤ 2000000) (hi : b.kind = 6 → b.info.size ≤ 1000000) :
    Calls Tryz.prog 118 #[.agg (a.cells (.slice A1 n1 c1) (.slice A2 n2 c2)), .agg (b.cells (.slice A3 n3 c3) (.slice A4 n4 c4))] w fun e w' => e = .returned (.bool (sameR a b)) ∧ Below w.heap.size w w' := by
  have HR : Hid (sameR a b = decide (a.kind = b.kind ∧ a.ch = b.ch ∧ (b.kind = 6 ∧ (b.off : Int) - 2 - (b.info.size : Int) < (a.off : Int) ∨ b.kind = 5 ∧ (b.off : Int) - 2 < (a.off : Int)))) := Lib.hid rfl
  generalize sameR a b = R at *
  obtain ⟨ka, na, ca, oa, ia, ra, da, ta, aa⟩ := a
  obtain ⟨kb, nb, cb, ob, ib, rb, db, tb, ab⟩ := b
  simp only [MkL.cells] at *
  by_cases hk : ka = kb
  case neg =>
    have z1 : (((ka : Nat) : Int) != (kb : Int)) = true := by rw [bne_iff_ne]; omega
    have z2 : (((ka : Nat) : Int) == (kb : Int)) = false := by rw [beq_eq_false_iff_ne]; omega
    have HF : Hid (R = false) := Lib.hid (by rw [HR.out, decide_eq_false (fun h => hk h.1)])
    clear HR
    go_enter Tryz.func118, Tryz.ntmps118
    go_wp2_with fail
    go_ret
    exact ⟨ret_bool (by rw [HF.out]), (((Below.refl _ w).alloc (Nat.le_refl _) _).alloc (by simp) _)⟩
  subst hk
  by_cases hc : ca = cb
  case neg =>
    have z1 : (ca.toList == cb.toList) = false := (Lib.bytes_beq_false_iff _ _).2 hc
    have HF : Hid (R = false) := Lib.hid (by rw [HR.out, decide_eq_false (fun h => hc h.2.1)])
    clear HR
    go_enter Tryz.func118, Tryz.ntmps118
    go_wp2_with fail
    go_ret
    exact ⟨ret_bool (by rw [HF.out]), (((Below.refl _ w).alloc (Nat.le_refl _) _).alloc (by simp) _)⟩
  subst hc
  by_cases h6 : ka = 6
  · subst h6
    have HF : Hid (R = decide ((ob : Int) - 2 - (ib.size : Int) < (oa : Int))) := Lib.hid (by rw [HR.out]; simp)
    replace hi := hi rfl
    clear HR
    go_enter Tryz.func118, Tryz.ntmps118
    go_wp2_with fail
    go_ret
    exact ⟨ret_bool (by rw [HF.out]), (((Below.refl _ w).alloc (Nat.le_refl _) _).alloc (by simp) _)⟩
  by_cases h5 : ka = 5
  · subst h5
    have HF : Hid (R = decide ((ob : Int) - 2 < (oa : Int))) := Lib.hid (by rw [HR.out]; simp)
    clear HR
    go_enter Tryz.func118, Tryz.ntmps118
    go_wp2_with fail
    go_ret
    exact ⟨ret_bool (by rw [HF.out]), (((Below.refl _ w).alloc (Nat.le_refl _) _).alloc (by simp) _)⟩
  · have z5 : (((ka : Nat) : Int) == 5) = false := kF (by omega)
    have z6 : (((ka : Nat) : Int) == 6) = false := kF (by omega)
    have HF : Hid (R = false) := Lib.hid (by rw [HR.out]; simp [h5, h6])
    clear HR
    go_enter Tryz.func118, Tryz.ntmps118
    go_wp2_with fail
    go_ret
    exact ⟨ret_bool (by rw [HF.out]), (((Below.refl _ w).alloc (Nat.le_refl _) _).alloc (by simp) _)⟩

end Go.Proofs.YtpoafhgbhnblmaaGreatDoor
namespace Go.Pub
/-- The bytes of texts with a separator between them. -/
def joinL (sep : ByteArray) : List ByteArray → List UInt8
  | [] => []
  | x :: r => bytesL x ++ r.flatMap fun y => bytesL sep ++ bytesL y
def sizes (l : List ByteArray) : Nat := (l.map ByteArray.size).sum
theorem sizes_take (l : List ByteArray) (k : Nat) (h : k < l.length) : sizes (l.take (k + 1)) = sizes (l.take k) + l[k].size := by
  unfold sizes; rw [List.take_succ_eq_append_getElem h, List.map_append, List.sum_append]; simp
theorem sizes_le (l : List ByteArray) (k : Nat) : sizes (l.take k) ≤ sizes l := by
  unfold sizes
  rw [← List.take_append_drop k l, List.map_append, List.sum_append, List.take_append_drop]
  omega
theorem sizes_bd (M : Nat) : ∀ l : List ByteArray, (∀ x ∈ l, x.size ≤ M) → sizes l ≤ l.length * M
  | [], _ => by simp [sizes]
  | x :: l, h => by
    have := sizes_bd M l fun y hy => h y (List.mem_cons_of_mem _ hy)
    have h1 := h x (List.mem_cons_self ..)
    unfold sizes at this ⊢
    rw [List.map_cons, List.sum_cons, List.length_cons, Nat.succ_mul]
    omega
theorem strCells_eq (s : ByteArray) : Lib.strCells s = Lib.byteCells (bytesL s) := rfl
end Go.Pub
namespace Go.Proofs.YtpoafhgbhnblmaaGreatDoor
open Go.RowKit Go.Pub
set_option maxRecDepth 100000 in
set_option maxHeartbeats 1000000 in
theorem join_few (zs : List ByteArray) (A : Option Addr) (c B : Nat) (sep : ByteArray) (w : World) (hr : Reads w B 1 A zs.length (strs zs)) (hn : zs.length ≤ 1) :
    Calls Tryz.prog 122 #[.slice A zs.length c, .string sep] w fun e w' => e = .returned (.string (mk (joinL sep zs))) ∧ w = w' := by
  match zs, hn with
  | [], _ =>
    have HX : Hid (mk (joinL sep []) = ⟨#[]⟩) := Lib.hid rfl
    clear hr
    generalize mk (joinL sep []) = R at *
    go_enter Tryz.func122, Tryz.ntmps122
    go_wp2
    go_ret
    exact ⟨ret_str HX.out.symm, rfl⟩
  | [x], _ =>
    have HX : Hid (mk (joinL sep [x]) = x) := Lib.hid (by show mk (bytesL x ++ []) = x; rw [List.append_nil]; exact mk_bytesL x)
    generalize mk (joinL sep [x]) = R at *
    obtain ⟨b, off, rfl, hb, hcell⟩ := hr.row (by simp) (by omega)
    have hc := hcell 0 _ (strs_at [x] 0 (by simp))
    simp at hc
    clear hcell hr
    go_enter Tryz.func122, Tryz.ntmps122
    go_wp2
    go_ret
    exact ⟨ret_str HX.out.symm, rfl⟩

def JRel (zs : List ByteArray) (sep : ByteArray) (B0 : Nat) (w : World) (i : Value) (wr : World) : Prop :=
  ∃ (k : Nat) (acc : List UInt8), i = .int .i64 k ∧ k + 1 ≤ zs.length ∧ Lib.IsBuilderF 158 5 w.heap.size w.heap.size (Lib.byteCells acc) wr ∧ Below w.heap.size w wr ∧ Hid (acc = joinL sep (zs.take (k + 1))) ∧ acc.length ≤ sizes (zs.take (k + 1)) + k * sep.size ∧ w.heap.size < wr.heap.size
theorem joinL_succ (sep : ByteArray) (zs : List ByteArray) (k : Nat) (h : k + 1 < zs.length) : joinL sep (zs.take (k + 1 + 1)) = joinL sep (zs.take (k + 1)) ++ bytesL sep ++ bytesL zs[k + 1] := by
  match zs, h with
  | x :: r, h =>
    have h' : k < r.length := by simpa using h
    rw [List.take_succ_cons, List.take_succ_cons]
    show bytesL x ++ _ = bytesL x ++ _ ++ bytesL sep ++ bytesL (x :: r)[k + 1]
    rw [List.take_succ_eq_append_getElem h', List.flatMap_append]
    simp
set_option maxRecDepth 100000 in
set_option maxHeartbeats 600000 in
theorem join_many (zs : List ByteArray) (A : Option Addr) (c B : Nat) (sep : ByteArray) (w : World) (hr : Reads w B 1 A zs.length (strs zs)) (hB : B ≤ w.heap.size) (hn : 2 ≤ zs.length) (hc : zs.length ≤ c) (hl : zs.length ≤ 1000000) (ht : sizes zs ≤ 1000000000) (hsep : 0 < sep.size) (hsl : sep.size ≤ 1000) :
    Calls Tryz.prog 122 #[.slice A zs.length c, .string sep] w fun e w' => e = .returned (.string (mk (joinL sep zs))) ∧ Below w.heap.size w w' := by
  have HX : Hid (joinL sep zs = joinL sep (zs.take zs.length)) := Lib.hid (by rw [List.take_length])
  generalize joinL sep zs = R at *
  have HRd := Lib.hid hr
  obtain ⟨b, off, rfl, hb, hcell⟩ := hr.row (by omega) (by omega)
  have HC := Lib.hid fun k (hk : k < zs.length) => hcell k _ (strs_at zs k hk)
  have hc0 := HC.out 0 (by omega)
  clear hcell hr
  have z0 : ((zs.length : Int) == 0) = false := by rw [beq_eq_false_iff_ne]; omega
  have z1 : ((zs.length : Int) == 1) = false := by rw [beq_eq_false_iff_ne]; omega
  have hdv : 9223372036854775807 / 1000000 ≤ (9223372036854775807 : Int) / ((zs.length : Int) - 1) := Int.le_ediv_of_mul_le (by omega) (by omega)
  have hq : decide ((9223372036854775807 : Int) / ((zs.length : Int) - 1) ≤ (sep.size : Int)) = false := decide_eq_false (by omega)
  have hm1 : (sep.size : Int) * ((zs.length : Int) - 1) ≤ 1000 * 1000000 := by
    have := Int.mul_le_mul (a := (sep.size : Int)) (b := (zs.length : Int) - 1) (c := 1000) (d := 1000000) (by omega) (by omega) (by omega) (by omega)
    exact this
  have hm0 : 0 ≤ (sep.size : Int) * ((zs.length : Int) - 1) := Int.mul_nonneg (by omega) (by omega)
  clear hdv
  go_enter Tryz.func122, Tryz.ntmps122
  go_wp2_with fail
  go_loop [5, 41] (fun n i => ∃ k : Nat, i = .int .i64 k ∧ k ≤ zs.length ∧ n = .int .i64 ((sep.size : Int) * ((zs.length : Int) - 1) + (sizes (zs.take k) : Nat))) (fun _ i => zs.length - (intOf i).toNat)
  case atStart => exact ⟨0, rfl, by omega, by simp [sizes]⟩
  case round =>
    obtain ⟨k, rfl, hk, rfl⟩ := hrel
    have hsk := sizes_le zs k
    by_cases hlt : k < zs.length
    · have hck := HC.out k hlt
      have hs1 := Lib.hid (sizes_take zs k hlt)
      have hs2 := sizes_le zs (k + 1)
      have hs3 : sizes (zs.take k) + zs[k].size ≤ 1000000000 := by rw [← hs1.out]; omega
      go_wp2
      go_round
      case rel => exact ⟨k + 1, by go_num, by omega, by rw [hs1.out]; go_num⟩
      case measure => simp [intOf]; omega
    · obtain rfl : k = zs.length := by omega
      have htl := Lib.hid (List.take_length (l := zs))
      have hcast : Hid ((sep.size : Int) * ((zs.length : Int) - 1) + ((sizes zs : Nat) : Int) = ((sep.size * (zs.length - 1) + sizes zs : Nat) : Int)) := Lib.hid (by
        rw [Int.natCast_add, Int.natCast_mul, Int.natCast_sub (by omega)]; rfl)
      have hbig : sep.size * (zs.length - 1) + sizes zs ≤ 281474976710656 := by
        have := Nat.mul_le_mul (show sep.size ≤ 1000 from hsl) (show zs.length - 1 ≤ 1000000 by omega)
        omega
      have HG : Hid (Calls Tryz.prog 175 #[.pointer (some ⟨w.heap.size, 0, none⟩), .int .i64 ((sep.size : Int) * ((zs.length : Int) - 1) + ((sizes zs : Nat) : Int))] (w.alloc (.cells #[.pointer none, .slice none 0 0] 158)) fun e w' => e = .returned (.tuple #[]) ∧ Lib.IsBuilderF 158 5 w.heap.size w.heap.size (Lib.byteCells []) w' ∧ Below w.heap.size (w.alloc (.cells #[.pointer none, .slice none 0 0] 158)) w') := Lib.hid (by
        rw [hcast.out]
        refine (Tryz.Builder_Grow_fresh_cap w.heap.size w.heap.size (sep.size * (zs.length - 1) + sizes zs) _ (Nat.le_refl _) ?_ (by simp) hbig).mono ?_
        · exact heap_alloc_new w _
        · rintro e w' ⟨rfl, ⟨h1, h2⟩, _⟩
          exact ⟨rfl, Or.inr (Lib.BuilderAtF.of h1), h2⟩)
      clear hcast
      have hwc : ∀ (W : World), Below w.heap.size w W → W.cell? ⟨b, off, none⟩ = some (.string zs[0]) := fun W hW => (hW.cell (p := ⟨b, off, none⟩) (by show b < _; omega)).trans hc0
      have HWC := Lib.hid hwc
      clear hwc
      go_wp2_with fail
      ((with_reducible refine HG.out.mono ?_))
      rintro e W1 ⟨rfl, I1, b1⟩
      have bb1 : Below w.heap.size w W1 := ((Below.refl _ w).alloc (Nat.le_refl _) _).trans b1
      have hz1 := b1.size
      simp only [heap_alloc_size] at hz1
      have hd1 := HWC.out W1 bb1
      have KB1 := Lib.hid bb1
      clear bb1 b1
      go_wp2_with fail
      refine (writeString_k w.heap.size w.heap.size _ _ _ I1 (by have := sizes_take zs 0 (by omega); have := sizes_le zs 1; simp [Lib.byteCells_length] at *; omega) (by omega)).mono ?_
      rintro e W2 ⟨rfl, h2, b2, _⟩
      rw [strCells_eq, ← Lib.byteCells_append, List.nil_append] at h2
      have hz2 := b2.size
      have KB2 := Lib.hid (KB1.out.trans b2)
      clear b2 hd1
      have hcn : c ≠ 1 := by omega
      clear hq hm1 hm0 z0 z1 HG hbig hc0
      go_wp2_with fail
      go_loopw [65] (fun v wr => JRel zs sep B w v wr) (fun v _ => zs.length - (intOf v).toNat)
      case atStart =>
        refine ⟨0, bytesL zs[0], rfl, by omega, ?_, KB2.out, Lib.hid ?_, ?_, by omega⟩
        · exact Or.inr h2
        · match zs, hn with
          | x :: r, _ => show bytesL x = bytesL x ++ []; rw [List.append_nil]
        · have := sizes_take zs 0 (by omega)
          rw [bytesL_length]; omega
      case round =>
        obtain ⟨k, acc, rfl, hk, hI, hbw, Hacc, hal, hsz⟩ := hrel
        by_cases hlt : k + 1 < zs.length
        · have hck0 := HC.out (k + 1) hlt
          have hck : wr.cell? ⟨b, off + 1 + k, none⟩ = some (.string zs[k + 1]) := by
            rw [show off + 1 + k = off + (k + 1) by omega]
            exact (hbw.cell (p := ⟨b, off + (k + 1), none⟩) (by show b < _; omega)).trans hck0
          clear hck0
          have hs1 := sizes_take zs (k + 1) hlt
          have hs2 := sizes_le zs (k + 1 + 1)
          have hmul : k * sep.size ≤ 1000000 * 1000 := Nat.mul_le_mul (by omega) hsl
          have hmul2 : (k + 1) * sep.size = k * sep.size + sep.size := Nat.succ_mul _ _
          have HS1 := Lib.hid hs1
          have HM2 := Lib.hid hmul2
          have hlen1 : acc.length + sep.size ≤ 140737488355328 := by omega
          have hlen2 : acc.length + sep.size + zs[k + 1].size ≤ 140737488355328 := by omega
          have hjs := Lib.hid (joinL_succ sep zs k hlt)
          have hal2 : acc.length + sep.size + zs[k + 1].size ≤ sizes (zs.take (k + 1 + 1)) + (k + 1) * sep.size := by omega
          have HAL2 := Lib.hid hal2
          have hkl : k < zs.length - 1 := by omega
          clear hs1 hmul2 hal2
          go_wp2_with fail
          refine (writeString_k w.heap.size w.heap.size _ _ _ hI (by rw [Lib.byteCells_length]; exact hlen1) (by omega)).mono ?_
          rintro e W3 ⟨rfl, h3, b3, _⟩
          rw [strCells_eq, ← Lib.byteCells_append] at h3
          have hz3 := b3.size
          go_wp2_with fail
          refine (writeString_k w.heap.size w.heap.size _ _ _ (Or.inr h3) (by rw [Lib.byteCells_length, List.length_append, bytesL_length]; exact hlen2) (by omega)).mono ?_
          rintro e W4 ⟨rfl, h4, b4, _⟩
          rw [strCells_eq, ← Lib.byteCells_append] at h4
          have hz4 := b4.size
          go_wp2_with fail
          go_roundw
          case rel =>
            refine ⟨k + 1, acc ++ bytesL sep ++ bytesL zs[k + 1], by go_num, by omega, ?_, (hbw.trans b3).trans b4, Lib.hid (by rw [hjs.out, ← Hacc.out]), ?_, by omega⟩
            · exact Or.inr h4
            · rw [List.length_append, List.length_append, bytesL_length, bytesL_length]; exact HAL2.out
          case measure => simp [intOf]; omega
        · have hkl : ¬ k < zs.length - 1 := by omega
          have hkk : Hid (k + 1 = zs.length) := Lib.hid (by omega)
          go_wp2_with fail
          refine (Tryz.Builder_String_any_k w.heap.size w.heap.size acc _ hI (by omega)).mono ?_
          rintro e W1 ⟨rfl, h1, b1, _⟩
          go_wp2
          go_ret
          exact ⟨ret_str (by rw [HX.out, ← hkk.out, ← Hacc.out]; rfl), hbw.trans b1⟩

theorem join_any (zs : List ByteArray) (A : Option Addr) (c B : Nat) (sep : ByteArray) (w : World) (hr : Reads w B 1 A zs.length (strs zs)) (hB : B ≤ w.heap.size) (hc : zs.length ≤ c) (hl : zs.length ≤ 1000000) (ht : sizes zs ≤ 1000000000) (hsep : 0 < sep.size) (hsl : sep.size ≤ 1000) :
    Calls Tryz.prog 122 #[.slice A zs.length c, .string sep] w fun e w' => e = .returned (.string (mk (joinL sep zs))) ∧ Below w.heap.size w w' := by
  by_cases hn : 2 ≤ zs.length
  · exact join_many zs A c B sep w hr hB hn hc hl ht hsep hsl
  · exact (join_few zs A c B sep w hr (by omega)).mono fun e w' h => ⟨h.1, h.2 ▸ Below.refl _ _⟩
end Go.Proofs.YtpoafhgbhnblmaaGreatDoor
namespace Go.Pub
open Go.RowKit
/-- As Reads, the memory's block being one of S. -/
def ReadsS (w : World) (S : Nat → Prop) (size : Nat) (A : Option Addr) (n : Nat) (xs : List Value) : Prop :=
  (xs.length = n * size ∧ n ≤ maxLen) ∧ (0 < n → ∃ ad, A = some ad ∧ S ad.block ∧ ∀ j u, xs[j]? = some u → w.cell? (ad.add j) = some u)
section
variable {w w' : World} {S S' : Nat → Prop} {size n B : Nat} {A : Option Addr} {xs : List Value}
theorem ReadsS.none_ : ReadsS w S size A 0 [] := ⟨⟨by simp, Nat.zero_le _⟩, fun h => absurd h (by omega)⟩
theorem ReadsS.keep (h : ReadsS w S size A n xs) (hk : ∀ g, S g → w'.heap[g]? = w.heap[g]?) (hS : ∀ g, S g → S' g) : ReadsS w' S' size A n xs :=
  ⟨h.1, fun hn => by
    obtain ⟨ad, e, hb, hc⟩ := h.2 hn
    exact ⟨ad, e, hS _ hb, fun j u hu => (World.cell?_of_block (hk _ (by rw [block_of_add]; exact hb))).trans (hc j u hu)⟩⟩
theorem ReadsS.reads (h : ReadsS w S size A n xs) (hS : ∀ g, S g → g < B) : Reads w B size A n xs :=
  ⟨h.1.1, fun hn => by
    obtain ⟨ad, e, hb, hc⟩ := h.2 hn
    exact ⟨ad, e, hS _ hb, hc⟩⟩
theorem ReadsS.row (h : ReadsS w S size A n xs) (hn : 0 < n) (hs : 0 < size) : ∃ b off, A = some ⟨b, off, none⟩ ∧ S b ∧ ∀ j u, xs[j]? = some u → w.cell? ⟨b, off + j, none⟩ = some u := by
  obtain ⟨ad, e, hb, hc⟩ := h.2 hn
  obtain ⟨b, off, sp⟩ := ad
  have hl : 0 < xs.length := by rw [h.1.1]; exact Nat.mul_pos hn hs
  have h0 := hc 0 _ (List.getElem?_eq_getElem hl)
  obtain rfl : sp = none := by simpa [Addr.add] using World.cell?_spot h0
  refine ⟨b, off, e, hb, fun j u hu => ?_⟩
  have := hc j u hu
  unfold Addr.add at this
  by_cases hj : j = 0
  · subst hj; simpa using this
  · simpa [hj] using this
theorem ReadsS.block {g : Nat} {t : TypeId} {cs : Array Value} (h : w.heap[g]? = some (.cells cs t (0, 0))) (hS : S g) (hl : cs.size = n * size) (hn : n ≤ maxLen) : ReadsS w S size (some ⟨g, 0, none⟩) n cs.toList := by
  refine ⟨⟨by rw [Array.length_toList]; exact hl, hn⟩, fun _ => ⟨_, rfl, hS, fun j u hj => ?_⟩⟩
  have := cell_of_row w g j _ t (0, 0) h
  unfold Addr.add
  by_cases h0 : j = 0
  · subst h0; rw [if_pos rfl, this]; simpa using hj
  · rw [if_neg h0]
    show w.cell? ⟨g, 0 + j, none⟩ = _
    rw [Nat.zero_add, this]; simpa using hj
theorem ReadsS.of_own {base c : Nat} {e : TypeId} (h : w.ownsRow base e size (.slice A n c) n xs) : ReadsS w (fun g => base ≤ g ∧ g < w.heap.size) size A n xs := by
  refine ⟨⟨h.1, ?_⟩, fun hn => ?_⟩
  · rcases h.2 with ⟨_, h0⟩ | ⟨g, cap, cur, _, _, _, h1, h2, _⟩
    · omega
    · exact Nat.le_trans h1 h2
  obtain ⟨g, cap, hv, hg1, hlt⟩ := h.form hn
  have hA : A = some ⟨g, 0, none⟩ := by injection hv
  subst hA
  exact ⟨_, rfl, ⟨hg1, hlt⟩, h.cells (g := g) rfl⟩
end
end Go.Pub
