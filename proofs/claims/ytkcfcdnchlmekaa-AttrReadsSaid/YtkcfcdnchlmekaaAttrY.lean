/-
  attr.Same, Empty; the reference's Empty, Has.
-/
import Derived.Test.YtkcfcdnchlmekaaAttrQ
set_option linter.unusedVariables false
set_option linter.unusedSimpArgs false
namespace Go.Proofs.Ytkcfcdnchlmekaa
open Go.RowKit Go.Pub

def emptyB (a : AttrL) : Bool := a.id.toList.isEmpty && (a.cl.length == 0) && (a.pr.length == 0)

set_option maxRecDepth 100000 in
set_option maxHeartbeats 1000000 in
theorem empty_any (w : World) (a : AttrL) (A : Option Addr) (c : Nat) (D : Option Addr) (d : Nat) (hn : a.cl.length ≤ 1000000) (hm : a.pr.length ≤ 1000000) :
    Calls Try.prog 21 #[.agg #[.string a.id, .slice A a.cl.length c, .slice D a.pr.length d]] w fun e w' => e = .returned (.bool (emptyB a)) ∧ Below w.heap.size w w' := by
  have HE : Hid (emptyB a = (a.id.toList.isEmpty && (a.cl.length == 0) && (a.pr.length == 0))) := Lib.hid rfl
  generalize emptyB a = R at *
  have HB : Hid (Below w.heap.size w (w.alloc (.cells #[.string a.id, .slice A a.cl.length c, .slice D a.pr.length d] 27))) := Lib.hid ((Below.refl _ _).alloc (Nat.le_refl _) _)
  by_cases hid : a.id.toList = []
  · have y2 : a.id.toList.isEmpty = true := by rw [hid]; rfl
    by_cases h1 : a.cl.length = 0
    · have z1 : ((a.cl.length : Int) == 0) = true := by rw [h1]; rfl
      have z1' : (a.cl.length == 0) = true := by rw [h1]; rfl
      clear h1
      by_cases h2 : a.pr.length = 0
      · have z2 : ((a.pr.length : Int) == 0) = true := by rw [h2]; rfl
        have z2' : (a.pr.length == 0) = true := by rw [h2]; rfl
        have hR : Hid (R = true) := Lib.hid (by rw [HE.out, y2, z1', z2']; rfl)
        clear h2 z1' z2'
        go_enter Try.func21, Try.ntmps21
        go_wp2_with fail
        go_ret
        exact ⟨ret_bool hR.out.symm, HB.out⟩
      · have z2 : ((a.pr.length : Int) == 0) = false := by rw [beq_eq_false_iff_ne]; omega
        have z2' : (a.pr.length == 0) = false := by rw [beq_eq_false_iff_ne]; omega
        have hR : Hid (R = false) := Lib.hid (by rw [HE.out, y2, z1', z2']; rfl)
        clear h2 z1' z2'
        go_enter Try.func21, Try.ntmps21
        go_wp2_with fail
        go_ret
        exact ⟨ret_bool hR.out.symm, HB.out⟩
    · have z1 : ((a.cl.length : Int) == 0) = false := by rw [beq_eq_false_iff_ne]; omega
      have z1' : (a.cl.length == 0) = false := by rw [beq_eq_false_iff_ne]; omega
      have hR : Hid (R = false) := Lib.hid (by rw [HE.out, y2, z1']; rfl)
      clear h1 z1'
      go_enter Try.func21, Try.ntmps21
      go_wp2_with fail
      go_ret
      exact ⟨ret_bool hR.out.symm, HB.out⟩
  · have y2 : a.id.toList.isEmpty = false := by rw [List.isEmpty_eq_false_iff]; exact hid
    have hR : Hid (R = false) := Lib.hid (by rw [HE.out, y2]; rfl)
    go_enter Try.func21, Try.ntmps21
    go_wp2_with fail
    go_ret
    exact ⟨ret_bool hR.out.symm, HB.out⟩

set_option maxRecDepth 100000 in
set_option maxHeartbeats 1000000 in
theorem rempty_any (w : World) (a : AttrL) (A : Option Addr) (c : Nat) (D : Option Addr) (d : Nat) (hn : a.cl.length ≤ 1000000) (hm : a.pr.length ≤ 1000000) :
    Calls Try.prog 25 #[.agg #[.string a.id, .slice A a.cl.length c, .slice D a.pr.length d]] w fun e w' => e = .returned (.bool (emptyB a)) ∧ Below w.heap.size w w' := by
  have HE : Hid (emptyB a = (a.id.toList.isEmpty && (a.cl.length == 0) && (a.pr.length == 0))) := Lib.hid rfl
  generalize emptyB a = R at *
  have HB : Hid (Below w.heap.size w (w.alloc (.cells #[.string a.id, .slice A a.cl.length c, .slice D a.pr.length d] 27))) := Lib.hid ((Below.refl _ _).alloc (Nat.le_refl _) _)
  by_cases hid : a.id.toList = []
  · have y2 : a.id.toList.isEmpty = true := by rw [hid]; rfl
    by_cases h1 : a.cl.length = 0
    · have z1 : ((a.cl.length : Int) == 0) = true := by rw [h1]; rfl
      have z1' : (a.cl.length == 0) = true := by rw [h1]; rfl
      clear h1
      by_cases h2 : a.pr.length = 0
      · have z2 : ((a.pr.length : Int) == 0) = true := by rw [h2]; rfl
        have z2' : (a.pr.length == 0) = true := by rw [h2]; rfl
        have hR : Hid (R = true) := Lib.hid (by rw [HE.out, y2, z1', z2']; rfl)
        clear h2 z1' z2'
        go_enter Try.func25, Try.ntmps25
        go_wp2_with fail
        go_ret
        exact ⟨ret_bool hR.out.symm, HB.out⟩
      · have z2 : ((a.pr.length : Int) == 0) = false := by rw [beq_eq_false_iff_ne]; omega
        have z2' : (a.pr.length == 0) = false := by rw [beq_eq_false_iff_ne]; omega
        have hR : Hid (R = false) := Lib.hid (by rw [HE.out, y2, z1', z2']; rfl)
        clear h2 z1' z2'
        go_enter Try.func25, Try.ntmps25
        go_wp2_with fail
        go_ret
        exact ⟨ret_bool hR.out.symm, HB.out⟩
    · have z1 : ((a.cl.length : Int) == 0) = false := by rw [beq_eq_false_iff_ne]; omega
      have z1' : (a.cl.length == 0) = false := by rw [beq_eq_false_iff_ne]; omega
      have hR : Hid (R = false) := Lib.hid (by rw [HE.out, y2, z1']; rfl)
      clear h1 z1'
      go_enter Try.func25, Try.ntmps25
      go_wp2_with fail
      go_ret
      exact ⟨ret_bool hR.out.symm, HB.out⟩
  · have y2 : a.id.toList.isEmpty = false := by rw [List.isEmpty_eq_false_iff]; exact hid
    have hR : Hid (R = false) := Lib.hid (by rw [HE.out, y2]; rfl)
    go_enter Try.func25, Try.ntmps25
    go_wp2_with fail
    go_ret
    exact ⟨ret_bool hR.out.symm, HB.out⟩

set_option maxRecDepth 100000 in
set_option maxHeartbeats 1000000 in
theorem rhas_any (id : ByteArray) (A : Option Addr) (c B : Nat) (zs : List ByteArray) (v2 : Value) (x : ByteArray) (w : World) (hB : B ≤ w.heap.size) (hr : Reads w B 1 A zs.length (strs zs)) (hn : zs.length ≤ 1000000) :
    Calls Try.prog 27 #[.agg #[.string id, .slice A zs.length c, v2], .string x] w fun e w' => e = .returned (.bool (Lib.containsS zs x)) ∧ Below w.heap.size w w' := by
  have HC : Hid (∀ W, Reads W B 1 A zs.length (strs zs) → Calls Try.prog 33 #[.slice A zs.length c, .string x] W fun e w' => e = .returned (.bool (Lib.containsS zs x)) ∧ W = w') := Lib.hid fun W hr => hasText_any A c B zs x W hr hn
  have HR := Lib.hid hr
  clear hr
  generalize Lib.containsS zs x = R at *
  go_enter Try.func27, Try.ntmps27
  go_wp2_with fail
  refine (HC.out _ (HR.out.alloc hB _)).mono ?_
  rintro e w1 ⟨rfl, rfl⟩
  go_wp2
  go_ret
  exact ⟨rfl, (Below.refl _ _).alloc (Nat.le_refl _) _⟩

def EqPost {α : Type} (xs ys : List α) (w : World) (e : Ending) (w' : World) : Prop := ∃ (r : Bool) (q : Nat), e = .returned (.bool r) ∧ (r = true ↔ xs = ys) ∧ w' = w.drewN q

theorem eqStr_any (A : Option Addr) (c B : Nat) (xs : List ByteArray) (A' : Option Addr) (c' B' : Nat) (ys : List ByteArray) (w : World) (hr : Reads w B 1 A xs.length (strs xs)) (hr' : Reads w B' 1 A' ys.length (strs ys)) (hn : xs.length ≤ 1000000) (hn' : ys.length ≤ 1000000) :
    Calls Try.prog 43 #[.slice A xs.length c, .slice A' ys.length c'] w (EqPost xs ys w) := by
  by_cases hl : xs.length = ys.length
  · by_cases h0 : xs.length = 0
    · have hx : xs = [] := List.eq_nil_of_length_eq_zero h0
      have hy : ys = [] := List.eq_nil_of_length_eq_zero (by omega)
      subst hx hy
      refine (Try.slices_Equal_string_empty A A' c 0 c' w (by omega)).mono ?_
      rintro e w' ⟨rfl, rfl⟩
      exact ⟨true, 0, rfl, ⟨fun _ => rfl, fun _ => rfl⟩, rfl⟩
    · obtain ⟨b, o, rfl, _, hc⟩ := hr.row (by omega) (by omega)
      obtain ⟨b', o', rfl, _, hc'⟩ := hr'.row (by omega) (by omega)
      refine (Try.slices_Equal_string b o xs.length c b' o' ys.length c' xs ys w (Nat.le_refl _) (Nat.le_refl _) (by omega) (by omega) (fun j hj => ?_) (fun j hj => ?_)).mono ?_
      · have := hc j _ (strs_at xs j hj)
        rw [this]; simp [List.getD_eq_getElem?_getD, List.getElem?_eq_getElem hj]
      · have := hc' j _ (strs_at ys j hj)
        rw [this]; simp [List.getD_eq_getElem?_getD, List.getElem?_eq_getElem hj]
      · rintro e w' ⟨rfl, q, rfl⟩
        refine ⟨_, q, rfl, ?_, rfl⟩
        rw [decide_eq_true_eq, List.take_length, List.take_length]
  · refine (Try.slices_Equal_string_lens A A' xs.length c ys.length c' w hl).mono ?_
    rintro e w' ⟨rfl, rfl⟩
    exact ⟨false, 0, rfl, ⟨fun h => absurd h (by decide), fun h => absurd (by rw [h]) hl⟩, rfl⟩

set_option maxRecDepth 100000 in
set_option maxHeartbeats 2000000 in
theorem eqPair_any (A : Option Addr) (c B : Nat) (xs : List (ByteArray × ByteArray)) (A' : Option Addr) (c' B' : Nat) (ys : List (ByteArray × ByteArray)) (w : World) (hr : Reads w B 2 A xs.length (prs xs)) (hr' : Reads w B' 2 A' ys.length (prs ys)) (hn : xs.length ≤ 1000000) (hn' : ys.length ≤ 1000000) :
    Calls Try.prog 44 #[.slice A xs.length c, .slice A' ys.length c'] w (EqPost xs ys w) := by
  have HQ := Lib.hid pair_eq
  have HR := Lib.hid hr
  have HR' := Lib.hid hr'
  clear hr hr'
  by_cases e2 : xs.length = ys.length
  · have z2 : ((xs.length : Int) != (ys.length : Int)) = false := by rw [e2]; simp
    have z2' : (xs.length != ys.length) = false := by rw [e2]; simp
    have E2 := Lib.hid e2
    clear e2
    go_enter Try.func44, Try.ntmps44
    go_wp2_with fail
    go_loopw [13] (fun v wr => ∃ k q : Nat, v = .int .i64 k ∧ k ≤ xs.length ∧ Hid (wr = w.drewN q) ∧ Hid (∀ j, j < k → xs[j]? = ys[j]?)) (fun v _ => xs.length - (intOf v).toNat)
    case atStart => exact ⟨0, 0, rfl, by omega, Lib.hid rfl, Lib.hid fun j hj => absurd hj (by omega)⟩
    case round =>
      obtain ⟨k, q, rfl, hk, KW, KN⟩ := hrel
      by_cases hlt : k < xs.length
      · have hlt' : k < ys.length := by rw [← E2.out]; exact hlt
        have hrd : Reads wr B 2 A xs.length (prs xs) := by rw [KW.out]; exact HR.out.drewN q
        have hrd' : Reads wr B' 2 A' ys.length (prs ys) := by rw [KW.out]; exact HR'.out.drewN q
        obtain ⟨b1, o1, rfl, l1, hcell⟩ := hrd.row (by omega) (by omega)
        have hc1 := hcell _ _ (prs_at xs k hlt).1
        have hc2 := hcell _ _ (prs_at xs k hlt).2
        rw [← Nat.add_assoc] at hc2
        clear hcell hrd
        obtain ⟨b2, o2, rfl, l2, hcell⟩ := hrd'.row (by omega) (by omega)
        have hc3 := hcell _ _ (prs_at ys k hlt').1
        have hc4 := hcell _ _ (prs_at ys k hlt').2
        rw [← Nat.add_assoc] at hc4
        clear hcell hrd'
        have i0 : (0 : Int) ≤ (k : Int) := Int.natCast_nonneg _
        have i1 : (k : Int) < (xs.length : Int) := by omega
        have i2 : (k : Int) < (ys.length : Int) := by omega
        have hak := Lib.hid (List.getElem?_eq_getElem hlt)
        have hbk := Lib.hid (List.getElem?_eq_getElem hlt')
        have hq := HQ.out xs[k].1 xs[k].2 ys[k].1 ys[k].2
        by_cases he : xs[k] = ys[k]
        · have y2 : (xs[k].1.toList == ys[k].1.toList) = true := (Lib.bytes_beq_iff _ _).2 (by rw [he])
          have y3 : (xs[k].2.toList == ys[k].2.toList) = true := (Lib.bytes_beq_iff _ _).2 (by rw [he])
          rw [y2, y3, Bool.and_self] at hq
          have HE := Lib.hid he
          clear he y2 y3
          go_wp2_with fail
          go_quiet (fail)
          go_wp2_with fail
          go_roundw
          case rel =>
            refine ⟨k + 1, _, by go_num, by omega, Lib.hid (by rw [KW.out, World.drewN_drewN]), Lib.hid fun j hj => ?_⟩
            by_cases hj' : j < k
            · exact KN.out j hj'
            · obtain rfl : j = k := by omega
              rw [hak.out, hbk.out, HE.out]
          case measure => simp [intOf]; omega
        · have y2 : (xs[k].1.toList == ys[k].1.toList && xs[k].2.toList == ys[k].2.toList) = false := by
            rw [← Bool.not_eq_true, Bool.and_eq_true, Lib.bytes_beq_iff, Lib.bytes_beq_iff]
            intro h2; exact he (Prod.ext h2.1 h2.2)
          rw [y2] at hq
          have hne : Hid (xs ≠ ys) := Lib.hid fun e => he (by
            have := hak.out.symm.trans ((congrArg (fun l : List (ByteArray × ByteArray) => l[k]?) e).trans hbk.out)
            injection this)
          clear he y2
          go_wp2_with fail
          go_quiet (fail)
          go_wp2_with fail
          go_ret
          exact ⟨false, _, rfl, ⟨fun h => absurd h (by decide), fun h => absurd h hne.out⟩, by rw [KW.out, World.drewN_drewN]⟩
      · have hpr : Hid (xs = ys) := Lib.hid (List.ext_getElem? fun j => by
          by_cases hj : j < xs.length
          · exact KN.out j (by omega)
          · rw [List.getElem?_eq_none (by omega), List.getElem?_eq_none (by rw [← E2.out]; omega)])
        go_wp2_with fail
        go_ret
        exact ⟨true, q, rfl, ⟨fun _ => hpr.out, fun _ => rfl⟩, KW.out⟩
  · have z2 : ((xs.length : Int) != (ys.length : Int)) = true := by simp; omega
    have z2' : (xs.length != ys.length) = true := by simp; omega
    have hne : Hid (xs ≠ ys) := Lib.hid fun e => e2 (by rw [e])
    clear e2
    go_enter Try.func44, Try.ntmps44
    go_wp2_with fail
    go_ret
    exact ⟨false, 0, rfl, ⟨fun h => absurd h (by decide), fun h => absurd h hne.out⟩, rfl⟩

set_option maxRecDepth 100000 in
set_option maxHeartbeats 2000000 in
theorem same_any (w : World) (a b : AttrL) (A : Option Addr) (c : Nat) (D : Option Addr) (d B : Nat) (A' : Option Addr) (c' : Nat) (D' : Option Addr) (d' B' : Nat) (h : ReadA w B a A c D d) (h' : ReadA w B' b A' c' D' d') :
    Calls Try.prog 22 #[.agg #[.string a.id, .slice A a.cl.length c, .slice D a.pr.length d], .agg #[.string b.id, .slice A' b.cl.length c', .slice D' b.pr.length d']] w (SamePost a b w) := by
  have HI := Lib.hid (AttrL.eq_iff a b)
  have HS1 : Hid (∀ W, Below w.heap.size w W → Calls Try.prog 43 #[.slice A a.cl.length c, .slice A' b.cl.length c'] W (EqPost a.cl b.cl W)) := Lib.hid fun W hW => eqStr_any A c _ a.cl A' c' _ b.cl W (h.below hW).cls (h'.below hW).cls h.nc h'.nc
  have HS2 : Hid (∀ W, Below w.heap.size w W → Calls Try.prog 44 #[.slice D a.pr.length d, .slice D' b.pr.length d'] W (EqPost a.pr b.pr W)) := Lib.hid fun W hW => eqPair_any D d _ a.pr D' d' _ b.pr W (h.below hW).prs (h'.below hW).prs h.np h'.np
  have HB : Hid (Below w.heap.size w ((w.alloc (.cells #[.string a.id, .slice A a.cl.length c, .slice D a.pr.length d] 27)).alloc (.cells #[.string b.id, .slice A' b.cl.length c', .slice D' b.pr.length d'] 27))) := Lib.hid (((Below.refl _ _).alloc (Nat.le_refl _) _).alloc (by simp) _)
  clear h h'
  by_cases e1 : a.id = b.id
  · have y1 : (a.id.toList == b.id.toList) = true := (Lib.bytes_beq_iff _ _).2 e1
    have E1 := Lib.hid e1
    clear e1
    go_enter Try.func22, Try.ntmps22
    go_wp2_with fail
    ((with_reducible refine (HS1.out _ HB.out).mono ?_))
    rintro e w1 ⟨r1, q1, rfl, hr1, rfl⟩
    have HR1 := Lib.hid hr1
    clear hr1
    cases r1
    · go_wp2_with fail
      go_ret
      refine ⟨false, rfl, ⟨fun h => absurd h (by decide), fun h => ?_⟩, below_drewN HB.out _⟩
      have := HR1.out.2 (HI.out.1 h).2.1
      cases this
    · go_wp2_with fail
      ((with_reducible refine (HS2.out _ (below_drewN HB.out _)).mono ?_))
      rintro e w2 ⟨r2, q2, rfl, hr2, rfl⟩
      have HR2 := Lib.hid hr2
      clear hr2
      go_wp2_with fail
      go_ret
      exact ⟨r2, rfl, ⟨fun h => HI.out.2 ⟨E1.out, HR1.out.1 (by first | rfl | trivial), HR2.out.1 h⟩, fun h => HR2.out.2 (HI.out.1 h).2.2⟩, below_drewN HB.out _⟩
  · have y1 : (a.id.toList == b.id.toList) = false := (Lib.bytes_beq_false_iff _ _).2 e1
    have hne : Hid (a ≠ b) := Lib.hid fun e => e1 (HI.out.1 e).1
    clear e1
    go_enter Try.func22, Try.ntmps22
    go_wp2_with fail
    go_ret
    exact ⟨false, rfl, ⟨fun h => absurd h (by decide), fun h => absurd h hne.out⟩, HB.out⟩
end Go.Proofs.Ytkcfcdnchlmekaa
