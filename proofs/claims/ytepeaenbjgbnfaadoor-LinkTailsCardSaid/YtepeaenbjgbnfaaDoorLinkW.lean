/-
  The reference's white, closed, inside, Read (layer 8).
-/
import Derived.Test.YtepeaenbjgbnfaaDoorLinkT
import Derived.Test.YtepeaenbjgbnfaaDoorLinkM
set_option linter.unusedVariables false
set_option linter.unusedSimpArgs false
namespace Go.Proofs.YtepeaenbjgbnfaaDoor
open Go.RowKit Go.Pub

set_option maxRecDepth 100000 in
set_option maxHeartbeats 1000000 in
theorem r_white (s : ByteArray) (i : Nat) (w : World) (hs : s.size ≤ 1000000) (hi : i ≤ s.size) :
    Calls Tryd.prog 45 #[.string s, .int .i64 i] w fun e w' => e = .returned (.int .i64 (skipA s i)) ∧ w = w' := by
  generalize hR : skipA s i = R at *
  have HR := Lib.hid hR
  clear hR
  go_enter Tryd.func45, Tryd.ntmps45
  go_wp2
  go_loop [1] (fun v => ∃ k : Nat, i ≤ k ∧ k ≤ s.size ∧ v = .int .i64 k ∧ Hid (skipA s k = R)) (fun v => s.size - (intOf v).toNat)
  case atStart => exact ⟨i, by omega, by omega, rfl, HR⟩
  case round =>
    obtain ⟨k, hk1, hk, rfl, Hk⟩ := hrel
    by_cases hlt : k < s.size
    · have hlt2 : ((s[k].toNat : Nat) : Int) < 256 := by rw [get_bt s k hlt]; have := bt_lt s k; omega
      have HC : Hid (∀ W, Calls Tryd.prog 32 #[.int .i64 ((s[k].toNat : Nat) : Int)] W fun e w' => e = .returned (.bool (spaceB (bt s k : Int))) ∧ W = w') := Lib.hid fun W => by
        rw [get_bt s k hlt]; exact rSpace_any _ W
      cases hsp : spaceB (bt s k : Int)
      · have HF : Hid (k = R) := Lib.hid (by rw [← Hk.out, skipA_no s k hlt hsp])
        rw [hsp] at HC
        clear hsp
        go_wp2_with fail
        ((with_reducible refine (HC.out _).mono ?_))
        rintro e w' ⟨rfl, rfl⟩
        go_wp2
        go_ret
        exact ⟨ret_int (by rw [HF.out]), rfl⟩
      · have HF : Hid (skipA s (k + 1) = R) := Lib.hid (by rw [← Hk.out, skipA_yes s k hlt hsp])
        rw [hsp] at HC
        clear hsp
        go_wp2_with fail
        ((with_reducible refine (HC.out _).mono ?_))
        rintro e w' ⟨rfl, rfl⟩
        go_wp2
        go_round
        case rel => exact ⟨k + 1, by omega, by omega, by go_num, HF⟩
        case measure => simp [intOf]; omega
    · have HF : Hid (k = R) := Lib.hid (by rw [← Hk.out, skipA_end s k (by omega)])
      go_wp2_with fail
      go_ret
      exact ⟨ret_int (by rw [HF.out]), rfl⟩

theorem blk5 {W : World} {g : Nat} {T : TypeId} {a b c d e : Value} (h : Blk W g T #[a, b, c, d, e]) (x y z u v : Value) : Blk (((((W.setCell ⟨g, 0, none⟩ x).setCell ⟨g, 1, none⟩ y).setCell ⟨g, 2, none⟩ z).setCell ⟨g, 3, none⟩ u).setCell ⟨g, 4, none⟩ v) g T #[x, y, z, u, v] := by
  have h1 := h.set_ 0 x
  rw [show (#[a, b, c, d, e] : Array Value).setIfInBounds 0 x = #[x, b, c, d, e] from rfl] at h1
  have h2 := h1.set_ 1 y
  rw [show (#[x, b, c, d, e] : Array Value).setIfInBounds 1 y = #[x, y, c, d, e] from rfl] at h2
  have h3 := h2.set_ 2 z
  rw [show (#[x, y, c, d, e] : Array Value).setIfInBounds 2 z = #[x, y, z, d, e] from rfl] at h3
  have h4 := h3.set_ 3 u
  rw [show (#[x, y, z, d, e] : Array Value).setIfInBounds 3 u = #[x, y, z, u, e] from rfl] at h4
  exact h4.set_ 4 v
theorem below5 {B : Nat} {w W : World} (h : Below B w W) {g : Nat} (hg : B ≤ g) (x y z u v : Value) : Below B w (((((W.setCell ⟨g, 0, none⟩ x).setCell ⟨g, 1, none⟩ y).setCell ⟨g, 2, none⟩ z).setCell ⟨g, 3, none⟩ u).setCell ⟨g, 4, none⟩ v) :=
  ((((h.setCell (p := ⟨g, 0, none⟩) hg x).setCell (p := ⟨g, 1, none⟩) hg y).setCell (p := ⟨g, 2, none⟩) hg z).setCell (p := ⟨g, 3, none⟩) hg u).setCell (p := ⟨g, 4, none⟩) hg v

theorem _root_.Go.Pub.Blk.new2 (w : World) (o : Obj) (t : TypeId) (cs : Array Value) : Blk ((w.alloc o).alloc (.cells cs t)) (w.heap.size + 1) t cs := by
  have := Blk.new (w.alloc o) t cs
  rw [show (w.alloc o).heap.size = w.heap.size + 1 by simp] at this
  exact this

/-- A tail as the reference has it. -/
def fndTup : Option Tl → ByteArray × ByteArray × ByteArray × Int × Bool
  | none => (⟨#[]⟩, ⟨#[]⟩, ⟨#[]⟩, 0, false)
  | some r => (mk r.d, mk r.t, mk r.l, r.n, true)
def fndV (f : ByteArray × ByteArray × ByteArray × Int × Bool) : Value := .agg #[.string f.1, .string f.2.1, .string f.2.2.1, .int .i64 f.2.2.2.1, .bool f.2.2.2.2]
def FndPost (r : Option Tl) (w : World) (e : Ending) (w' : World) : Prop := e = .returned (fndV (fndTup r)) ∧ Below w.heap.size w w'
/-- The block of a tail that is all zero. -/
def Z5 (W : World) (g : Nat) : Prop := Blk W g 29 #[.string ⟨#[]⟩, .string ⟨#[]⟩, .string ⟨#[]⟩, .int .i64 0, .bool false]
theorem Z5.facts {W : World} {g : Nat} (h : Z5 W g) : W.cell? ⟨g, 0, none⟩ = some (.string ⟨#[]⟩) ∧ W.cell? ⟨g, 1, none⟩ = some (.string ⟨#[]⟩) ∧ W.cell? ⟨g, 2, none⟩ = some (.string ⟨#[]⟩) ∧ W.cell? ⟨g, 3, none⟩ = some (.int .i64 0) ∧ W.cell? ⟨g, 4, none⟩ = some (.bool false) ∧ W.frozen? ⟨g, 0, none⟩ = false ∧ W.frozen? ⟨g, 1, none⟩ = false ∧ W.frozen? ⟨g, 2, none⟩ = false ∧ W.frozen? ⟨g, 3, none⟩ = false ∧ W.frozen? ⟨g, 4, none⟩ = false :=
  ⟨h.cell 0, h.cell 1, h.cell 2, h.cell 3, h.cell 4, h.frozen 0, h.frozen 1, h.frozen 2, h.frozen 3, h.frozen 4⟩

theorem closed_ret {W : World} {g : Nat} {x y z u v : Value} {P : Ending → World → Prop} {act : Act} (hr : Blk W g 29 #[x, y, z, u, v]) (h4 : act.tmps.getD 6 undef = .pointer (some ⟨g, 0, none⟩))
    (hd : act.defers = []) (hP : P (.returned (.agg #[x, y, z, u, v])) W) : bodyPost Tryd.prog Tryd.f46 P Exit.ret act W := by
  have c0 : W.cell? ⟨g, 0, none⟩ = some x := hr.cell 0
  have c1 : W.cell? ⟨g, 1, none⟩ = some y := hr.cell 1
  have c2 : W.cell? ⟨g, 2, none⟩ = some z := hr.cell 2
  have c3 : W.cell? ⟨g, 3, none⟩ = some u := hr.cell 3
  have c4 : W.cell? ⟨g, 4, none⟩ = some v := hr.cell 4
  refine bodyPost_ret (v := .agg #[x, y, z, u, v]) ?_ hd hP
  rw [Array.getD_eq_getD_getElem?] at h4
  simp [results, Tryd.results46, go_sem, h4, c0, c1, c2, c3, c4]

/-- What closed returns. -/
def closedR (s : ByteArray) (d t : List UInt8) (i : Nat) : Option Tl := if i < s.size ∧ bt s i = 41 then some ⟨d, t, [], i + 1⟩ else none

set_option maxRecDepth 100000 in
set_option maxHeartbeats 4000000 in
theorem r_closed (s : ByteArray) (d t : List UInt8) (i : Nat) (w : World) (hs : s.size ≤ 1000000) (hi : i ≤ s.size) :
    Calls Tryd.prog 46 #[.string s, .int .i64 i, .agg #[.string (mk d), .string (mk t), .string ⟨#[]⟩, .int .i64 0, .bool false]] w (FndPost (closedR s d t i) w) := by
  by_cases h : i < s.size ∧ bt s i = 41
  · have HR : Hid (closedR s d t i = some ⟨d, t, [], i + 1⟩) := Lib.hid (if_pos h)
    obtain ⟨hlt, hc⟩ := h
    generalize closedR s d t i = R at *
    have z0 : (((s[i].toNat : Nat) : Int) != 41) = false := by rw [get_bt s i hlt, hc]; rfl
    have zj : decide (s.size ≤ i) = false := by simp; omega
    clear hc
    go_enter Tryd.func46, Tryd.ntmps46
    go_wp2
    refine closed_ret (Blk.new2 _ _ _ _) rfl rfl ⟨by rw [HR.out]; rfl, ?_⟩
    exact ((Below.refl _ _).alloc (Nat.le_refl _) _).alloc (by simp) _
  · have HR : Hid (closedR s d t i = none) := Lib.hid (if_neg h)
    generalize closedR s d t i = R at *
    by_cases hlt : i < s.size
    · have z0 : (((s[i].toNat : Nat) : Int) != 41) = true := by rw [get_bt s i hlt]; simp; omega
      have zj : decide (s.size ≤ i) = false := by simp; omega
      clear h
      go_enter Tryd.func46, Tryd.ntmps46
      go_wp2
      refine closed_ret (Blk.new2 _ _ _ _) rfl rfl ⟨by rw [HR.out]; rfl, ?_⟩
      exact ((Below.refl _ _).alloc (Nat.le_refl _) _).alloc (by simp) _
    · have zj : decide (s.size ≤ i) = true := by simp; omega
      clear h
      go_enter Tryd.func46, Tryd.ntmps46
      go_wp2
      refine closed_ret (Blk.new2 _ _ _ _) rfl rfl ⟨by rw [HR.out]; rfl, ?_⟩
      exact ((Below.refl _ _).alloc (Nat.le_refl _) _).alloc (by simp) _

theorem inside_ret {W : World} {g : Nat} {x y z u v : Value} {P : Ending → World → Prop} {act : Act} (hr : Blk W g 29 #[x, y, z, u, v]) (h4 : act.tmps.getD 4 undef = .pointer (some ⟨g, 0, none⟩))
    (hd : act.defers = []) (hP : P (.returned (.agg #[x, y, z, u, v])) W) : bodyPost Tryd.prog Tryd.f27 P Exit.ret act W := by
  have c0 : W.cell? ⟨g, 0, none⟩ = some x := hr.cell 0
  have c1 : W.cell? ⟨g, 1, none⟩ = some y := hr.cell 1
  have c2 : W.cell? ⟨g, 2, none⟩ = some z := hr.cell 2
  have c3 : W.cell? ⟨g, 3, none⟩ = some u := hr.cell 3
  have c4 : W.cell? ⟨g, 4, none⟩ = some v := hr.cell 4
  refine bodyPost_ret (v := .agg #[x, y, z, u, v]) ?_ hd hP
  rw [Array.getD_eq_getD_getElem?] at h4
  simp [results, Tryd.results27, go_sem, h4, c0, c1, c2, c3, c4]

/-- What stands behind the opening parenthesis. -/
theorem par_none (s : ByteArray) (i : Nat) (hi : i < s.size) (h : bt s i = 40) (c1 : ¬ (skipA s (i + 1) < s.size ∧ bt s (skipA s (i + 1)) = 41)) (hd : destR s (skipA s (i + 1) : Nat) = none) : tailR s i = none := by
  unfold tailR; rw [if_pos ⟨by omega, by omega⟩, Int.toNat_natCast, if_pos h]; simp only; rw [if_neg c1, hd]; rfl
theorem par_zero (s : ByteArray) (i : Nat) (hi : i < s.size) (h : bt s i = 40) (c1 : skipA s (i + 1) < s.size ∧ bt s (skipA s (i + 1)) = 41) : tailR s i = closedR s [] [] (skipA s (i + 1)) := by
  unfold tailR closedR; rw [if_pos ⟨by omega, by omega⟩, Int.toNat_natCast, if_pos h]; simp only; rw [if_pos c1, if_pos c1]
theorem title_at {s : ByteArray} {n : Nat} {q : List UInt8 × Nat} (h : titleR s (n : Nat) = some q) : n < s.size ∧ bt s n ≠ 41 := by
  unfold titleR at h
  split at h
  · rename_i hh
    rw [Int.toNat_natCast] at h
    refine ⟨by omega, ?_⟩
    intro e
    rw [e] at h
    simp at h
  · simp at h
theorem par_some (s : ByteArray) (i p : Nat) (t : List UInt8) (hi : i < s.size) (h : bt s i = 40) (c1 : ¬ (skipA s (i + 1) < s.size ∧ bt s (skipA s (i + 1)) = 41)) (hd : destR s (skipA s (i + 1) : Nat) = some (t, p)) :
    (∀ u m, p < skipA s p → titleR s (skipA s p : Nat) = some (u, m) → tailR s i = closedR s t u (skipA s m)) ∧ ((p < skipA s p → titleR s (skipA s p : Nat) = none) → tailR s i = closedR s t [] (skipA s p)) := by
  have e : tailR s i = if skipA s p < s.size then
          if bt s (skipA s p) = 41 then some ⟨t, [], [], skipA s p + 1⟩
          else if p < skipA s p then (titleR s (skipA s p : Nat)).bind fun q =>
            if skipA s q.2 < s.size ∧ bt s (skipA s q.2) = 41 then some ⟨t, q.1, [], skipA s q.2 + 1⟩ else none
          else none
        else none := by
    unfold tailR; rw [if_pos ⟨by omega, by omega⟩, Int.toNat_natCast, if_pos h]; simp only; rw [if_neg c1, hd]; rfl
  constructor
  · intro u m hp ht
    obtain ⟨h1, h2⟩ := title_at ht
    rw [e, if_pos h1, if_neg h2, if_pos hp, ht]
    rfl
  · intro hn
    rw [e]
    unfold closedR
    by_cases k1 : skipA s p < s.size
    · rw [if_pos k1]
      by_cases k2 : bt s (skipA s p) = 41
      · rw [if_pos k2, if_pos ⟨k1, k2⟩]
      · rw [if_neg k2]
        by_cases k3 : p < skipA s p
        · rw [if_pos k3, hn k3, if_neg (fun e => k2 e.2)]; rfl
        · rw [if_neg k3, if_neg (fun e => k2 e.2)]
    · rw [if_neg k1, if_neg (fun e => k1 e.1)]

set_option maxRecDepth 100000 in
set_option maxHeartbeats 8000000 in
theorem r_inside (s : ByteArray) (i : Nat) (w : World) (hs : s.size ≤ 1000000) (hi : i < s.size) (h : bt s i = 40) :
    Calls Tryd.prog 27 #[.string s, .int .i64 i] w (FndPost (tailR s i) w) := by
  have HZ := Lib.hid (par_zero s i hi h)
  have HN := Lib.hid (par_none s i hi h)
  have HS := Lib.hid fun p t => par_some s i p t hi h
  have HK : Hid (∀ W, Calls Tryd.prog 45 #[.string s, .int .i64 ((i : Int) + 1)] W fun e w' => e = .returned (.int .i64 (skipA s (i + 1))) ∧ W = w') := Lib.hid fun W => r_white s (i + 1) W hs (by omega)
  generalize tailR s i = R at *
  obtain ⟨ha1, ha2⟩ := skipA_le s _ (i + 1) (Nat.le_refl _) (by omega)
  clear h
  have HD := Lib.hid fun W => r_dest s (skipA s (i + 1) : Nat) W hs
  generalize skipA s (i + 1) = a at *
  have HB0 : Hid (∀ n, Z5 ((w.alloc (.cells #[.string ⟨#[]⟩, .string ⟨#[]⟩, .string ⟨#[]⟩, .int .i64 0, .bool false] 29)).drewN n) w.heap.size) := Lib.hid fun n => (Blk.new w _ _).drewN n
  have HL0 : Hid (∀ w1, Below (w.heap.size + 1) (w.alloc (.cells #[.string ⟨#[]⟩, .string ⟨#[]⟩, .string ⟨#[]⟩, .int .i64 0, .bool false] 29)) w1 → Below w.heap.size w w1) := Lib.hid fun w1 b => ((Below.refl _ _).alloc (Nat.le_refl _) _).trans (b.mono (by omega))
  by_cases c1 : a < s.size ∧ bt s a = 41
  · have HF := Lib.hid (HZ.out c1)
    have HC : Hid (∀ W, Calls Tryd.prog 46 #[.string s, .int .i64 a, .agg #[.string ⟨#[]⟩, .string ⟨#[]⟩, .string ⟨#[]⟩, .int .i64 0, .bool false]] W (FndPost (closedR s [] [] a) W)) := Lib.hid fun W => r_closed s [] [] a W hs (by omega)
    obtain ⟨c1, c2⟩ := c1
    have z1 : (((s[a].toNat : Nat) : Int) == 41) = true := by rw [get_bt s a c1, c2]; rfl
    clear c2 HZ HN HS HD
    rw [← HF.out] at HC
    clear HF
    generalize hF : fndTup R = F at *
    obtain ⟨f0, f1, f2, f3, f4⟩ := F
    have HFT := Lib.hid hF
    clear hF
    go_enter Tryd.func27, Tryd.ntmps27
    go_wp2_with fail
    ((with_reducible refine (HK.out _).mono ?_))
    rintro e w0 ⟨rfl, rfl⟩
    go_wp2_with fail
    ((with_reducible refine (HC.out _).mono ?_))
    rintro e w1 ⟨he, b1⟩
    rw [HFT.out] at he
    dsimp only [fndV] at he
    subst he
    have HB1 := Lib.hid (show Z5 w1 w.heap.size from Blk.below (HB0.out 0) b1 (by simp))
    obtain ⟨k0, k1, k2, k3, k4, y0, y1, y2, y3, y4⟩ := Z5.facts HB1.out
    go_wp2
    exact inside_ret (blk5 HB1.out _ _ _ _ _) rfl rfl ⟨by rw [HFT.out]; rfl, below5 (HL0.out _ (by simpa using b1)) (Nat.le_refl _) _ _ _ _ _⟩
  have hw : s.size ≤ a ∨ ∃ hlt : a < s.size, (((s[a].toNat : Nat) : Int) == 41) = false := by
    by_cases hlt : a < s.size
    · right; exact ⟨hlt, by rw [get_bt s a hlt, beq_eq_false_iff_ne]; have : bt s a ≠ 41 := fun e => c1 ⟨hlt, e⟩
                            omega⟩
    · left; omega
  have HN2 := Lib.hid (HN.out c1)
  have HS2 := Lib.hid fun p t => HS.out p t c1
  have hle : ∀ r, destR s (a : Nat) = some r → a < r.2 ∧ r.2 ≤ s.size := fun r hr => by have := destR_le hr; omega
  have HLE := Lib.hid hle
  clear hle HZ HN HS c1
  generalize destR s (a : Nat) = D at *
  cases D with
  | none =>
    have HF : Hid (R = none) := Lib.hid (HN2.out rfl)
    clear HN2 HS2 HLE
    rcases hw with hw | ⟨hlt, z1⟩
    all_goals
      go_enter Tryd.func27, Tryd.ntmps27
      go_wp2_with fail
      ((with_reducible refine (HK.out _).mono ?_))
      rintro e w0 ⟨rfl, rfl⟩
      go_wp2_with fail
      ((with_reducible refine (HD.out _).mono ?_))
      rintro e w1 ⟨he, b1⟩
      dsimp only [partVal] at he
      subst he
      have hz1 := b1.size
      have HB1 := Lib.hid (show Z5 w1 w.heap.size from Blk.below (HB0.out 0) b1 (by simp))
      have HB2 := Lib.hid (Blk.alloc HB1.out (.cells #[.string ⟨#[]⟩, .int .i64 0, .bool false] 42))
      obtain ⟨k0, k1, k2, k3, k4, y0, y1, y2, y3, y4⟩ := Z5.facts HB2.out
      go_wp2
      exact inside_ret (blk5 HB2.out _ _ _ _ _) rfl rfl ⟨by rw [HF.out]; rfl, below5 ((HL0.out _ (by simpa using b1)).alloc (by simp at hz1; omega) _) (Nat.le_refl _) _ _ _ _ _⟩
  | some r =>
    obtain ⟨t, p⟩ := r
    obtain ⟨hp1, hp2⟩ := HLE.out _ rfl
    simp only at hp1 hp2
    rcases hw with hw | ⟨hlt, z1⟩
    · omega
    obtain ⟨hsA, hsB⟩ := HS2.out p t rfl
    have HSA := Lib.hid hsA
    have HSB := Lib.hid hsB
    clear hsA hsB HS2 HN2 HLE
    have HK2 := Lib.hid fun W => r_white s p W hs hp2
    obtain ⟨hn1, hn2⟩ := skipA_le s _ p (Nat.le_refl _) hp2
    generalize skipA s p = n at *
    have HT := Lib.hid fun W => r_title s (n : Nat) W hs
    have hle : ∀ r, titleR s (n : Nat) = some r → r.2 ≤ s.size := fun r hr => (titleR_le hr).2.1
    have HLE := Lib.hid hle
    clear hle
    generalize titleR s (n : Nat) = T at *
    by_cases hpn : p < n
    · cases T with
      | none =>
        have HF := Lib.hid (HSB.out (fun _ => rfl))
        have HC : Hid (∀ W, Calls Tryd.prog 46 #[.string s, .int .i64 n, .agg #[.string (mk t), .string ⟨#[]⟩, .string ⟨#[]⟩, .int .i64 0, .bool false]] W (FndPost (closedR s t [] n) W)) := Lib.hid fun W => r_closed s t [] n W hs (by omega)
        rw [← HF.out] at HC
        clear HF HSA HSB HLE
        generalize hF : fndTup R = F at *
        obtain ⟨f0, f1, f2, f3, f4⟩ := F
        have HFT := Lib.hid hF
        clear hF
        go_enter Tryd.func27, Tryd.ntmps27
        go_wp2_with fail
        ((with_reducible refine (HK.out _).mono ?_))
        rintro e w0 ⟨rfl, rfl⟩
        go_wp2_with fail
        ((with_reducible refine (HD.out _).mono ?_))
        rintro e w1 ⟨he, b1⟩
        dsimp only [partVal] at he
        subst he
        have hz1 : w.heap.size + 1 ≤ w1.heap.size := by have := b1.size; simp at this; omega
        have HB1 := Lib.hid (show Z5 w1 w.heap.size from Blk.below (HB0.out 0) b1 (by simp))
        have HL1 := Lib.hid (HL0.out _ (by simpa using b1))
        clear b1
        go_wp2_with fail
        ((with_reducible refine (HK2.out _).mono ?_))
        rintro e w0 ⟨rfl, rfl⟩
        go_wp2_with fail
        ((with_reducible refine (HT.out _).mono ?_))
        rintro e w2 ⟨he, b2⟩
        dsimp only [partVal] at he
        subst he
        have hz2 : w1.heap.size + 1 ≤ w2.heap.size := by have := b2.size; simp at this; omega
        have HB2 := Lib.hid (show Z5 w2 w.heap.size from Blk.below (HB1.out.alloc _) b2 (by simp; omega))
        have HD2 := Lib.hid (Blk.below (Blk.new w1 42 #[.string (mk t), .int .i64 p, .bool true]) b2 (by simp))
        have HL2 := Lib.hid ((HL1.out.alloc (by omega) _).trans (b2.mono (by simp; omega)))
        clear b2
        have c0 : (w2.alloc (.cells #[.string ⟨#[]⟩, .int .i64 0, .bool false] 42)).cell? ⟨w1.heap.size, 0, none⟩ = some (.string (mk t)) := (HD2.out.alloc _).cell 0
        have c1 : (w2.alloc (.cells #[.string ⟨#[]⟩, .int .i64 0, .bool false] 42)).cell? ⟨w1.heap.size, 1, none⟩ = some (.int .i64 p) := (HD2.out.alloc _).cell 1
        have HW3 : Hid (Z5 (w2.alloc (.cells #[.string ⟨#[]⟩, .int .i64 0, .bool false] 42)) w.heap.size) := Lib.hid (HB2.out.alloc _)
        have HL3 : Hid (Below w.heap.size w (w2.alloc (.cells #[.string ⟨#[]⟩, .int .i64 0, .bool false] 42))) := Lib.hid (HL2.out.alloc (by omega) _)
        go_wp2_with fail
        ((with_reducible refine (HC.out _).mono ?_))
        rintro e w3 ⟨he, b3⟩
        rw [HFT.out] at he
        dsimp only [fndV] at he
        subst he
        have HB3 := Lib.hid (show Z5 w3 w.heap.size from Blk.below HW3.out b3 (by simp; omega))
        obtain ⟨k0, k1, k2, k3, k4, y0, y1, y2, y3, y4⟩ := Z5.facts HB3.out
        go_wp2
        exact inside_ret (blk5 HB3.out _ _ _ _ _) rfl rfl ⟨by rw [HFT.out]; rfl, below5 (HL3.out.trans (b3.mono (by simp; omega))) (Nat.le_refl _) _ _ _ _ _⟩
      | some q =>
        obtain ⟨u, m0⟩ := q
        have HF := Lib.hid (HSA.out u m0 hpn rfl)
        have hm0 := HLE.out _ rfl
        simp only at hm0
        obtain ⟨hm1, hm2⟩ := skipA_le s _ m0 (Nat.le_refl _) hm0
        have HK3 := Lib.hid fun W => (r_white s m0 W hs hm0).mono fun e w' (h : _ ∧ W = w') => (⟨h.1, h.2.symm⟩ : e = .returned (.int .i64 (skipA s m0)) ∧ w' = W)
        generalize skipA s m0 = m at *
        have HC : Hid (∀ W, Calls Tryd.prog 46 #[.string s, .int .i64 m, .agg #[.string (mk t), .string (mk u), .string ⟨#[]⟩, .int .i64 0, .bool false]] W (FndPost (closedR s t u m) W)) := Lib.hid fun W => r_closed s t u m W hs (by omega)
        rw [← HF.out] at HC
        clear HF HSA HSB HLE
        generalize hF : fndTup R = F at *
        obtain ⟨f0, f1, f2, f3, f4⟩ := F
        have HFT := Lib.hid hF
        clear hF
        go_enter Tryd.func27, Tryd.ntmps27
        go_wp2_with fail
        ((with_reducible refine (HK.out _).mono ?_))
        rintro e w0 ⟨rfl, rfl⟩
        go_wp2_with fail
        ((with_reducible refine (HD.out _).mono ?_))
        rintro e w1 ⟨he, b1⟩
        dsimp only [partVal] at he
        subst he
        have hz1 : w.heap.size + 1 ≤ w1.heap.size := by have := b1.size; simp at this; omega
        have HB1 := Lib.hid (show Z5 w1 w.heap.size from Blk.below (HB0.out 0) b1 (by simp))
        have HL1 := Lib.hid (HL0.out _ (by simpa using b1))
        clear b1
        go_wp2_with fail
        ((with_reducible refine (HK2.out _).mono ?_))
        rintro e w0 ⟨rfl, rfl⟩
        go_wp2_with fail
        ((with_reducible refine (HT.out _).mono ?_))
        rintro e w2 ⟨he, b2⟩
        dsimp only [partVal] at he
        subst he
        have hz2 : w1.heap.size + 1 ≤ w2.heap.size := by have := b2.size; simp at this; omega
        have HB2 := Lib.hid (show Z5 w2 w.heap.size from Blk.below (HB1.out.alloc _) b2 (by simp; omega))
        have HD2 := Lib.hid (Blk.below (Blk.new w1 42 #[.string (mk t), .int .i64 p, .bool true]) b2 (by simp))
        have HL2 := Lib.hid ((HL1.out.alloc (by omega) _).trans (b2.mono (by simp; omega)))
        clear b2
        have c0 : (w2.alloc (.cells #[.string (mk u), .int .i64 m0, .bool true] 42)).cell? ⟨w1.heap.size, 0, none⟩ = some (.string (mk t)) := (HD2.out.alloc _).cell 0
        have c1 : (w2.alloc (.cells #[.string (mk u), .int .i64 m0, .bool true] 42)).cell? ⟨w1.heap.size, 1, none⟩ = some (.int .i64 p) := (HD2.out.alloc _).cell 1
        have HW3 : Hid (Z5 (w2.alloc (.cells #[.string (mk u), .int .i64 m0, .bool true] 42)) w.heap.size) := Lib.hid (HB2.out.alloc _)
        have HL3 : Hid (Below w.heap.size w (w2.alloc (.cells #[.string (mk u), .int .i64 m0, .bool true] 42))) := Lib.hid (HL2.out.alloc (by omega) _)
        have e0 : (w2.alloc (.cells #[.string (mk u), .int .i64 m0, .bool true] 42)).cell? ⟨w2.heap.size, 0, none⟩ = some (.string (mk u)) := (Blk.new w2 _ _).cell 0
        have e1 : (w2.alloc (.cells #[.string (mk u), .int .i64 m0, .bool true] 42)).cell? ⟨w2.heap.size, 1, none⟩ = some (.int .i64 m0) := (Blk.new w2 _ _).cell 1
        have hz3 : (w2.alloc (.cells #[.string (mk u), .int .i64 m0, .bool true] 42)).heap.size = w2.heap.size + 1 := by simp
        go_wp2_with fail
        generalize (w2.alloc (.cells #[.string (mk u), .int .i64 m0, .bool true] 42)) = W3 at *
        refine wp_region_still_tail 10 (by kernel_rfl) (by kernel_rfl) ?_
        simp only [List.take_succ_cons, List.take_zero, List.drop_succ_cons, List.drop_zero]
        repeat still_step
        still_call (HK3.out _)
        repeat still_step
        refine wpStill_nil ?_
        go_wp2_with fail
        ((with_reducible refine (HC.out _).mono ?_))
        rintro e w3 ⟨he, b3⟩
        rw [HFT.out] at he
        dsimp only [fndV] at he
        subst he
        have HB3 := Lib.hid (show Z5 w3 w.heap.size from Blk.below (HW3.out.drewN 1) b3 (by simp; omega))
        obtain ⟨k0, k1, k2, k3, k4, y0, y1, y2, y3, y4⟩ := Z5.facts HB3.out
        go_wp2
        exact inside_ret (blk5 HB3.out _ _ _ _ _) rfl rfl ⟨by rw [HFT.out]; rfl, below5 ((below_drewN HL3.out 1).trans (b3.mono (by simp; omega))) (Nat.le_refl _) _ _ _ _ _⟩
    · have HF := Lib.hid (HSB.out (fun e => absurd e hpn))
      have HC : Hid (∀ W, Calls Tryd.prog 46 #[.string s, .int .i64 n, .agg #[.string (mk t), .string ⟨#[]⟩, .string ⟨#[]⟩, .int .i64 0, .bool false]] W (FndPost (closedR s t [] n) W)) := Lib.hid fun W => r_closed s t [] n W hs (by omega)
      rw [← HF.out] at HC
      clear HF HSA HSB HLE
      generalize hF : fndTup R = F at *
      obtain ⟨f0, f1, f2, f3, f4⟩ := F
      have HFT := Lib.hid hF
      clear hF
      cases T with
      | none =>
        go_enter Tryd.func27, Tryd.ntmps27
        go_wp2_with fail
        ((with_reducible refine (HK.out _).mono ?_))
        rintro e w0 ⟨rfl, rfl⟩
        go_wp2_with fail
        ((with_reducible refine (HD.out _).mono ?_))
        rintro e w1 ⟨he, b1⟩
        dsimp only [partVal] at he
        subst he
        have hz1 : w.heap.size + 1 ≤ w1.heap.size := by have := b1.size; simp at this; omega
        have HB1 := Lib.hid (show Z5 w1 w.heap.size from Blk.below (HB0.out 0) b1 (by simp))
        have HL1 := Lib.hid (HL0.out _ (by simpa using b1))
        clear b1
        go_wp2_with fail
        ((with_reducible refine (HK2.out _).mono ?_))
        rintro e w0 ⟨rfl, rfl⟩
        go_wp2_with fail
        ((with_reducible refine (HT.out _).mono ?_))
        rintro e w2 ⟨he, b2⟩
        dsimp only [partVal] at he
        subst he
        have hz2 : w1.heap.size + 1 ≤ w2.heap.size := by have := b2.size; simp at this; omega
        have HB2 := Lib.hid (show Z5 w2 w.heap.size from Blk.below (HB1.out.alloc _) b2 (by simp; omega))
        have HD2 := Lib.hid (Blk.below (Blk.new w1 42 #[.string (mk t), .int .i64 p, .bool true]) b2 (by simp))
        have HL2 := Lib.hid ((HL1.out.alloc (by omega) _).trans (b2.mono (by simp; omega)))
        clear b2
        have c0 : (w2.alloc (.cells #[.string ⟨#[]⟩, .int .i64 0, .bool false] 42)).cell? ⟨w1.heap.size, 0, none⟩ = some (.string (mk t)) := (HD2.out.alloc _).cell 0
        have c1 : (w2.alloc (.cells #[.string ⟨#[]⟩, .int .i64 0, .bool false] 42)).cell? ⟨w1.heap.size, 1, none⟩ = some (.int .i64 p) := (HD2.out.alloc _).cell 1
        have HW3 : Hid (Z5 (w2.alloc (.cells #[.string ⟨#[]⟩, .int .i64 0, .bool false] 42)) w.heap.size) := Lib.hid (HB2.out.alloc _)
        have HL3 : Hid (Below w.heap.size w (w2.alloc (.cells #[.string ⟨#[]⟩, .int .i64 0, .bool false] 42))) := Lib.hid (HL2.out.alloc (by omega) _)
        go_wp2_with fail
        ((with_reducible refine (HC.out _).mono ?_))
        rintro e w3 ⟨he, b3⟩
        rw [HFT.out] at he
        dsimp only [fndV] at he
        subst he
        have HB3 := Lib.hid (show Z5 w3 w.heap.size from Blk.below HW3.out b3 (by simp; omega))
        obtain ⟨k0, k1, k2, k3, k4, y0, y1, y2, y3, y4⟩ := Z5.facts HB3.out
        go_wp2
        exact inside_ret (blk5 HB3.out _ _ _ _ _) rfl rfl ⟨by rw [HFT.out]; rfl, below5 (HL3.out.trans (b3.mono (by simp; omega))) (Nat.le_refl _) _ _ _ _ _⟩
      | some q =>
        go_enter Tryd.func27, Tryd.ntmps27
        go_wp2_with fail
        ((with_reducible refine (HK.out _).mono ?_))
        rintro e w0 ⟨rfl, rfl⟩
        go_wp2_with fail
        ((with_reducible refine (HD.out _).mono ?_))
        rintro e w1 ⟨he, b1⟩
        dsimp only [partVal] at he
        subst he
        have hz1 : w.heap.size + 1 ≤ w1.heap.size := by have := b1.size; simp at this; omega
        have HB1 := Lib.hid (show Z5 w1 w.heap.size from Blk.below (HB0.out 0) b1 (by simp))
        have HL1 := Lib.hid (HL0.out _ (by simpa using b1))
        clear b1
        go_wp2_with fail
        ((with_reducible refine (HK2.out _).mono ?_))
        rintro e w0 ⟨rfl, rfl⟩
        go_wp2_with fail
        ((with_reducible refine (HT.out _).mono ?_))
        rintro e w2 ⟨he, b2⟩
        dsimp only [partVal] at he
        subst he
        have hz2 : w1.heap.size + 1 ≤ w2.heap.size := by have := b2.size; simp at this; omega
        have HB2 := Lib.hid (show Z5 w2 w.heap.size from Blk.below (HB1.out.alloc _) b2 (by simp; omega))
        have HD2 := Lib.hid (Blk.below (Blk.new w1 42 #[.string (mk t), .int .i64 p, .bool true]) b2 (by simp))
        have HL2 := Lib.hid ((HL1.out.alloc (by omega) _).trans (b2.mono (by simp; omega)))
        clear b2
        have c0 : (w2.alloc (.cells #[.string (mk q.1), .int .i64 q.2, .bool true] 42)).cell? ⟨w1.heap.size, 0, none⟩ = some (.string (mk t)) := (HD2.out.alloc _).cell 0
        have c1 : (w2.alloc (.cells #[.string (mk q.1), .int .i64 q.2, .bool true] 42)).cell? ⟨w1.heap.size, 1, none⟩ = some (.int .i64 p) := (HD2.out.alloc _).cell 1
        have HW3 : Hid (Z5 (w2.alloc (.cells #[.string (mk q.1), .int .i64 q.2, .bool true] 42)) w.heap.size) := Lib.hid (HB2.out.alloc _)
        have HL3 : Hid (Below w.heap.size w (w2.alloc (.cells #[.string (mk q.1), .int .i64 q.2, .bool true] 42))) := Lib.hid (HL2.out.alloc (by omega) _)
        go_wp2_with fail
        ((with_reducible refine (HC.out _).mono ?_))
        rintro e w3 ⟨he, b3⟩
        rw [HFT.out] at he
        dsimp only [fndV] at he
        subst he
        have HB3 := Lib.hid (show Z5 w3 w.heap.size from Blk.below HW3.out b3 (by simp; omega))
        obtain ⟨k0, k1, k2, k3, k4, y0, y1, y2, y3, y4⟩ := Z5.facts HB3.out
        go_wp2
        exact inside_ret (blk5 HB3.out _ _ _ _ _) rfl rfl ⟨by rw [HFT.out]; rfl, below5 (HL3.out.trans (b3.mono (by simp; omega))) (Nat.le_refl _) _ _ _ _ _⟩
end Go.Proofs.YtepeaenbjgbnfaaDoor
