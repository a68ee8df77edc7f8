/-
  Texts of the proof, put together: RmL.
-/
import Derived.Test.YthfienjmigidbaaGreatDoorB38
set_option linter.unusedVariables false
set_option linter.unusedSimpArgs false
namespace Go.Proofs.YthfienjmigidbaaGreatDoor
open Go.RowKit Go.Pub

theorem ch_eq (c : ByteArray) (n : Nat) (hn : n < c.size) (x : UInt8) : c.extract n (n + 1) = ⟨#[x]⟩ ↔ bt c n = x.toNat := by
  have h : c.extract n (n + 1) = ⟨#[c.get! n]⟩ := by
    rw [← mk_bytesL (c.extract n (n + 1)), bytesL_sub, sub_snoc c n n (Nat.le_refl _) hn, sub_self]
    rfl
  rw [h]
  constructor
  · intro e
    have := congrArg (fun s : ByteArray => bytesL s) e
    have h2 : [c.get! n] = [x] := this
    injection h2 with h3
    unfold bt; rw [h3]
  · intro e
    have : c.get! n = x := UInt8.toNat_inj.1 e
    rw [this]
theorem ch_no (X : ByteArray) (x : UInt8) (e : (⟨#[x]⟩ : ByteArray).toList = [x]) (h : X ≠ ⟨#[x]⟩) : (X.toList == [x]) = false := by
  rw [← e]
  exact (Lib.bytes_beq_false_iff _ _).2 h

theorem numVal_next (c : ByteArray) (k : Nat) : numVal c (k + 1) = 10 * numVal c k + (bt c k - 48) := by
  unfold numVal; rw [List.range_succ, List.foldl_append]; rfl
theorem numVal_lt (c : ByteArray) : ∀ k : Nat, (∀ j, j < k → digN (bt c j) = true) → numVal c k < 10 ^ k
  | 0, _ => by show 0 < 10 ^ 0; decide
  | k + 1, h => by
    have ih := numVal_lt c k fun j hj => h j (by omega)
    have hx := (digN_iff _).1 (h k (by omega))
    rw [numVal_next, Nat.pow_succ]; omega
/-- Two marks' blocks behind each other: the result's, and the local's. -/
theorem two_zm (w : World) (cs : Array Value) : ZM ((zw w).alloc (.cells cs 27)) w.heap.size := Blk.alloc (zw_zm w) _
theorem two_below (w : World) (cs : Array Value) : Below w.heap.size w ((zw w).alloc (.cells cs 27)) := (zw_below w).alloc (zw_below w).size _

set_option maxRecDepth 100000 in
set_option maxHeartbeats 8000000 in
theorem r5_item (c : ByteArray) (ind : Nat) (w : World) (hs : c.size ≤ 1000000) (h0 : 0 < c.size) (hi : ind ≤ 3) : Calls Tryz.prog 47 #[.string c, .int .i64 ind] w (MkPost ((itemM c ind).getD {}) w) := by
  have HD : Hid (∀ W, Calls Tryz.prog 93 #[.string c, .int .i64 0] W fun e w' => e = .returned (.int .i64 (runF c 0 digN)) ∧ W = w') := Lib.hid fun W => r5_digits c 0 W hs (Nat.zero_le _)
  have HR : Hid (itemM c ind = itemT c ind (runF c 0 digN) (numVal c (runF c 0 digN))) := Lib.hid rfl
  have hnl := runF_le c 0 digN
  generalize itemM c ind = R at *
  have HN : Hid (∀ j, j < runF c 0 digN → digN (bt c j) = true) := Lib.hid fun j hj => (runF_all c digN c.size 0 (by omega)).1 j (Nat.zero_le _) (by omega)
  generalize runF c 0 digN = n at *
  have HZB := Lib.hid fun cs => two_zm w cs
  have HBB := Lib.hid fun cs => two_below w cs
  unfold zw at HZB HBB
  have hcase : ((n = 0 ∧ decide (0 < (n : Int)) = false ∧ decide (0 < n) = false) ∨ (0 < n ∧ decide (0 < (n : Int)) = true ∧ decide (0 < n) = true)) := by
    by_cases h : 0 < n
    · right; exact ⟨h, decide_eq_true (by omega), decide_eq_true h⟩
    · left; exact ⟨by omega, decide_eq_false (by omega), decide_eq_false h⟩
  by_cases h9 : 9 < n
  · have HF : Hid (R = none) := Lib.hid (by rw [HR.out]; unfold itemT; rw [if_neg (fun e => by have := e.1; omega)])
    have d1 : decide (9 < (n : Int)) = true := decide_eq_true (by omega)
    have d2 : decide (9 < n) = true := decide_eq_true h9
    have p0 : 0 < n := by omega
    have p1 : decide (0 < (n : Int)) = true := decide_eq_true (by omega)
    have p2 : decide (0 < n) = true := decide_eq_true p0
    clear HR hcase
    go_enter Tryz.func47, Tryz.ntmps47
    go_wp2_with fail
    ((with_reducible refine (HD.out _).mono ?_))
    rintro e w0 ⟨rfl, rfl⟩
    go_wp2_with fail
    exact ritem_ret (HZB.out _) rfl rfl (rmk_none HF.out (HBB.out _))
  have d1 : decide (9 < (n : Int)) = false := decide_eq_false (by omega)
  have d2 : decide (9 < n) = false := decide_eq_false h9
  have hbad : ((decide ((c.size : Int) ≤ (n : Int)) = true ∧ decide (c.size ≤ n) = true) ∧ Hid (R = none)) ∨ ((decide ((c.size : Int) ≤ (n : Int)) = false ∧ decide (c.size ≤ n) = false) ∧ n < c.size ∧ ((∃ h : n + 1 < c.size, (decide ((n : Int) < (c.size : Int) - 1) = true ∧ (((c[n + 1].toNat : Nat) : Int) != 32) = true) ∧ Hid (R = none)) ∨
      ((decide ((n : Int) < (c.size : Int) - 1) = false ∨ ∃ h : n + 1 < c.size, decide ((n : Int) < (c.size : Int) - 1) = true ∧ (((c[n + 1].toNat : Nat) : Int) != 32) = false) ∧ Hid (¬ (n + 1 < c.size ∧ bt c (n + 1) ≠ 32))))) := by
    by_cases h : n < c.size
    · right
      refine ⟨⟨decide_eq_false (by omega), decide_eq_false (by omega)⟩, h, ?_⟩
      by_cases h2 : n + 1 < c.size
      · by_cases h3 : bt c (n + 1) = 32
        · right
          exact ⟨Or.inr ⟨h2, decide_eq_true (by omega), by rw [get_bt c _ h2, h3]; rfl⟩, Lib.hid (fun e => e.2 h3)⟩
        · left
          exact ⟨h2, ⟨decide_eq_true (by omega), by rw [get_bt c _ h2, bne_iff_ne]; omega⟩, Lib.hid (by rw [HR.out]; unfold itemT; rw [if_neg (fun e => e.2.2.1 ⟨h2, h3⟩)])⟩
      · right; exact ⟨Or.inl (decide_eq_false (by omega)), Lib.hid (fun e => h2 e.1)⟩
    · left
      exact ⟨⟨decide_eq_true (by omega), decide_eq_true (by omega)⟩, Lib.hid (by rw [HR.out]; unfold itemT; rw [if_neg (fun e => by have := e.2.1; omega)])⟩
  rcases hbad with ⟨⟨t1, t2⟩, HF⟩ | ⟨⟨t1, t2⟩, hlt, ⟨h2, ⟨t3, t4⟩, HF⟩ | ⟨hsp, HS⟩⟩
  · clear HR
    rcases hcase with ⟨p0, p1, p2⟩ | ⟨p0, p1, p2⟩
    · exfalso
      have := of_decide_eq_true t2
      omega
    · go_enter Tryz.func47, Tryz.ntmps47
      go_wp2_with fail
      ((with_reducible refine (HD.out _).mono ?_))
      rintro e w0 ⟨rfl, rfl⟩
      go_wp2_with fail
      exact ritem_ret (HZB.out _) rfl rfl (rmk_none HF.out (HBB.out _))
  · clear HR
    rcases hcase with ⟨p0, p1, p2⟩ | ⟨p0, p1, p2⟩
    · clear p0
      go_enter Tryz.func47, Tryz.ntmps47
      go_wp2_with fail
      ((with_reducible refine (HD.out _).mono ?_))
      rintro e w0 ⟨rfl, rfl⟩
      go_wp2_with fail
      exact ritem_ret (HZB.out _) rfl rfl (rmk_none HF.out (HBB.out _))
    · go_enter Tryz.func47, Tryz.ntmps47
      go_wp2_with fail
      ((with_reducible refine (HD.out _).mono ?_))
      rintro e w0 ⟨rfl, rfl⟩
      go_wp2_with fail
      exact ritem_ret (HZB.out _) rfl rfl (rmk_none HF.out (HBB.out _))
  have hni : (n : Int) + 1 ≤ (c.size : Int) := by omega
  have hnn : ((n : Int) + 1).toNat = n + 1 := by omega
  have hn1 : n + 1 ≤ c.size := hlt
  have hn2 : (n : Int) ≤ (n : Int) + 1 := by omega
  have e45 := ch_eq c n hlt 45
  have e43 := ch_eq c n hlt 43
  have e42 := ch_eq c n hlt 42
  have e46 := ch_eq c n hlt 46
  have e41 := ch_eq c n hlt 41
  have l45 : (⟨#[45]⟩ : ByteArray).toList = [45] := by decide +kernel
  have l43 : (⟨#[43]⟩ : ByteArray).toList = [43] := by decide +kernel
  have l42 : (⟨#[42]⟩ : ByteArray).toList = [42] := by decide +kernel
  have l46 : (⟨#[46]⟩ : ByteArray).toList = [46] := by decide +kernel
  have l41 : (⟨#[41]⟩ : ByteArray).toList = [41] := by decide +kernel
  have HR2 : Hid (R = if ((n = 0 ∧ (bt c 0 = 45 ∨ bt c 0 = 43 ∨ bt c 0 = 42)) ∨ (0 < n ∧ (bt c n = 46 ∨ bt c n = 41))) then some { kind := if n = 0 then 5 else 6, n := numVal c n, ch := c.extract n (n + 1), info := c.extract 0 n, off := ind + n + 2, rest := stripB (c.extract (n + 1) c.size) 1 } else none) := Lib.hid (by
    rw [HR.out]
    unfold itemT
    by_cases h : ((n = 0 ∧ (bt c 0 = 45 ∨ bt c 0 = 43 ∨ bt c 0 = 42)) ∨ (0 < n ∧ (bt c n = 46 ∨ bt c n = 41)))
    · rw [if_pos h, if_pos ⟨by omega, hlt, HS.out, h⟩]
    · rw [if_neg h, if_neg (fun e => h e.2.2.2)])
  clear HR HS
  generalize hX : c.extract n (n + 1) = X at *
  rcases hcase with ⟨p0, p1, p2⟩ | ⟨p0, p1, p2⟩
  · have HP0 := Lib.hid p0
    have HAf : Hid (∀ W, Calls Tryz.prog 92 #[.string c, .int .i64 ((n : Int) + 1)] W fun e w' => e = .returned (.string (stripB (c.extract (n + 1) c.size) 1)) ∧ W = w') := Lib.hid fun W => r5_after c (n + 1) W hs hn1
    by_cases hb : bt c n = 45 ∨ bt c n = 43 ∨ bt c n = 42
    · have HF : Hid (R = some { kind := 5, n := 0, ch := X, info := c.extract 0 n, off := ind + n + 2, rest := stripB (c.extract (n + 1) c.size) 1 }) := Lib.hid (by
        rw [HR2.out, if_pos (Or.inl ⟨HP0.out, by rw [HP0.out] at hb; exact hb⟩), if_pos HP0.out, HP0.out]; rfl)
      have hx : X = ⟨#[45]⟩ ∨ X = ⟨#[43]⟩ ∨ X = ⟨#[42]⟩ := by
        rcases hb with h | h | h
        · exact Or.inl (e45.2 h)
        · exact Or.inr (Or.inl (e43.2 h))
        · exact Or.inr (Or.inr (e42.2 h))
      clear HR2 hb e45 e43 e42 e46 e41 l45 l43 l42 l46 l41 p0
      generalize stripB (c.extract (n + 1) c.size) 1 = S at *
      have y0 : ((n : Int) == 0) = true := by rw [HP0.out]; rfl
      have hoff' : Hid ((ind : Int) + (n : Int) + 2 = ((ind + n + 2 : Nat) : Int)) := Lib.hid (by omega)
      have hne' : Hid (w.heap.size ≠ w.heap.size + 1) := Lib.hid (by omega)
      have hge' : Hid (w.heap.size ≤ w.heap.size + 1) := Lib.hid (by omega)
      have HMB := Lib.hid fun X : ByteArray => (by
        have h := Blk.new (zw w) 27 #[.int .i64 5, .int .i64 0, .string X, .int .i64 0, .string ⟨#[]⟩, .string ⟨#[]⟩, .string ⟨#[]⟩, .string ⟨#[]⟩, .string ⟨#[]⟩, .slice none 0 0, .slice none 0 0]
        rw [zw_size] at h
        exact h : Blk ((zw w).alloc (.cells #[.int .i64 5, .int .i64 0, .string X, .int .i64 0, .string ⟨#[]⟩, .string ⟨#[]⟩, .string ⟨#[]⟩, .string ⟨#[]⟩, .string ⟨#[]⟩, .slice none 0 0, .slice none 0 0] 27)) (w.heap.size + 1) 27 #[.int .i64 5, .int .i64 0, .string X, .int .i64 0, .string ⟨#[]⟩, .string ⟨#[]⟩, .string ⟨#[]⟩, .string ⟨#[]⟩, .string ⟨#[]⟩, .slice none 0 0, .slice none 0 0])
      unfold zw at HMB
      rcases hx with rfl | rfl | rfl
      · rcases hsp with t3 | ⟨h2, t3, t4⟩
        all_goals
          go_enter Tryz.func47, Tryz.ntmps47
          go_wp2_with fail
          ((with_reducible refine (HD.out _).mono ?_))
          rintro e w0 ⟨rfl, rfl⟩
          go_wp2_with fail
          go_loopw [7] (fun v wr => v = .int .i64 0 ∧ Hid (ZM wr w.heap.size) ∧ Hid (Blk wr (w.heap.size + 1) 27 #[.int .i64 5, .int .i64 0, .string ⟨#[45]⟩, .int .i64 0, .string ⟨#[]⟩, .string ⟨#[]⟩, .string ⟨#[]⟩, .string ⟨#[]⟩, .string ⟨#[]⟩, .slice none 0 0, .slice none 0 0]) ∧ Hid (Below w.heap.size w wr)) (fun _ _ => 0)
          case atStart => exact ⟨rfl, Lib.hid (HZB.out _), Lib.hid (HMB.out _), Lib.hid (HBB.out _)⟩
          case round =>
            obtain ⟨rfl, HZh, HMh, HBh⟩ := hrel
            obtain ⟨k0, k1, k2, k3, k4, k5, k6, k7, k8, k9, k10, v0, v1, v2, v3, v4, v5, v6, v7, v8, v9, v10⟩ := ZM.facts HZh.out
            obtain ⟨a0, a1, a2, a3, a4, a5, a6, a7, a8, a9, a10, a11, a12, a13, a14, a15, a16, a17, a18, a19, a20, a21⟩ := mk_facts HMh.out
            clear HZB HBB HMB
            go_wp2_with fail
            ((with_reducible refine (HAf.out _).mono ?_))
            rintro e w0 ⟨rfl, rfl⟩
            go_wp2_with fail
            have hoff := hoff'.out
            have hne := hne'.out
            have hge := hge'.out
            rw [hoff]
            exact ritem_ret (blk11 (Blk.far (Blk.far (Blk.far HZh.out hne _) hne _) hne _) _ _ _ _ _ _ _ _ _ _ _) rfl rfl (rmk_plain (m := { kind := 5, n := 0, ch := ⟨#[45]⟩, info := c.extract 0 n, off := ind + n + 2, rest := S }) HF.out rfl (below11 (((HBh.out.setCell hge _).setCell hge _).setCell hge _) (Nat.le_refl _) _ _ _ _ _ _ _ _ _ _ _))
      · rcases hsp with t3 | ⟨h2, t3, t4⟩
        all_goals
          go_enter Tryz.func47, Tryz.ntmps47
          go_wp2_with fail
          ((with_reducible refine (HD.out _).mono ?_))
          rintro e w0 ⟨rfl, rfl⟩
          go_wp2_with fail
          go_loopw [7] (fun v wr => v = .int .i64 0 ∧ Hid (ZM wr w.heap.size) ∧ Hid (Blk wr (w.heap.size + 1) 27 #[.int .i64 5, .int .i64 0, .string ⟨#[43]⟩, .int .i64 0, .string ⟨#[]⟩, .string ⟨#[]⟩, .string ⟨#[]⟩, .string ⟨#[]⟩, .string ⟨#[]⟩, .slice none 0 0, .slice none 0 0]) ∧ Hid (Below w.heap.size w wr)) (fun _ _ => 0)
          case atStart => exact ⟨rfl, Lib.hid (HZB.out _), Lib.hid (HMB.out _), Lib.hid (HBB.out _)⟩
          case round =>
            obtain ⟨rfl, HZh, HMh, HBh⟩ := hrel
            obtain ⟨k0, k1, k2, k3, k4, k5, k6, k7, k8, k9, k10, v0, v1, v2, v3, v4, v5, v6, v7, v8, v9, v10⟩ := ZM.facts HZh.out
            obtain ⟨a0, a1, a2, a3, a4, a5, a6, a7, a8, a9, a10, a11, a12, a13, a14, a15, a16, a17, a18, a19, a20, a21⟩ := mk_facts HMh.out
            clear HZB HBB HMB
            go_wp2_with fail
            ((with_reducible refine (HAf.out _).mono ?_))
            rintro e w0 ⟨rfl, rfl⟩
            go_wp2_with fail
            have hoff := hoff'.out
            have hne := hne'.out
            have hge := hge'.out
            rw [hoff]
            exact ritem_ret (blk11 (Blk.far (Blk.far (Blk.far HZh.out hne _) hne _) hne _) _ _ _ _ _ _ _ _ _ _ _) rfl rfl (rmk_plain (m := { kind := 5, n := 0, ch := ⟨#[43]⟩, info := c.extract 0 n, off := ind + n + 2, rest := S }) HF.out rfl (below11 (((HBh.out.setCell hge _).setCell hge _).setCell hge _) (Nat.le_refl _) _ _ _ _ _ _ _ _ _ _ _))
      · rcases hsp with t3 | ⟨h2, t3, t4⟩
        all_goals
          go_enter Tryz.func47, Tryz.ntmps47
          go_wp2_with fail
          ((with_reducible refine (HD.out _).mono ?_))
          rintro e w0 ⟨rfl, rfl⟩
          go_wp2_with fail
          go_loopw [7] (fun v wr => v = .int .i64 0 ∧ Hid (ZM wr w.heap.size) ∧ Hid (Blk wr (w.heap.size + 1) 27 #[.int .i64 5, .int .i64 0, .string ⟨#[42]⟩, .int .i64 0, .string ⟨#[]⟩, .string ⟨#[]⟩, .string ⟨#[]⟩, .string ⟨#[]⟩, .string ⟨#[]⟩, .slice none 0 0, .slice none 0 0]) ∧ Hid (Below w.heap.size w wr)) (fun _ _ => 0)
          case atStart => exact ⟨rfl, Lib.hid (HZB.out _), Lib.hid (HMB.out _), Lib.hid (HBB.out _)⟩
          case round =>
            obtain ⟨rfl, HZh, HMh, HBh⟩ := hrel
            obtain ⟨k0, k1, k2, k3, k4, k5, k6, k7, k8, k9, k10, v0, v1, v2, v3, v4, v5, v6, v7, v8, v9, v10⟩ := ZM.facts HZh.out
            obtain ⟨a0, a1, a2, a3, a4, a5, a6, a7, a8, a9, a10, a11, a12, a13, a14, a15, a16, a17, a18, a19, a20, a21⟩ := mk_facts HMh.out
            clear HZB HBB HMB
            go_wp2_with fail
            ((with_reducible refine (HAf.out _).mono ?_))
            rintro e w0 ⟨rfl, rfl⟩
            go_wp2_with fail
            have hoff := hoff'.out
            have hne := hne'.out
            have hge := hge'.out
            rw [hoff]
            exact ritem_ret (blk11 (Blk.far (Blk.far (Blk.far HZh.out hne _) hne _) hne _) _ _ _ _ _ _ _ _ _ _ _) rfl rfl (rmk_plain (m := { kind := 5, n := 0, ch := ⟨#[42]⟩, info := c.extract 0 n, off := ind + n + 2, rest := S }) HF.out rfl (below11 (((HBh.out.setCell hge _).setCell hge _).setCell hge _) (Nat.le_refl _) _ _ _ _ _ _ _ _ _ _ _))
    · have HF : Hid (R = none) := Lib.hid (by
        rw [HR2.out, if_neg]
        rintro (⟨_, e⟩ | ⟨e, _⟩)
        · rw [HP0.out] at hb; exact hb e
        · omega)
      have x1 := ch_no X 45 l45 (fun e => hb (Or.inl (e45.1 e)))
      have x2 := ch_no X 43 l43 (fun e => hb (Or.inr (Or.inl (e43.1 e))))
      have x3 := ch_no X 42 l42 (fun e => hb (Or.inr (Or.inr (e42.1 e))))
      clear HR2 hb e45 e43 e42 e46 e41 l45 l43 l42 l46 l41 p0
      have y0 : ((n : Int) == 0) = true := by rw [HP0.out]; rfl
      rcases hsp with t3 | ⟨h2, t3, t4⟩
      all_goals
        go_enter Tryz.func47, Tryz.ntmps47
        go_wp2_with fail
        ((with_reducible refine (HD.out _).mono ?_))
        rintro e w0 ⟨rfl, rfl⟩
        go_wp2_with fail
        exact ritem_ret (HZB.out _) rfl rfl (rmk_none HF.out (HBB.out _))
  · by_cases hb : bt c n = 46 ∨ bt c n = 41
    · have HF : Hid (R = some { kind := 6, n := numVal c n, ch := X, info := c.extract 0 n, off := ind + n + 2, rest := stripB (c.extract (n + 1) c.size) 1 }) := Lib.hid (by
        rw [HR2.out, if_pos (Or.inr ⟨p0, hb⟩), if_neg (by omega)])
      have HAf : Hid (∀ W, Calls Tryz.prog 92 #[.string c, .int .i64 ((n : Int) + 1)] W fun e w' => e = .returned (.string (stripB (c.extract (n + 1) c.size) 1)) ∧ W = w') := Lib.hid fun W => r5_after c (n + 1) W hs hn1
      have hx : X = ⟨#[46]⟩ ∨ X = ⟨#[41]⟩ := by
        rcases hb with h | h
        · exact Or.inl (e46.2 h)
        · exact Or.inr (e41.2 h)
      clear HR2 hb e45 e43 e42 e46 e41 l45 l43 l42 l46 l41
      generalize stripB (c.extract (n + 1) c.size) 1 = S at *
      have y0 : ((n : Int) == 0) = false := by rw [beq_eq_false_iff_ne]; omega
      have hoff' : Hid ((ind : Int) + (n : Int) + 2 = ((ind + n + 2 : Nat) : Int)) := Lib.hid (by omega)
      have hne' : Hid (w.heap.size ≠ w.heap.size + 1) := Lib.hid (by omega)
      have hge' : Hid (w.heap.size ≤ w.heap.size + 1) := Lib.hid (by omega)
      have HMB := Lib.hid fun X : ByteArray => (by
        have h := Blk.new (zw w) 27 #[.int .i64 6, .int .i64 0, .string X, .int .i64 0, .string ⟨#[]⟩, .string ⟨#[]⟩, .string ⟨#[]⟩, .string ⟨#[]⟩, .string ⟨#[]⟩, .slice none 0 0, .slice none 0 0]
        rw [zw_size] at h
        exact h : Blk ((zw w).alloc (.cells #[.int .i64 6, .int .i64 0, .string X, .int .i64 0, .string ⟨#[]⟩, .string ⟨#[]⟩, .string ⟨#[]⟩, .string ⟨#[]⟩, .string ⟨#[]⟩, .slice none 0 0, .slice none 0 0] 27)) (w.heap.size + 1) 27 #[.int .i64 6, .int .i64 0, .string X, .int .i64 0, .string ⟨#[]⟩, .string ⟨#[]⟩, .string ⟨#[]⟩, .string ⟨#[]⟩, .string ⟨#[]⟩, .slice none 0 0, .slice none 0 0])
      unfold zw at HMB
      rcases hx with rfl | rfl
      · rcases hsp with t3 | ⟨h2, t3, t4⟩
        all_goals
          go_enter Tryz.func47, Tryz.ntmps47
          go_wp2_with fail
          ((with_reducible refine (HD.out _).mono ?_))
          rintro e w0 ⟨rfl, rfl⟩
          go_wp2_with fail
          go_loopw [7] (fun v wr => ∃ k q : Nat, v = .int .i64 k ∧ k ≤ n ∧ Hid (q = numVal c k) ∧ Hid (ZM wr w.heap.size) ∧ Hid (Blk wr (w.heap.size + 1) 27 #[.int .i64 6, .int .i64 q, .string ⟨#[46]⟩, .int .i64 0, .string ⟨#[]⟩, .string ⟨#[]⟩, .string ⟨#[]⟩, .string ⟨#[]⟩, .string ⟨#[]⟩, .slice none 0 0, .slice none 0 0]) ∧ Hid (Below w.heap.size w wr)) (fun v _ => n - (intOf v).toNat)
          case atStart => exact ⟨0, 0, rfl, Nat.zero_le _, Lib.hid rfl, Lib.hid (HZB.out _), Lib.hid (HMB.out _), Lib.hid (HBB.out _)⟩
          case round =>
            obtain ⟨k, q, rfl, hkn, Hq, HZh, HMh, HBh⟩ := hrel
            obtain ⟨k0, k1, k2, k3, k4, k5, k6, k7, k8, k9, k10, v0, v1, v2, v3, v4, v5, v6, v7, v8, v9, v10⟩ := ZM.facts HZh.out
            obtain ⟨a0, a1, a2, a3, a4, a5, a6, a7, a8, a9, a10, a11, a12, a13, a14, a15, a16, a17, a18, a19, a20, a21⟩ := mk_facts HMh.out
            clear HZB HBB HMB
            by_cases hk : k < n
            · have hkc : k < c.size := by omega
              have hdg := (digN_iff _).1 (HN.out k hk)
              have hql : q < 10000000000 := by
                rw [Hq.out]; exact num_bound (numVal_lt c k fun j hj => HN.out j (by omega)) (by omega)
              have hgk := get_bt c k hkc
              obtain ⟨d, hd⟩ : ∃ d, bt c k = d + 48 := ⟨bt c k - 48, by omega⟩
              have HNx : Hid (q * 10 + d = numVal c (k + 1)) := Lib.hid (by rw [numVal_next, ← Hq.out, hd]; omega)
              have hd9 : d ≤ 9 := by omega
              have hki : (k : Int) < (c.size : Int) := by omega
              have hdi : ((c[k].toNat : Nat) : Int) - 48 = (d : Int) := by rw [hgk]; omega
              have hdw : IntKind.u8.wrap (d : Int) = (d : Int) := IntWalk.u8_in (d : Int) (by omega)
              have hw1 : IntKind.i64.wrap (d : Int) = (d : Int) := by rw [IntKind.wrap_i64]; omega
              have hw2 : IntKind.i64.wrap ((q : Int) * 10) = (q : Int) * 10 := by rw [IntKind.wrap_i64]; omega
              have hw3 : IntKind.i64.wrap ((q : Int) * 10 + (d : Int)) = (q : Int) * 10 + (d : Int) := by rw [IntKind.wrap_i64]; omega
              clear hgk hd hdg
              go_wp2_with fail
              refine wp_region_still_tail 10 (by kernel_rfl) (by kernel_rfl) ?_
              simp only [List.take_succ_cons, List.take_zero, List.drop_succ_cons, List.drop_zero]
              repeat still_step
              refine wpStill_nil ?_
              go_wp2_with fail
              have hcast : (q : Int) * 10 + (d : Int) = ((q * 10 + d : Nat) : Int) := by omega
              rw [hcast]
              have hMn : Hid (Blk (wr.setCell ⟨w.heap.size + 1, 1, none⟩ (.int .i64 ((q * 10 + d : Nat) : Int))) (w.heap.size + 1) 27 #[.int .i64 6, .int .i64 ((q * 10 + d : Nat) : Int), .string ⟨#[46]⟩, .int .i64 0, .string ⟨#[]⟩, .string ⟨#[]⟩, .string ⟨#[]⟩, .string ⟨#[]⟩, .string ⟨#[]⟩, .slice none 0 0, .slice none 0 0]) := Lib.hid (Blk.set_ HMh.out 1 (.int .i64 ((q * 10 + d : Nat) : Int)))
              exact ⟨⟨k + 1, q * 10 + d, by go_num, by omega, HNx, Lib.hid (Blk.drew (Blk.far HZh.out hne'.out _)), Lib.hid (Blk.drew hMn.out), Lib.hid (below_drewN (HBh.out.setCell hge'.out _) 1)⟩, by simp [intOf]; omega⟩
            · obtain rfl : k = n := by omega
              have HF2 : Hid (R = some { kind := 6, n := q, ch := ⟨#[46]⟩, info := c.extract 0 k, off := ind + k + 2, rest := S }) := Lib.hid (by rw [HF.out, ← Hq.out])
              go_wp2_with fail
              ((with_reducible refine (HAf.out _).mono ?_))
              rintro e w0 ⟨rfl, rfl⟩
              go_wp2_with fail
              have hoff := hoff'.out
              have hne := hne'.out
              have hge := hge'.out
              rw [hoff]
              exact ritem_ret (blk11 (Blk.far (Blk.far (Blk.far HZh.out hne _) hne _) hne _) _ _ _ _ _ _ _ _ _ _ _) rfl rfl (rmk_plain (m := { kind := 6, n := q, ch := ⟨#[46]⟩, info := c.extract 0 k, off := ind + k + 2, rest := S }) HF2.out rfl (below11 (((HBh.out.setCell hge _).setCell hge _).setCell hge _) (Nat.le_refl _) _ _ _ _ _ _ _ _ _ _ _))
      · rcases hsp with t3 | ⟨h2, t3, t4⟩
        all_goals
          go_enter Tryz.func47, Tryz.ntmps47
          go_wp2_with fail
          ((with_reducible refine (HD.out _).mono ?_))
          rintro e w0 ⟨rfl, rfl⟩
          go_wp2_with fail
          go_loopw [7] (fun v wr => ∃ k q : Nat, v = .int .i64 k ∧ k ≤ n ∧ Hid (q = numVal c k) ∧ Hid (ZM wr w.heap.size) ∧ Hid (Blk wr (w.heap.size + 1) 27 #[.int .i64 6, .int .i64 q, .string ⟨#[41]⟩, .int .i64 0, .string ⟨#[]⟩, .string ⟨#[]⟩, .string ⟨#[]⟩, .string ⟨#[]⟩, .string ⟨#[]⟩, .slice none 0 0, .slice none 0 0]) ∧ Hid (Below w.heap.size w wr)) (fun v _ => n - (intOf v).toNat)
          case atStart => exact ⟨0, 0, rfl, Nat.zero_le _, Lib.hid rfl, Lib.hid (HZB.out _), Lib.hid (HMB.out _), Lib.hid (HBB.out _)⟩
          case round =>
            obtain ⟨k, q, rfl, hkn, Hq, HZh, HMh, HBh⟩ := hrel
            obtain ⟨k0, k1, k2, k3, k4, k5, k6, k7, k8, k9, k10, v0, v1, v2, v3, v4, v5, v6, v7, v8, v9, v10⟩ := ZM.facts HZh.out
            obtain ⟨a0, a1, a2, a3, a4, a5, a6, a7, a8, a9, a10, a11, a12, a13, a14, a15, a16, a17, a18, a19, a20, a21⟩ := mk_facts HMh.out
            clear HZB HBB HMB
            by_cases hk : k < n
            · have hkc : k < c.size := by omega
              have hdg := (digN_iff _).1 (HN.out k hk)
              have hql : q < 10000000000 := by
                rw [Hq.out]; exact num_bound (numVal_lt c k fun j hj => HN.out j (by omega)) (by omega)
              have hgk := get_bt c k hkc
              obtain ⟨d, hd⟩ : ∃ d, bt c k = d + 48 := ⟨bt c k - 48, by omega⟩
              have HNx : Hid (q * 10 + d = numVal c (k + 1)) := Lib.hid (by rw [numVal_next, ← Hq.out, hd]; omega)
              have hd9 : d ≤ 9 := by omega
              have hki : (k : Int) < (c.size : Int) := by omega
              have hdi : ((c[k].toNat : Nat) : Int) - 48 = (d : Int) := by rw [hgk]; omega
              have hdw : IntKind.u8.wrap (d : Int) = (d : Int) := IntWalk.u8_in (d : Int) (by omega)
              have hw1 : IntKind.i64.wrap (d : Int) = (d : Int) := by rw [IntKind.wrap_i64]; omega
              have hw2 : IntKind.i64.wrap ((q : Int) * 10) = (q : Int) * 10 := by rw [IntKind.wrap_i64]; omega
              have hw3 : IntKind.i64.wrap ((q : Int) * 10 + (d : Int)) = (q : Int) * 10 + (d : Int) := by rw [IntKind.wrap_i64]; omega
              clear hgk hd hdg
              go_wp2_with fail
              refine wp_region_still_tail 10 (by kernel_rfl) (by kernel_rfl) ?_
              simp only [List.take_succ_cons, List.take_zero, List.drop_succ_cons, List.drop_zero]
              repeat still_step
              refine wpStill_nil ?_
              go_wp2_with fail
              have hcast : (q : Int) * 10 + (d : Int) = ((q * 10 + d : Nat) : Int) := by omega
              rw [hcast]
              have hMn : Hid (Blk (wr.setCell ⟨w.heap.size + 1, 1, none⟩ (.int .i64 ((q * 10 + d : Nat) : Int))) (w.heap.size + 1) 27 #[.int .i64 6, .int .i64 ((q * 10 + d : Nat) : Int), .string ⟨#[41]⟩, .int .i64 0, .string ⟨#[]⟩, .string ⟨#[]⟩, .string ⟨#[]⟩, .string ⟨#[]⟩, .string ⟨#[]⟩, .slice none 0 0, .slice none 0 0]) := Lib.hid (Blk.set_ HMh.out 1 (.int .i64 ((q * 10 + d : Nat) : Int)))
              exact ⟨⟨k + 1, q * 10 + d, by go_num, by omega, HNx, Lib.hid (Blk.drew (Blk.far HZh.out hne'.out _)), Lib.hid (Blk.drew hMn.out), Lib.hid (below_drewN (HBh.out.setCell hge'.out _) 1)⟩, by simp [intOf]; omega⟩
            · obtain rfl : k = n := by omega
              have HF2 : Hid (R = some { kind := 6, n := q, ch := ⟨#[41]⟩, info := c.extract 0 k, off := ind + k + 2, rest := S }) := Lib.hid (by rw [HF.out, ← Hq.out])
              go_wp2_with fail
              ((with_reducible refine (HAf.out _).mono ?_))
              rintro e w0 ⟨rfl, rfl⟩
              go_wp2_with fail
              have hoff := hoff'.out
              have hne := hne'.out
              have hge := hge'.out
              rw [hoff]
              exact ritem_ret (blk11 (Blk.far (Blk.far (Blk.far HZh.out hne _) hne _) hne _) _ _ _ _ _ _ _ _ _ _ _) rfl rfl (rmk_plain (m := { kind := 6, n := q, ch := ⟨#[41]⟩, info := c.extract 0 k, off := ind + k + 2, rest := S }) HF2.out rfl (below11 (((HBh.out.setCell hge _).setCell hge _).setCell hge _) (Nat.le_refl _) _ _ _ _ _ _ _ _ _ _ _))
    · have HF : Hid (R = none) := Lib.hid (by
        rw [HR2.out, if_neg]
        rintro (⟨e, _⟩ | ⟨_, e⟩)
        · omega
        · exact hb e)
      have x1 := ch_no X 46 l46 (fun e => hb (Or.inl (e46.1 e)))
      have x2 := ch_no X 41 l41 (fun e => hb (Or.inr (e41.1 e)))
      clear HR2 hb e45 e43 e42 e46 e41 l45 l43 l42 l46 l41
      have y0 : ((n : Int) == 0) = false := by rw [beq_eq_false_iff_ne]; omega
      rcases hsp with t3 | ⟨h2, t3, t4⟩
      all_goals
        go_enter Tryz.func47, Tryz.ntmps47
        go_wp2_with fail
        ((with_reducible refine (HD.out _).mono ?_))
        rintro e w0 ⟨rfl, rfl⟩
        go_wp2_with fail
        exact ritem_ret (HZB.out _) rfl rfl (rmk_none HF.out (HBB.out _))
end Go.Proofs.YthfienjmigidbaaGreatDoor
