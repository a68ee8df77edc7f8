/-
  Texts of the proof, put together (what this law reaches): MkD, MkE.
-/
import Derived.Test.YtpoafhgbhnblmaaGreatDoorX11
import Derived.Test.YtpoafhgbhnblmaaGreatDoorX08
import Derived.Test.YtpoafhgbhnblmaaGreatDoorX13
import Derived.Deep.RegionHeld3
import Derived.StillTailTactics
set_option linter.unusedVariables false
set_option linter.unusedSimpArgs false
namespace Go.Proofs.YtpoafhgbhnblmaaGreatDoor
open Go.RowKit Go.Pub
/-- Nothing but spaces. -/
def blankB (s : ByteArray) : Bool := decide (indA s 0 = s.size)
/-- Without at most n spaces ahead. -/
def stripB (s : ByteArray) (n : Nat) : ByteArray := s.extract (min n (indA s 0)) s.size
theorem stripB_size (s : ByteArray) (n : Nat) : (stripB s n).size ≤ s.size := by unfold stripB; rw [ByteArray.size_extract]; omega
/-- A space, or nothing. -/
def spB (s : ByteArray) : Bool := decide (s.size = 0) || decide (bt s 0 = 32)
def tl1 (s : ByteArray) : ByteArray := s.extract 1 s.size
theorem tl1_size (s : ByteArray) : (tl1 s).size = s.size - 1 := by unfold tl1; rw [ByteArray.size_extract]; omega
def quoteM (c : ByteArray) (ind : Nat) : Option MkL := if bt c 0 = 62 then some { kind := 4, off := ind + c.size - (stripB (tl1 c) 1).size, rest := stripB (tl1 c) 1 } else none
def bulletM (c : ByteArray) (ind : Nat) : Option MkL := if bt c 0 = 45 ∨ bt c 0 = 43 ∨ bt c 0 = 42 then (if spB (tl1 c) = true then some { kind := 5, ch := c.extract 0 1, off := ind + 2, rest := tl1 (tl1 c) } else none) else none
def mathM (c : ByteArray) : Option MkL := if Lib.hasPrefix (bytesL c) [36, 36] = true ∧ blankB (c.extract 2 c.size) = true then some { kind := 8 } else none
def fenceB (c : ByteArray) (n : Nat) : Bool := decide (3 ≤ n) && !(decide (bt c 0 = 96) && (sfx c n).contains 96)
def fenceM (c : ByteArray) (ind : Nat) : Option MkL :=
  if bt c 0 = 96 ∨ bt c 0 = 126 then (if fenceB c (firstN c (· != bt c 0)) = true then some { kind := 7, n := firstN c (· != bt c 0), ch := c.extract 0 1, info := mk (trimS (sfx c (firstN c (· != bt c 0)))), off := ind } else none) else none
theorem t_blank (s : ByteArray) (w : World) (hs : s.size ≤ 1000000) : Calls Tryz.prog 57 #[.string s] w fun e w' => e = .returned (.bool (blankB s)) ∧ w = w' := by
  have HI := Lib.hid fun W => t_indent s W hs
  have HB : Hid (blankB s = decide (indA s 0 = s.size)) := Lib.hid rfl
  generalize blankB s = b at *
  generalize indA s 0 = i at *
  have hb : ∃ q : Bool, (i == s.size) = q ∧ ((i : Int) == (s.size : Int)) = q ∧ Hid (b = q) := by
    by_cases h : i = s.size
    · exact ⟨true, by rw [beq_iff_eq]; exact h, by rw [beq_iff_eq]; omega, Lib.hid (by rw [HB.out]; exact decide_eq_true h)⟩
    · exact ⟨false, by rw [beq_eq_false_iff_ne]; exact h, by rw [beq_eq_false_iff_ne]; omega, Lib.hid (by rw [HB.out]; exact decide_eq_false h)⟩
  obtain ⟨q, n1, n2, hq⟩ := hb
  go_enter Tryz.func57, Tryz.ntmps57
  go_wp2_with fail
  ((with_reducible refine (HI.out _).mono ?_))
  rintro e w' ⟨rfl, rfl⟩
  go_wp2_with fail
  go_ret
  exact ⟨ret_bool (by rw [hq.out]), rfl⟩
theorem t_strip (s : ByteArray) (n : Nat) (w : World) (hs : s.size ≤ 1000000) (hn : n ≤ 1000000) : Calls Tryz.prog 107 #[.string s, .int .i64 n] w fun e w' => e = .returned (.string (stripB s n)) ∧ w = w' := by
  have HI := Lib.hid fun W => t_indent s W hs
  have hl := indA_le s
  have HB : Hid (stripB s n = s.extract (min n (indA s 0)) s.size) := Lib.hid rfl
  generalize stripB s n = b at *
  generalize indA s 0 = i at *
  have HMn : ∀ w : World, (Builtin.min_ #[3, 3] 3 #[.int .i64 n, .int .i64 i]).run Tryz.prog w = .ok (.int .i64 (min n i : Nat)) w := fun w => by
    rw [run_min_int2]
    congr 2
    split <;> omega
  have hm : min n i ≤ s.size := by omega
  generalize min n i = m at *
  go_enter Tryz.func107, Tryz.ntmps107
  go_wp2_with fail
  ((with_reducible refine (HI.out _).mono ?_))
  rintro e w' ⟨rfl, rfl⟩
  go_wp2_with fail
  go_ret
  exact ⟨ret_str (by rw [HB.out]), rfl⟩
theorem m_after (s : ByteArray) (w : World) (hs : s.size ≤ 1000000) : Calls Tryz.prog 103 #[.string s] w fun e w' => e = .returned (.tuple #[.string (tl1 s), .bool (spB s)]) ∧ Below w.heap.size w w' := by
  by_cases h : s.size = 0
  · have e0 : s = ⟨#[]⟩ := by
      have := (size_nil s).1 h
      rw [← mk_bytesL s, this]; rfl
    subst e0
    go_enter Tryz.func103, Tryz.ntmps103
    go_wp2_with fail
    go_ret2
    exact ⟨rfl, Below.refl _ _⟩
  · have hl : 1 ≤ s.size := by omega
    have hb : spB s = decide (bt s 0 = 32) := by unfold spB; rw [decide_eq_false h]; rfl
    obtain ⟨e1, e2⟩ := cons_list s (fun e => h ((size_nil s).2 e))
    have e3 : (s.toList == (⟨#[]⟩ : ByteArray).toList) = false := by
      rw [Lib.bytes_beq_false_iff]; intro e; subst e; exact h rfl
    have hg := get_bt s 0 hl
    have hx : ∃ q : Bool, ((bt s 0 : Int) == 32) = q ∧ Hid (spB s = q) := by
      by_cases h3 : bt s 0 = 32
      · exact ⟨true, by rw [h3]; rfl, Lib.hid (by rw [hb]; exact decide_eq_true h3)⟩
      · exact ⟨false, by rw [beq_eq_false_iff_ne]; omega, Lib.hid (by rw [hb]; exact decide_eq_false h3)⟩
    clear hb
    obtain ⟨q, q1, q2⟩ := hx
    have HT : Hid (tl1 s = s.extract 1 s.size) := Lib.hid rfl
    generalize tl1 s = T at *
    go_enter Tryz.func103, Tryz.ntmps103
    go_wp2_with fail
    go_quiet (fail)
    go_wp2_with fail
    go_ret2
    exact ⟨by rw [HT.out, q2.out]; rfl, below_drewN (Below.refl _ _) _⟩
set_option maxRecDepth 100000 in
set_option maxHeartbeats 1000000 in
theorem m_quote (c : ByteArray) (ind : Nat) (w : World) (hs : c.size ≤ 1000000) (h0 : 0 < c.size) (hi : ind ≤ 3) : Calls Tryz.prog 61 #[.string c, .int .i64 ind] w (RdPost (quoteM c ind) w) := by
  have hg := get_bt c 0 h0
  have h1 : 1 ≤ c.size := h0
  have HZ : Hid (ZM (w.alloc (.cells #[.int .i64 0, .int .i64 0, .string ⟨#[]⟩, .int .i64 0, .string ⟨#[]⟩, .string ⟨#[]⟩, .string ⟨#[]⟩, .string ⟨#[]⟩, .string ⟨#[]⟩, .slice none 0 0, .slice none 0 0] 74)) w.heap.size) := Lib.hid (Blk.new w _ _)
  have HB0 : Hid (Below w.heap.size w (w.alloc (.cells #[.int .i64 0, .int .i64 0, .string ⟨#[]⟩, .int .i64 0, .string ⟨#[]⟩, .string ⟨#[]⟩, .string ⟨#[]⟩, .string ⟨#[]⟩, .string ⟨#[]⟩, .slice none 0 0, .slice none 0 0] 74))) := Lib.hid ((Below.refl _ w).alloc (Nat.le_refl _) _)
  have HT : Hid (tl1 c = c.extract 1 c.size) := Lib.hid rfl
  have hts := tl1_size c
  have HS : Hid (∀ W, Calls Tryz.prog 107 #[.string (tl1 c), .int .i64 1] W fun e w' => e = .returned (.string (stripB (tl1 c) 1)) ∧ W = w') := Lib.hid fun W => t_strip (tl1 c) 1 W (by omega) (by omega)
  have hss := stripB_size (tl1 c) 1
  have HR : Hid (quoteM c ind = if bt c 0 = 62 then some { kind := 4, off := ind + c.size - (stripB (tl1 c) 1).size, rest := stripB (tl1 c) 1 } else none) := Lib.hid rfl
  generalize quoteM c ind = R at *
  rw [HT.out] at *
  generalize stripB (c.extract 1 c.size) 1 = S at *
  by_cases hq : bt c 0 = 62
  · have z1 : (((bt c 0 : Nat) : Int) != 62) = false := by rw [hq]; rfl
    have HF : Hid (R = some { kind := 4, off := ind + c.size - S.size, rest := S }) := Lib.hid (by rw [HR.out, if_pos hq])
    clear HR hq
    obtain ⟨o, ho⟩ : ∃ o, o = ind + c.size - S.size := ⟨_, rfl⟩
    have hoi : (ind : Int) + (c.size : Int) - (S.size : Int) = (o : Int) := by omega
    rw [← ho] at HF
    clear ho
    go_enter Tryz.func61, Tryz.ntmps61
    go_wp2_with fail
    ((with_reducible refine (HS.out _).mono ?_))
    rintro e w' ⟨rfl, rfl⟩
    go_wp2_with fail
    exact quote_ret (Blk.new w _ _) rfl rfl rfl (rd_some HF.out (mkVal_plain (m := { kind := 4, off := o, rest := S }) rfl ((Below.refl _ w).alloc (Nat.le_refl _) _).size) ((Below.refl _ w).alloc (Nat.le_refl _) _))
  · have z1 : (((bt c 0 : Nat) : Int) != 62) = true := by rw [bne_iff_ne]; omega
    have HF : Hid (R = none) := Lib.hid (by rw [HR.out, if_neg hq])
    clear HR hq
    go_enter Tryz.func61, Tryz.ntmps61
    go_wp2_with fail
    exact quote_ret (Blk.new w _ _) rfl rfl rfl (rd_none HF.out ⟨_, _, _, _, _, _, _, _, _, _, _, _, _, _, _, rfl⟩ ((Below.refl _ w).alloc (Nat.le_refl _) _))

end Go.Proofs.YtpoafhgbhnblmaaGreatDoor
namespace Go.Proofs.YtpoafhgbhnblmaaGreatDoor
open Go.RowKit Go.Pub
/-- The world with an empty mark. -/
def zw (w : World) : World := w.alloc (.cells #[.int .i64 0, .int .i64 0, .string ⟨#[]⟩, .int .i64 0, .string ⟨#[]⟩, .string ⟨#[]⟩, .string ⟨#[]⟩, .string ⟨#[]⟩, .string ⟨#[]⟩, .slice none 0 0, .slice none 0 0] 74)
theorem zw_zm (w : World) : ZM (zw w) w.heap.size := Blk.new w _ _
theorem zw_below (w : World) : Below w.heap.size w (zw w) := (Below.refl _ w).alloc (Nat.le_refl _) _
theorem zw_size (w : World) : (zw w).heap.size = w.heap.size + 1 := by unfold zw; simp
theorem ZM.below {W W' : World} {g : Nat} (h : ZM W g) (hb : Below W.heap.size W W') : ZM W' g := Blk.below h hb (Blk.lt h)
theorem zw_after {w w' : World} (hb : Below (zw w).heap.size (zw w) w') : ZM w' w.heap.size ∧ Below w.heap.size w w' := ⟨(zw_zm w).below hb, (zw_below w).trans (hb.mono (zw_below w).size)⟩
set_option maxRecDepth 100000 in
set_option maxHeartbeats 1000000 in
theorem m_bullet (c : ByteArray) (ind : Nat) (w : World) (hs : c.size ≤ 1000000) (h0 : 0 < c.size) (hi : ind ≤ 3) : Calls Tryz.prog 62 #[.string c, .int .i64 ind] w (RdPost (bulletM c ind) w) := by
  have hg := get_bt c 0 h0
  have h1 : 1 ≤ c.size := h0
  have HT : Hid (tl1 c = c.extract 1 c.size) := Lib.hid rfl
  have hts := tl1_size c
  have HS := Lib.hid fun W => m_after (tl1 c) W (by omega)
  have HR : Hid (bulletM c ind = if bt c 0 = 45 ∨ bt c 0 = 43 ∨ bt c 0 = 42 then (if spB (tl1 c) = true then some { kind := 5, ch := c.extract 0 1, off := ind + 2, rest := tl1 (tl1 c) } else none) else none) := Lib.hid rfl
  generalize bulletM c ind = R at *
  have HC : Hid (c.extract 0 1 = c.extract 0 1) := Lib.hid rfl
  rw [HT.out] at *
  generalize tl1 (c.extract 1 c.size) = S at *
  generalize spB (c.extract 1 c.size) = b at *
  have hoi : (ind : Int) + 2 = ((ind + 2 : Nat) : Int) := by omega
  obtain ⟨o, ho⟩ : ∃ o, o = ind + 2 := ⟨_, rfl⟩
  rw [← ho] at HR hoi
  clear ho
  by_cases hq : bt c 0 = 45 ∨ bt c 0 = 43 ∨ bt c 0 = 42
  · have HF : Hid (R = if b = true then some { kind := 5, ch := c.extract 0 1, off := o, rest := S } else none) := Lib.hid (by rw [HR.out, if_pos hq])
    clear HR
    generalize bt c 0 = a at *
    rcases hq with rfl | rfl | rfl
    all_goals
      go_enter Tryz.func62, Tryz.ntmps62
      go_wp2_with fail
      ((with_reducible refine (HS.out _).mono ?_))
      rintro e w' ⟨rfl, b1⟩
      obtain ⟨HZ, HB⟩ := zw_after b1
      obtain ⟨k0, k1, k2, k3, k4, k5, k6, k7, k8, k9, k10, y0, y1, y2, y3, y4, y5, y6, y7, y8, y9, y10⟩ := ZM.facts HZ
      go_wp2_with fail
      exact bullet_ret (blk11 HZ _ _ _ _ _ _ _ _ _ _ _) rfl rfl rfl (rd_if HF.out (mkVal_plain (m := { kind := 5, ch := c.extract 0 1, off := o, rest := S }) rfl (below11 HB (Nat.le_refl _) _ _ _ _ _ _ _ _ _ _ _).size) (below11 HB (Nat.le_refl _) _ _ _ _ _ _ _ _ _ _ _))
  · have z1 : (((bt c 0 : Nat) : Int) != 45) = true := by rw [bne_iff_ne]; omega
    have z2 : (((bt c 0 : Nat) : Int) != 43) = true := by rw [bne_iff_ne]; omega
    have z3 : (((bt c 0 : Nat) : Int) != 42) = true := by rw [bne_iff_ne]; omega
    have HF : Hid (R = none) := Lib.hid (by rw [HR.out, if_neg hq])
    clear HR hq
    go_enter Tryz.func62, Tryz.ntmps62
    go_wp2_with fail
    exact bullet_ret (Blk.new w _ _) rfl rfl rfl (rd_none HF.out ⟨_, _, _, _, _, _, _, _, _, _, _, _, _, _, _, rfl⟩ ((Below.refl _ w).alloc (Nat.le_refl _) _))

set_option maxRecDepth 100000 in
set_option maxHeartbeats 1000000 in
theorem m_formula (c : ByteArray) (ind : Nat) (w : World) (hs : c.size ≤ 1000000) (h0 : 0 < c.size) : Calls Tryz.prog 65 #[.string c, .int .i64 ind] w (RdPost (mathM c) w) := by
  have HP : Hid (∀ W, Calls Tryz.prog 108 #[.string c, .string ⟨#[36, 36]⟩] W fun e w' => e = .returned (.bool (Lib.hasPrefix (bytesL c) [36, 36])) ∧ W = w') := Lib.hid fun W => (Tryz.strings_HasPrefix c ⟨#[36, 36]⟩ W).mono fun e w' ⟨h, h'⟩ => ⟨h, h'.symm⟩
  have hsz : (c.extract 2 c.size).size ≤ 1000000 := by rw [ByteArray.size_extract]; omega
  have HB := Lib.hid fun W => t_blank (c.extract 2 c.size) W hsz
  have HR : Hid (mathM c = if Lib.hasPrefix (bytesL c) [36, 36] = true ∧ blankB (c.extract 2 c.size) = true then some { kind := 8 } else none) := Lib.hid rfl
  have hl : Lib.hasPrefix (bytesL c) [36, 36] = true → 2 ≤ c.size := fun h => by
    have : [36, 36] <+: bytesL c := by simpa [Lib.hasPrefix] using h
    have := this.length_le
    rw [bytesL_length] at this
    exact this
  generalize mathM c = R at *
  generalize blankB (c.extract 2 c.size) = b at *
  cases hp : Lib.hasPrefix (bytesL c) [36, 36]
  · rw [hp] at HP HR
    have HF : Hid (R = if false = true then some { kind := 8 } else none) := Lib.hid (by rw [HR.out]; simp)
    clear HR hp hl
    go_enter Tryz.func65, Tryz.ntmps65
    go_wp2_with fail
    ((with_reducible refine (HP.out _).mono ?_))
    rintro e w' ⟨rfl, rfl⟩
    go_wp2_with fail
    exact formula_ret (Blk.new w _ _) rfl rfl rfl (rd_if HF.out (mkVal_plain (m := { kind := 8 }) rfl ((Below.refl _ w).alloc (Nat.le_refl _) _).size) ((Below.refl _ w).alloc (Nat.le_refl _) _))
  · have h2 := hl hp
    rw [hp] at HP HR
    have HF : Hid (R = if b = true then some { kind := 8 } else none) := Lib.hid (by rw [HR.out]; simp)
    clear HR hp hl
    go_enter Tryz.func65, Tryz.ntmps65
    go_wp2_with fail
    ((with_reducible refine (HP.out _).mono ?_))
    rintro e w' ⟨rfl, rfl⟩
    go_wp2_with fail
    ((with_reducible refine (HB.out _).mono ?_))
    rintro e w' ⟨rfl, rfl⟩
    go_wp2_with fail
    exact formula_ret (Blk.new w _ _) rfl rfl rfl (rd_if HF.out (mkVal_plain (m := { kind := 8 }) rfl ((Below.refl _ w).alloc (Nat.le_refl _) _).size) ((Below.refl _ w).alloc (Nat.le_refl _) _))

set_option maxRecDepth 100000 in
set_option maxHeartbeats 2000000 in
theorem m_fence (c : ByteArray) (ind : Nat) (w : World) (hs : c.size ≤ 1000000) (h0 : 0 < c.size) (hi : ind ≤ 3) : Calls Tryz.prog 64 #[.string c, .int .i64 ind] w (RdPost (fenceM c ind) w) := by
  have hg := get_bt c 0 h0
  have h1 : 1 ≤ c.size := h0
  have hnl := firstN_le c (· != bt c 0)
  have h1i : (1 : Int) ≤ (c.size : Int) := by omega
  have hnli : (firstN c (· != bt c 0) : Int) ≤ (c.size : Int) := by omega
  have HRn := Lib.hid fun W => m_run c (bt c 0) (bt_lt c 0) W hs
  have HR : Hid (fenceM c ind = if bt c 0 = 96 ∨ bt c 0 = 126 then (if fenceB c (firstN c (· != bt c 0)) = true then some { kind := 7, n := firstN c (· != bt c 0), ch := c.extract 0 1, info := mk (trimS (sfx c (firstN c (· != bt c 0)))), off := ind } else none) else none) := Lib.hid rfl
  have HFB : Hid (fenceB c (firstN c (· != bt c 0)) = (decide (3 ≤ firstN c (· != bt c 0)) && !(decide (bt c 0 = 96) && (sfx c (firstN c (· != bt c 0))).contains 96))) := Lib.hid rfl
  generalize firstN c (· != bt c 0) = n at *
  have HX := Lib.hid (extract_drop c n)
  have hxs : (c.extract n c.size).size ≤ 1000000 := by rw [ByteArray.size_extract]; omega
  have HTr : Hid (∀ W, Calls Tryz.prog 105 #[.string (c.extract n c.size)] W fun e w' => e = .returned (.string (mk (trimS (sfx c n)))) ∧ w' = W) := Lib.hid fun W => by
    have h := (t_trim (c.extract n c.size) W hxs).mono fun e w' h => (⟨h.1, h.2.symm⟩ : _ ∧ w' = W)
    rw [HX.out, bytesL_mk'] at h
    rw [HX.out]
    exact h
  have HI : Hid (∀ W, Calls Tryz.prog 91 #[.string (c.extract n c.size), .int .u8 96] W fun e w' => e = .returned (.int .i64 (Lib.indexByte (sfx c n) 96)) ∧ W = w') := Lib.hid fun W => by
    have h := (Tryz.strings_IndexByte (c.extract n c.size) 96 W).mono fun e w' ⟨h, h'⟩ => (⟨h, h'.symm⟩ : _ ∧ W = w')
    have e1 : (c.extract n c.size).data.toList = sfx c n := by
      have := bytesL_mk' (sfx c n)
      rw [← HX.out] at this
      exact this
    rw [e1] at h
    exact h
  obtain ⟨hd1, hd2⟩ := indexByte_neg (sfx c n) 96
  have HCn : Hid (decide (0 ≤ Lib.indexByte (sfx c n) 96) = (sfx c n).contains 96) := Lib.hid (Lib.contains_iff_indexByte _ _).symm
  clear hd2
  generalize Lib.indexByte (sfx c n) 96 = x at *
  generalize (sfx c n).contains 96 = q at *
  generalize mk (trimS (sfx c n)) = T at *
  clear HX
  generalize fenceM c ind = R at *
  by_cases hq : bt c 0 = 96 ∨ bt c 0 = 126
  · rw [if_pos hq] at HR
    generalize bt c 0 = a at *
    have hcase : (((a : Int) != 96) = false ∧ ((a : Int) == 96) = true ∧ Hid (decide (a = 96) = true)) ∨ (((a : Int) != 96) = true ∧ ((a : Int) != 126) = false ∧ ((a : Int) == 96) = false ∧ Hid (decide (a = 96) = false)) := by
      rcases hq with rfl | rfl
      · left; exact ⟨rfl, rfl, Lib.hid rfl⟩
      · right; exact ⟨rfl, rfl, rfl, Lib.hid rfl⟩
    clear hq
    by_cases h3 : n < 3
    · have HF : Hid (R = none) := Lib.hid (by rw [HR.out, HFB.out, decide_eq_false (show ¬ 3 ≤ n by omega)]; rfl)
      have d1 : decide ((n : Int) < 3) = true := decide_eq_true (by omega)
      have d2 : decide (n < 3) = true := decide_eq_true h3
      clear HR HFB
      rcases hcase with ⟨z1, z2, -⟩ | ⟨z1, z2, z3, -⟩
      all_goals
        go_enter Tryz.func64, Tryz.ntmps64
        go_wp2_with fail
        ((with_reducible refine (HRn.out _).mono ?_))
        rintro e w' ⟨rfl, b1⟩
        obtain ⟨HZ, HB⟩ := zw_after b1
        obtain ⟨k0, k1, k2, k3, k4, k5, k6, k7, k8, k9, k10, y0, y1, y2, y3, y4, y5, y6, y7, y8, y9, y10⟩ := ZM.facts HZ
        go_wp2_with fail
        exact fence_ret (blk11 HZ _ _ _ _ _ _ _ _ _ _ _) rfl rfl rfl (rd_none HF.out ⟨_, _, _, _, _, _, _, _, _, _, _, _, _, _, _, rfl⟩ (below11 HB (Nat.le_refl _) _ _ _ _ _ _ _ _ _ _ _))
    · have d1 : decide ((n : Int) < 3) = false := decide_eq_false (by omega)
      have d2 : decide (n < 3) = false := decide_eq_false h3
      have h3' : decide (3 ≤ n) = true := decide_eq_true (by omega)
      rw [h3'] at HFB
      rcases hcase with ⟨z1, z2, z4⟩ | ⟨z1, z2, z3, z4⟩
      · rw [z4.out] at HFB
        cases q
        · have HF : Hid (R = some { kind := 7, n := n, ch := c.extract 0 1, info := T, off := ind }) := Lib.hid (by rw [HR.out, HFB.out]; rfl)
          have dx := HCn.out
          clear HR HFB HCn h3 h3'
          go_enter Tryz.func64, Tryz.ntmps64
          go_wp2_with fail
          ((with_reducible refine (HRn.out _).mono ?_))
          rintro e w' ⟨rfl, b1⟩
          obtain ⟨HZ, HB⟩ := zw_after b1
          obtain ⟨k0, k1, k2, k3, k4, k5, k6, k7, k8, k9, k10, y0, y1, y2, y3, y4, y5, y6, y7, y8, y9, y10⟩ := ZM.facts HZ
          go_wp2_with fail
          ((with_reducible refine (HI.out _).mono ?_))
          rintro e w2 ⟨rfl, rfl⟩
          go_wp2_with fail
          refine wp_region_still_tail 9 (by kernel_rfl) (by kernel_rfl) ?_
          simp only [List.take_succ_cons, List.take_zero, List.drop_succ_cons, List.drop_zero]
          repeat still_step
          still_call (HTr.out _)
          repeat still_step
          refine wpStill_nil ?_
          go_wp2_with fail
          exact fence_ret (Blk.drewN (blk11 HZ _ _ _ _ _ _ _ _ _ _ _) 1) rfl rfl rfl (rd_some HF.out (mkVal_plain (m := { kind := 7, n := n, ch := c.extract 0 1, info := T, off := ind }) rfl (below_drewN (below11 HB (Nat.le_refl _) _ _ _ _ _ _ _ _ _ _ _) 1).size) (below_drewN (below11 HB (Nat.le_refl _) _ _ _ _ _ _ _ _ _ _ _) 1))
        · have HF : Hid (R = none) := Lib.hid (by rw [HR.out, HFB.out]; rfl)
          have dx := HCn.out
          clear HR HFB HCn h3 h3'
          go_enter Tryz.func64, Tryz.ntmps64
          go_wp2_with fail
          ((with_reducible refine (HRn.out _).mono ?_))
          rintro e w' ⟨rfl, b1⟩
          obtain ⟨HZ, HB⟩ := zw_after b1
          obtain ⟨k0, k1, k2, k3, k4, k5, k6, k7, k8, k9, k10, y0, y1, y2, y3, y4, y5, y6, y7, y8, y9, y10⟩ := ZM.facts HZ
          go_wp2_with fail
          ((with_reducible refine (HI.out _).mono ?_))
          rintro e w2 ⟨rfl, rfl⟩
          go_wp2_with fail
          exact fence_ret (blk11 HZ _ _ _ _ _ _ _ _ _ _ _) rfl rfl rfl (rd_none HF.out ⟨_, _, _, _, _, _, _, _, _, _, _, _, _, _, _, rfl⟩ (below11 HB (Nat.le_refl _) _ _ _ _ _ _ _ _ _ _ _))
      · rw [z4.out] at HFB
        have HF : Hid (R = some { kind := 7, n := n, ch := c.extract 0 1, info := T, off := ind }) := Lib.hid (by rw [HR.out, HFB.out]; rfl)
        clear HR HFB HCn h3 h3'
        go_enter Tryz.func64, Tryz.ntmps64
        go_wp2_with fail
        ((with_reducible refine (HRn.out _).mono ?_))
        rintro e w' ⟨rfl, b1⟩
        obtain ⟨HZ, HB⟩ := zw_after b1
        obtain ⟨k0, k1, k2, k3, k4, k5, k6, k7, k8, k9, k10, y0, y1, y2, y3, y4, y5, y6, y7, y8, y9, y10⟩ := ZM.facts HZ
        go_wp2_with fail
        refine wp_region_still_tail 9 (by kernel_rfl) (by kernel_rfl) ?_
        simp only [List.take_succ_cons, List.take_zero, List.drop_succ_cons, List.drop_zero]
        repeat still_step
        still_call (HTr.out _)
        repeat still_step
        refine wpStill_nil ?_
        go_wp2_with fail
        exact fence_ret (Blk.drewN (blk11 HZ _ _ _ _ _ _ _ _ _ _ _) 1) rfl rfl rfl (rd_some HF.out (mkVal_plain (m := { kind := 7, n := n, ch := c.extract 0 1, info := T, off := ind }) rfl (below_drewN (below11 HB (Nat.le_refl _) _ _ _ _ _ _ _ _ _ _ _) 1).size) (below_drewN (below11 HB (Nat.le_refl _) _ _ _ _ _ _ _ _ _ _ _) 1))
  · have z1 : (((bt c 0 : Nat) : Int) != 96) = true := by rw [bne_iff_ne]; omega
    have z2 : (((bt c 0 : Nat) : Int) != 126) = true := by rw [bne_iff_ne]; omega
    have HF : Hid (R = none) := Lib.hid (by rw [HR.out, if_neg hq])
    clear HR hq
    go_enter Tryz.func64, Tryz.ntmps64
    go_wp2_with fail
    exact fence_ret (Blk.new w _ _) rfl rfl rfl (rd_none HF.out ⟨_, _, _, _, _, _, _, _, _, _, _, _, _, _, _, rfl⟩ ((Below.refl _ w).alloc (Nat.le_refl _) _))

end Go.Proofs.YtpoafhgbhnblmaaGreatDoor
