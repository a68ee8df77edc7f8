/-
  Texts of the proof, put together (what this law reaches): MkI.
-/
import Derived.Test.YtpoafhgbhnblmaaGreatDoorX17
import Derived.IntWalk
set_option linter.unusedVariables false
set_option linter.unusedSimpArgs false
namespace Go.Proofs.YtpoafhgbhnblmaaGreatDoor
open Go.RowKit Go.Pub Go.Shelf
theorem keeps11 (W : World) (g : Nat) (y0 y1 y2 y3 y4 y5 y6 y7 y8 y9 y10 : Value) : KeepsOthers W (((((((((((W.setCell ⟨g, 0, none⟩ y0).setCell ⟨g, 1, none⟩ y1).setCell ⟨g, 2, none⟩ y2).setCell ⟨g, 3, none⟩ y3).setCell ⟨g, 4, none⟩ y4).setCell ⟨g, 5, none⟩ y5).setCell ⟨g, 6, none⟩ y6).setCell ⟨g, 7, none⟩ y7).setCell ⟨g, 8, none⟩ y8).setCell ⟨g, 9, none⟩ y9).setCell ⟨g, 10, none⟩ y10) :=
  (((((((((((KeepsOthers.refl W).trans (KeepsOthers.setCell _ ⟨g, 0, none⟩ y0)).trans (KeepsOthers.setCell _ ⟨g, 1, none⟩ y1)).trans (KeepsOthers.setCell _ ⟨g, 2, none⟩ y2)).trans (KeepsOthers.setCell _ ⟨g, 3, none⟩ y3)).trans (KeepsOthers.setCell _ ⟨g, 4, none⟩ y4)).trans (KeepsOthers.setCell _ ⟨g, 5, none⟩ y5)).trans (KeepsOthers.setCell _ ⟨g, 6, none⟩ y6)).trans (KeepsOthers.setCell _ ⟨g, 7, none⟩ y7)).trans (KeepsOthers.setCell _ ⟨g, 8, none⟩ y8)).trans (KeepsOthers.setCell _ ⟨g, 9, none⟩ y9)).trans (KeepsOthers.setCell _ ⟨g, 10, none⟩ y10)
/-- A result's block is stored once more with zeros. -/
theorem zend {w W : World} (h : ZM W w.heap.size) (hB : Below w.heap.size w W) : ∃ W9, W9 = (((((((((((W.setCell ⟨w.heap.size, 0, none⟩ (.int .i64 0)).setCell ⟨w.heap.size, 1, none⟩ (.int .i64 0)).setCell ⟨w.heap.size, 2, none⟩ (.string ⟨#[]⟩)).setCell ⟨w.heap.size, 3, none⟩ (.int .i64 0)).setCell ⟨w.heap.size, 4, none⟩ (.string ⟨#[]⟩)).setCell ⟨w.heap.size, 5, none⟩ (.string ⟨#[]⟩)).setCell ⟨w.heap.size, 6, none⟩ (.string ⟨#[]⟩)).setCell ⟨w.heap.size, 7, none⟩ (.string ⟨#[]⟩)).setCell ⟨w.heap.size, 8, none⟩ (.string ⟨#[]⟩)).setCell ⟨w.heap.size, 9, none⟩ (.slice none 0 0)).setCell ⟨w.heap.size, 10, none⟩ (.slice none 0 0)) ∧ Blk W9 w.heap.size 74 #[.int .i64 0, .int .i64 0, .string ⟨#[]⟩, .int .i64 0, .string ⟨#[]⟩, .string ⟨#[]⟩, .string ⟨#[]⟩, .string ⟨#[]⟩, .string ⟨#[]⟩, .slice none 0 0, .slice none 0 0] ∧ KeepsOthers W W9 ∧ Below w.heap.size w W9 :=
  ⟨_, rfl, blk11 h (.int .i64 0) (.int .i64 0) (.string ⟨#[]⟩) (.int .i64 0) (.string ⟨#[]⟩) (.string ⟨#[]⟩) (.string ⟨#[]⟩) (.string ⟨#[]⟩) (.string ⟨#[]⟩) (.slice none 0 0) (.slice none 0 0), keeps11 _ _ _ _ _ _ _ _ _ _ _ _ _, below11 hB (Nat.le_refl _) (.int .i64 0) (.int .i64 0) (.string ⟨#[]⟩) (.int .i64 0) (.string ⟨#[]⟩) (.string ⟨#[]⟩) (.string ⟨#[]⟩) (.string ⟨#[]⟩) (.string ⟨#[]⟩) (.slice none 0 0) (.slice none 0 0)⟩
attribute [local go_sem] Oper.semAt_some
def digN (n : Nat) : Bool := decide (48 ≤ n) && decide (n ≤ 57)
def numDig (c : ByteArray) : Nat := firstN c (fun b => !digN b)
def numVal (c : ByteArray) (k : Nat) : Nat := (List.range k).foldl (fun a j => 10 * a + (bt c j - 48)) 0
/-- A numbered item with k digits and the value v. -/
def numR (c : ByteArray) (ind k v : Nat) : Option MkL :=
  if (1 ≤ k ∧ k ≤ 9 ∧ k < c.size) ∧ (bt c k = 46 ∨ bt c k = 41) then (if spB (c.extract (k + 1) c.size) = true then some { kind := 6, n := v, ch := c.extract k (k + 1), off := ind + k + 2, info := c.extract 0 k, rest := tl1 (c.extract (k + 1) c.size) } else none) else none
def numberM (c : ByteArray) (ind : Nat) : Option MkL := numR c ind (numDig c) (numVal c (numDig c))
def numF (c : ByteArray) {n : Nat} (l : List (Fin n)) : Nat := l.foldl (fun a j => 10 * a + (bt c j.1 - 48)) 0
theorem numF_snoc (c : ByteArray) {n : Nat} (l : List (Fin n)) (x : Fin n) : numF c (l ++ [x]) = 10 * numF c l + (bt c x.1 - 48) := by
  unfold numF; rw [List.foldl_append]; rfl
theorem numF_map (c : ByteArray) {n : Nat} (l : List (Fin n)) : numF c l = (l.map Fin.val).foldl (fun a j => 10 * a + (bt c j - 48)) 0 := by
  unfold numF; rw [List.foldl_map]
theorem numF_val (c : ByteArray) {n : Nat} (l : List (Fin n)) (k : Nat) (h : l.map Fin.val = List.range k) : numF c l = numVal c k := by
  rw [numF_map, h]; rfl
theorem digN_iff (n : Nat) : digN n = true ↔ 48 ≤ n ∧ n ≤ 57 := by
  unfold digN; rw [Bool.and_eq_true, decide_eq_true_iff, decide_eq_true_iff]
theorem numF_lt (c : ByteArray) {n : Nat} : ∀ (k : Nat) (l : List (Fin n)), l.length = k → (∀ j ∈ l, digN (bt c j.1) = true) → numF c l < 10 ^ k
  | 0, l, h, _ => by
    have := List.eq_nil_of_length_eq_zero h
    subst this
    show 0 < 10 ^ 0
    decide
  | k + 1, l, h, hd => by
    rcases List.eq_nil_or_concat l with rfl | ⟨l', x, rfl⟩
    · simp at h
    · rw [List.concat_eq_append] at h hd ⊢
      have ih := numF_lt c k l' (by simpa using h) (fun j hj => hd j (by simp [hj]))
      have hx := (digN_iff _).1 (hd x (by simp))
      rw [numF_snoc, Nat.pow_succ]
      omega
theorem firstN_ge (s : ByteArray) (p : Nat → Bool) (k : Nat) (h : k ≤ s.size) (h1 : ∀ j, j < k → p (bt s j) = false) : k ≤ firstN s p := by
  rcases Nat.lt_or_ge (firstN s p) k with hlt | hge
  · have hl : firstN s p < (bytesL s).length := by rw [bytesL_length]; omega
    have := List.findIdx_getElem (w := hl)
    have hat := bytesL_at s (firstN s p) (by omega)
    rw [List.getElem?_eq_getElem hl] at hat
    injection hat with hat
    have e : (bytesL s)[List.findIdx (fun b => p b.toNat) (bytesL s)] = s.get! (firstN s p) := hat
    rw [e] at this
    have h2 := h1 _ hlt
    unfold bt at h2
    rw [this] at h2
    cases h2
  · exact hge
theorem numR_big (c : ByteArray) (ind k v : Nat) (h : 9 < k) : numR c ind k v = none := by
  unfold numR; rw [if_neg (by omega)]
theorem num_bound {k v : Nat} (h : v < 10 ^ k) (hk : k ≤ 10) : v < 10000000000 := Nat.lt_of_lt_of_le h (Nat.pow_le_pow_right (by decide) hk)
set_option maxRecDepth 100000 in
set_option maxHeartbeats 16000000 in
theorem m_number (c : ByteArray) (ind : Nat) (w : World) (hs : c.size ≤ 1000000) (h0 : 0 < c.size) (hi : ind ≤ 3) : Calls Tryz.prog 63 #[.string c, .int .i64 ind] w (RdPost (numberM c ind) w) := by
  have HP := Lib.hid fun W => characters_any c W
  have HR : Hid (numberM c ind = numR c ind (numDig c) (numVal c (numDig c))) := Lib.hid rfl
  have HND : Hid (numDig c = firstN c (fun b => !digN b)) := Lib.hid rfl
  generalize numberM c ind = R at *
  refine (callsIn_wide (n := 5)).1 ?_
  refine callsIn_of_wp_marks Tryz.func63 rfl trivial ?_ rfl
  simp only [Tryz.ntmps63, List.size_toArray, List.length_cons, List.length_nil, Nat.reduceAdd, Nat.reduceSub, Array.replicate_succ, Array.replicate_zero, List.push_toArray, List.append_toArray, List.nil_append, List.cons_append]
  refine wpIn_wide.2 ?_
  go_wp2_with fail
  ((with_reducible refine (HP.out _).mono ?_))
  rintro e w' ⟨rfl, rfl⟩
  go_wp2_with fail
  refine (wpIn_wide (n := 5)).1 ?_
  have hZ : ZM ((((zw w).alloc (.cells #[.int .i64 0] 3)).alloc (.cells #[.int .i64 0] 3)).alloc (.cells #[.string c] 9)) w.heap.size := Blk.alloc (Blk.alloc (Blk.alloc (zw_zm w) _) _) _
  have hN : Boxed ((((zw w).alloc (.cells #[.int .i64 0] 3)).alloc (.cells #[.int .i64 0] 3)).alloc (.cells #[.string c] 9)) (w.heap.size + 1) 3 (.int .i64 0) := by
    have := ((Boxed.new (zw w) 3 (.int .i64 0)).alloc (.cells #[.int .i64 0] 3)).alloc (.cells #[.string c] 9)
    rw [zw_size] at this
    exact this
  have hV : Boxed ((((zw w).alloc (.cells #[.int .i64 0] 3)).alloc (.cells #[.int .i64 0] 3)).alloc (.cells #[.string c] 9)) (w.heap.size + 1 + 1) 3 (.int .i64 0) := by
    have := (Boxed.new ((zw w).alloc (.cells #[.int .i64 0] 3)) 3 (.int .i64 0)).alloc (.cells #[.string c] 9)
    rw [World.size_alloc, zw_size] at this
    exact this
  have hS : Boxed ((((zw w).alloc (.cells #[.int .i64 0] 3)).alloc (.cells #[.int .i64 0] 3)).alloc (.cells #[.string c] 9)) (w.heap.size + 1 + 1 + 1) 9 (.string c) := by
    have := Boxed.new (((zw w).alloc (.cells #[.int .i64 0] 3)).alloc (.cells #[.int .i64 0] 3)) 9 (.string c)
    rw [World.size_alloc, World.size_alloc, zw_size] at this
    exact this
  have hB0 : Below w.heap.size w ((((zw w).alloc (.cells #[.int .i64 0] 3)).alloc (.cells #[.int .i64 0] 3)).alloc (.cells #[.string c] 9)) := (((zw_below w).alloc (zw_below w).size _).alloc (by simp; have := (zw_below w).size; omega) _).alloc (by simp; have := (zw_below w).size; omega) _
  have hz4 : ((((zw w).alloc (.cells #[.int .i64 0] 3)).alloc (.cells #[.int .i64 0] 3)).alloc (.cells #[.string c] 9)).heap.size = w.heap.size + 4 := by simp [zw_size]
  unfold zw at hZ hN hV hS hB0 hz4
  generalize (((w.alloc (.cells #[.int .i64 0, .int .i64 0, .string ⟨#[]⟩, .int .i64 0, .string ⟨#[]⟩, .string ⟨#[]⟩, .string ⟨#[]⟩, .string ⟨#[]⟩, .string ⟨#[]⟩, .slice none 0 0, .slice none 0 0] 74)).alloc (.cells #[.int .i64 0] 3)).alloc (.cells #[.int .i64 0] 3)).alloc (.cells #[.string c] 9) = W0 at *
  refine wpIn_rangeFunc_ownG rfl (by omega) (gf := 163) (lb := #[.pointer (some ⟨w.heap.size + 1 + 1 + 1, 0, none⟩)]) rfl trivial (enters_of Tryz.func163 (by kernel_rfl) rfl)
    (chars_stops 4 (by omega) (w.heap.size + 1 + 1 + 1) c hs _ hS) (Kp := KpB (w.heap.size + 1 + 1 + 1)) (fun h1 h2 => h2.trans h1) (fun W l o o' hl ho hc _ => World.putObj_heap_other (fun e => by omega)) (Below.refl _ _) (fun _ => rfl)
    (fun (pre : List (Fin c.size)) W => (ZM W w.heap.size ∧ Boxed W (w.heap.size + 1 + 1 + 1) 9 (.string c)) ∧ (Boxed W (w.heap.size + 1) 3 (.int .i64 (pre.length : Nat)) ∧ Boxed W (w.heap.size + 1 + 1) 3 (.int .i64 (numF c pre : Nat))) ∧ ((∀ j ∈ pre, digN (bt c j.1) = true) ∧ pre.length ≤ 10) ∧ Below w.heap.size w W)
    (fun q (pre : List (Fin c.size)) W => ((q = Code.exit 0 ∧ ∃ pr x, pre = pr ++ [x] ∧ (∀ j ∈ pr, digN (bt c j.1) = true) ∧ pr.length ≤ 10 ∧ (digN (bt c x.1) = false ∨ pr.length = 10)) ∧ ZM W w.heap.size) ∧ (Boxed W (w.heap.size + 1) 3 (.int .i64 (pre.dropLast.length : Nat)) ∧ Boxed W (w.heap.size + 1 + 1) 3 (.int .i64 (numF c pre.dropLast : Nat))) ∧ Below w.heap.size w W)
    (OwnFrom.and (OwnFrom.and (Own.from (blk_own _ _ (fun _ => #[.int .i64 0, .int .i64 0, .string ⟨#[]⟩, .int .i64 0, .string ⟨#[]⟩, .string ⟨#[]⟩, .string ⟨#[]⟩, .string ⟨#[]⟩, .string ⟨#[]⟩, .slice none 0 0, .slice none 0 0])) _) (Own.from (boxed_own _ _ (fun _ => .string c)) _)) (OwnFrom.and (OwnFrom.and (Own.from (boxed_own _ _ (fun (pre : List (Fin c.size)) => .int .i64 (pre.length : Nat))) _) (Own.from (boxed_own _ _ (fun (pre : List (Fin c.size)) => .int .i64 (numF c pre : Nat))) _)) (OwnFrom.and (ownFrom_pure _ _) (ownFrom_below (Nat.le_refl _) (by omega)))))
    (fun q => OwnFrom.and (OwnFrom.and (ownFrom_pure _ _) (Own.from (blk_own _ _ (fun _ => #[.int .i64 0, .int .i64 0, .string ⟨#[]⟩, .int .i64 0, .string ⟨#[]⟩, .string ⟨#[]⟩, .string ⟨#[]⟩, .string ⟨#[]⟩, .string ⟨#[]⟩, .slice none 0 0, .slice none 0 0])) _)) (OwnFrom.and (OwnFrom.and (Own.from (boxed_own _ _ (fun (pre : List (Fin c.size)) => .int .i64 (pre.dropLast.length : Nat))) _) (Own.from (boxed_own _ _ (fun (pre : List (Fin c.size)) => .int .i64 (numF c pre.dropLast : Nat))) _)) (ownFrom_below (Nat.le_refl _) (by omega))))
    ⟨⟨hZ, hS⟩, ⟨hN, hV⟩, ⟨fun j h => absurd h (by simp), by simp⟩, hB0⟩
    (fun (x : Fin c.size) => { tmps := #[.string c, .int .i64 ind, undef, undef, .pointer (some ⟨w.heap.size, 0, none⟩), .bool false, .pointer (some ⟨w.heap.size + 1, 0, none⟩), .pointer (some ⟨w.heap.size + 1 + 1, 0, none⟩), undef, .int .u8 (bt c x.1), undef, undef, .string c, .func (.func 163) #[] #[.pointer (some ⟨w.heap.size + 1 + 1 + 1, 0, none⟩)], .int .i64 (x.1 : Nat), .int .u8 (bt c x.1), undef, undef, undef, undef, undef, undef, undef, undef, undef, undef, undef, undef, undef, undef, undef, undef, undef, undef, undef, undef, undef, undef, undef, undef, undef, undef, undef, undef, undef, undef, undef, undef, undef, undef, undef, undef, undef, undef, undef, undef, undef, undef, undef, undef, undef, undef, undef, undef, undef, undef, undef, undef, undef, undef, undef, undef, undef, undef, undef, undef, undef, undef, undef, undef, undef, undef, undef], defers := [] }) ?assign ?body ?done ?stop
  case assign =>
    intro l x W K hK
    gi_wp2_with fail
    exact hK
  case body =>
    rintro l pre x W ⟨⟨hZ, hS⟩, ⟨hN, hV⟩, ⟨hg, hl10⟩, hB⟩ hlt
    have HG := Lib.hid hg
    have hb := num_bound (numF_lt c _ pre rfl hg) hl10
    clear hg
    have n1 := hN.cell
    have n2 := hN.frozen
    have v1 := hV.cell
    have v2 := hV.frozen
    have hbx := bt_lt c x.1
    have hcase : (((((bt c x.1 : Nat) : Int) < 48 ∨ (48 ≤ ((bt c x.1 : Nat) : Int) ∧ 57 < ((bt c x.1 : Nat) : Int))) ∨ ((48 ≤ ((bt c x.1 : Nat) : Int) ∧ ((bt c x.1 : Nat) : Int) ≤ 57) ∧ 9 < pre.length)) ∧ Hid (digN (bt c x.1) = false ∨ pre.length = 10)) ∨ ((48 ≤ ((bt c x.1 : Nat) : Int) ∧ ((bt c x.1 : Nat) : Int) ≤ 57) ∧ pre.length ≤ 9 ∧ Hid (digN (bt c x.1) = true)) := by
      by_cases h : digN (bt c x.1) = true
      · have := (digN_iff _).1 h
        by_cases h9 : pre.length ≤ 9
        · exact Or.inr ⟨by omega, h9, Lib.hid h⟩
        · exact Or.inl ⟨Or.inr ⟨by omega, by omega⟩, Lib.hid (Or.inr (by omega))⟩
      · have h' : digN (bt c x.1) = false := by simpa using h
        have : ¬ (48 ≤ bt c x.1 ∧ bt c x.1 ≤ 57) := fun e => h ((digN_iff _).2 e)
        exact Or.inl ⟨by omega, Lib.hid (Or.inl h')⟩
    have hns := numF_snoc c pre x
    have HNS := Lib.hid hns
    clear hns
    have hln : (pre ++ [x]).length = pre.length + 1 := by simp
    have HLN := Lib.hid hln
    clear hln
    have HDL : Hid ((pre ++ [x]).dropLast = pre) := Lib.hid (by simp)
    have NX : digN (bt c x.1) = true → ∀ j ∈ pre ++ [x], digN (bt c j.1) = true := fun h j hj => by
      rcases List.mem_append.1 hj with hj | hj
      · exact HG.out j hj
      · rw [List.mem_singleton] at hj; rw [hj]; exact h
    generalize hvn : numF c pre = v at *
    have HVN := Lib.hid hvn
    clear hvn
    rcases hcase with ⟨(h1 | h1) | ⟨h1, h2⟩, hh⟩ | ⟨⟨h1, h1'⟩, h2, hh⟩
    case inl.inl.inl =>
      have d1 : decide (((bt c x.1 : Nat) : Int) < 48) = true := decide_eq_true h1
      clear h1 NX
      gi_wp2_with fail
      exact ⟨(KeepsOthers.refl _).from _, ⟨⟨rfl, pre, x, rfl, HG.out, hl10, hh.out⟩, hZ⟩, ⟨by rw [HDL.out]; exact hN, by rw [HDL.out, HVN.out]; exact hV⟩, hB⟩
    case inl.inl.inr =>
      have d1 : decide (((bt c x.1 : Nat) : Int) < 48) = false := decide_eq_false (by omega)
      have d2 : decide (57 < ((bt c x.1 : Nat) : Int)) = true := decide_eq_true (by omega)
      clear h1 NX
      gi_wp2_with fail
      exact ⟨(KeepsOthers.refl _).from _, ⟨⟨rfl, pre, x, rfl, HG.out, hl10, hh.out⟩, hZ⟩, ⟨by rw [HDL.out]; exact hN, by rw [HDL.out, HVN.out]; exact hV⟩, hB⟩
    case inl.inr =>
      have d1 : decide (((bt c x.1 : Nat) : Int) < 48) = false := decide_eq_false (by omega)
      have d2 : decide (57 < ((bt c x.1 : Nat) : Int)) = false := decide_eq_false (by omega)
      have d3 : decide (9 < pre.length) = true := decide_eq_true h2
      have d4 : decide (9 < (pre.length : Int)) = true := decide_eq_true (by omega)
      clear h1 NX
      gi_wp2_with fail
      exact ⟨(KeepsOthers.refl _).from _, ⟨⟨rfl, pre, x, rfl, HG.out, hl10, hh.out⟩, hZ⟩, ⟨by rw [HDL.out]; exact hN, by rw [HDL.out, HVN.out]; exact hV⟩, hB⟩
    case inr =>
      have d1 : decide (((bt c x.1 : Nat) : Int) < 48) = false := decide_eq_false (by omega)
      have d2 : decide (57 < ((bt c x.1 : Nat) : Int)) = false := decide_eq_false (by omega)
      have d3 : decide (9 < pre.length) = false := decide_eq_false (by omega)
      have d4 : decide (9 < (pre.length : Int)) = false := decide_eq_false (by omega)
      have HN' := Lib.hid (NX hh.out)
      obtain ⟨d, hd⟩ : ∃ d, bt c x.1 = d + 48 := ⟨bt c x.1 - 48, by omega⟩
      have hdv : Hid (numF c (pre ++ [x]) = 10 * v + d) := Lib.hid (by rw [HNS.out, hd]; omega)
      have hd9 : d ≤ 9 := by omega
      have hdi : ((bt c x.1 : Nat) : Int) - 48 = (d : Int) := by omega
      have hdw : IntKind.u8.wrap (d : Int) = (d : Int) := by
        have := IntWalk.u8_in (d : Int) (by omega)
        exact this
      clear NX HNS hd
      have hv2 : Boxed (W.setCell ⟨w.heap.size + 1, 0, none⟩ (.int .i64 ((pre.length : Int) + 1))) (w.heap.size + 1 + 1) 3 (.int .i64 (v : Nat)) := Blk.far hV (by simp) _
      have v3 := hv2.cell
      have v4 := hv2.frozen
      gi_wp2_with fail
      refine ⟨((KeepsOthers.setCell _ ⟨w.heap.size + 1, 0, none⟩ _).trans (KeepsOthers.setCell _ ⟨w.heap.size + 1 + 1, 0, none⟩ _)).from _, (Blk.far (Blk.far hS (by simp <;> omega) _) (by simp <;> omega) _).trans hS.symm, ⟨Blk.far (Blk.far hZ (by simp <;> omega) _) (by simp <;> omega) _, Blk.far (Blk.far hS (by simp <;> omega) _) (by simp <;> omega) _⟩, ⟨?_, ?_⟩, ⟨HN'.out, by rw [HLN.out]; omega⟩, (hB.setCell (p := ⟨w.heap.size + 1, 0, none⟩) (by show w.heap.size ≤ w.heap.size + 1; omega) _).setCell (p := ⟨w.heap.size + 1 + 1, 0, none⟩) (by show w.heap.size ≤ w.heap.size + 1 + 1; omega) _⟩
      · rw [HLN.out]; exact Blk.far (hN.set _) (by simp <;> omega) _
      · rw [hdv.out]; exact hv2.set _
  case done =>
    rintro D ys W hD hys ⟨⟨hZ, hS⟩, ⟨hN, hV⟩, ⟨hg, hl10⟩, hB⟩ hK
    have hyl : ys.length = c.size := by have := congrArg List.length hys; rwa [List.length_map, List.length_range] at this
    have hnd : numDig c = c.size := firstN_eq c _ _ (Nat.le_refl _) (fun j hj => by
      have : j ∈ ys.map Fin.val := by rw [hys]; exact List.mem_range.2 hj
      obtain ⟨y, hy, rfl⟩ := List.mem_map.1 this
      rw [hg y hy]; rfl) (fun h => absurd h (by omega))
    have HE : Hid (R = numR c ind ys.length (numF c ys)) := Lib.hid (by rw [HR.out, hnd, numF_val c ys _ hys, hyl])
    have hb := num_bound (numF_lt c _ ys rfl hg) hl10
    clear hys hg HR hnd
    have hks : ys.length ≤ c.size := by omega
    clear hyl
    generalize numF c ys = v at *
    generalize ys.length = k at *
    have n1 := hN.cell
    have v1 := hV.cell
    have hNR : numR c ind k v = if (1 ≤ k ∧ k ≤ 9 ∧ k < c.size) ∧ (bt c k = 46 ∨ bt c k = 41) then (if spB (c.extract (k + 1) c.size) = true then some { kind := 6, n := v, ch := c.extract k (k + 1), off := ind + k + 2, info := c.extract 0 k, rest := tl1 (c.extract (k + 1) c.size) } else none) else none := rfl
    rw [hNR] at HE
    clear hNR
    by_cases q1 : k < 1
    · have HF : Hid (R = none) := Lib.hid (by rw [HE.out, if_neg (by omega)])
      have d1 : decide ((k : Int) < 1) = true := decide_eq_true (by omega)
      have d2 : decide (k < 1) = true := decide_eq_true q1
      have d3 : decide (k = 0) = true := decide_eq_true (by omega)
      clear HE
      obtain ⟨k0, k1, k2, k3, k4, k5, k6, k7, k8, k9, k10, y0, y1, y2, y3, y4, y5, y6, y7, y8, y9, y10⟩ := ZM.facts hZ
      go_wp2_with fail
      obtain ⟨W9, hW9, hz3, hk3, hb3⟩ := zend hZ hB
      have hK3 := hk3.same D _ hK rfl
      clear n1 v1 hZ hN hV hK k0 k1 k2 k3 k4 k5 k6 k7 k8 k9 k10 y0 y1 y2 y3 y4 y5 y6 y7 y8 y9 y10
      rw [← hW9]
      clear hW9 hk3
      refine ⟨by simp, .inl ⟨_, _, rfl, run_takeDeferred hK3, ?_⟩⟩
      have hzk := blk_kept (o := .deferred none) hz3 hK3
      obtain ⟨k0, k1, k2, k3, k4, k5, k6, k7, k8, k9, k10, y0, y1, y2, y3, y4, y5, y6, y7, y8, y9, y10⟩ := mk_facts hzk
      have hbb := hb3.trans (belowK_b (w := w) (Nat.le_refl _) _ D _ (.deferred none) (by omega) hK3 rfl rfl)
      refine ⟨.tuple #[.agg #[.int .i64 0, .int .i64 0, .string ⟨#[]⟩, .int .i64 0, .string ⟨#[]⟩, .string ⟨#[]⟩, .string ⟨#[]⟩, .string ⟨#[]⟩, .string ⟨#[]⟩, .slice none 0 0, .slice none 0 0], .bool false], by simp [results, Tryz.results63, go_sem, k0, k1, k2, k3, k4, k5, k6, k7, k8, k9, k10], rd_none HF.out ⟨_, _, _, _, _, _, _, _, _, _, _, _, _, _, _, rfl⟩ hbb⟩
    have d1 : decide ((k : Int) < 1) = false := decide_eq_false (by omega)
    have d2 : decide (k < 1) = false := decide_eq_false q1
    have d3 : decide (k = 0) = false := decide_eq_false (by omega)
    by_cases q2 : 9 < k
    · have HF : Hid (R = none) := Lib.hid (by rw [HE.out, if_neg (by omega)])
      have d4 : decide (9 < (k : Int)) = true := decide_eq_true (by omega)
      have d5 : decide (9 < k) = true := decide_eq_true q2
      clear HE
      obtain ⟨k0, k1, k2, k3, k4, k5, k6, k7, k8, k9, k10, y0, y1, y2, y3, y4, y5, y6, y7, y8, y9, y10⟩ := ZM.facts hZ
      go_wp2_with fail
      obtain ⟨W9, hW9, hz3, hk3, hb3⟩ := zend hZ hB
      have hK3 := hk3.same D _ hK rfl
      clear n1 v1 hZ hN hV hK k0 k1 k2 k3 k4 k5 k6 k7 k8 k9 k10 y0 y1 y2 y3 y4 y5 y6 y7 y8 y9 y10
      rw [← hW9]
      clear hW9 hk3
      refine ⟨by simp, .inl ⟨_, _, rfl, run_takeDeferred hK3, ?_⟩⟩
      have hzk := blk_kept (o := .deferred none) hz3 hK3
      obtain ⟨k0, k1, k2, k3, k4, k5, k6, k7, k8, k9, k10, y0, y1, y2, y3, y4, y5, y6, y7, y8, y9, y10⟩ := mk_facts hzk
      have hbb := hb3.trans (belowK_b (w := w) (Nat.le_refl _) _ D _ (.deferred none) (by omega) hK3 rfl rfl)
      refine ⟨.tuple #[.agg #[.int .i64 0, .int .i64 0, .string ⟨#[]⟩, .int .i64 0, .string ⟨#[]⟩, .string ⟨#[]⟩, .string ⟨#[]⟩, .string ⟨#[]⟩, .string ⟨#[]⟩, .slice none 0 0, .slice none 0 0], .bool false], by simp [results, Tryz.results63, go_sem, k0, k1, k2, k3, k4, k5, k6, k7, k8, k9, k10], rd_none HF.out ⟨_, _, _, _, _, _, _, _, _, _, _, _, _, _, _, rfl⟩ hbb⟩
    have d4 : decide (9 < (k : Int)) = false := decide_eq_false (by omega)
    have d5 : decide (9 < k) = false := decide_eq_false q2
    by_cases q3 : k = c.size
    · have HF : Hid (R = none) := Lib.hid (by rw [HE.out, if_neg (by omega)])
      have d6 : (k == c.size) = true := by rw [beq_iff_eq]; exact q3
      have d7 : ((k : Int) == (c.size : Int)) = true := by rw [beq_iff_eq]; omega
      clear HE q3
      obtain ⟨k0, k1, k2, k3, k4, k5, k6, k7, k8, k9, k10, y0, y1, y2, y3, y4, y5, y6, y7, y8, y9, y10⟩ := ZM.facts hZ
      go_wp2_with fail
      obtain ⟨W9, hW9, hz3, hk3, hb3⟩ := zend hZ hB
      have hK3 := hk3.same D _ hK rfl
      clear n1 v1 hZ hN hV hK k0 k1 k2 k3 k4 k5 k6 k7 k8 k9 k10 y0 y1 y2 y3 y4 y5 y6 y7 y8 y9 y10
      rw [← hW9]
      clear hW9 hk3
      refine ⟨by simp, .inl ⟨_, _, rfl, run_takeDeferred hK3, ?_⟩⟩
      have hzk := blk_kept (o := .deferred none) hz3 hK3
      obtain ⟨k0, k1, k2, k3, k4, k5, k6, k7, k8, k9, k10, y0, y1, y2, y3, y4, y5, y6, y7, y8, y9, y10⟩ := mk_facts hzk
      have hbb := hb3.trans (belowK_b (w := w) (Nat.le_refl _) _ D _ (.deferred none) (by omega) hK3 rfl rfl)
      refine ⟨.tuple #[.agg #[.int .i64 0, .int .i64 0, .string ⟨#[]⟩, .int .i64 0, .string ⟨#[]⟩, .string ⟨#[]⟩, .string ⟨#[]⟩, .string ⟨#[]⟩, .string ⟨#[]⟩, .slice none 0 0, .slice none 0 0], .bool false], by simp [results, Tryz.results63, go_sem, k0, k1, k2, k3, k4, k5, k6, k7, k8, k9, k10], rd_none HF.out ⟨_, _, _, _, _, _, _, _, _, _, _, _, _, _, _, rfl⟩ hbb⟩
    have d6 : (k == c.size) = false := by rw [beq_eq_false_iff_ne]; exact q3
    have d7 : ((k : Int) == (c.size : Int)) = false := by rw [beq_eq_false_iff_ne]; omega
    have hkc : k < c.size := by omega
    have hgk := get_bt c k hkc
    by_cases q4 : bt c k = 46 ∨ bt c k = 41
    case neg =>
      have HF : Hid (R = none) := Lib.hid (by rw [HE.out, if_neg (fun h => q4 h.2)])
      have d8 : (((bt c k : Nat) : Int) != 46) = true := by rw [bne_iff_ne]; omega
      have d9 : (((bt c k : Nat) : Int) != 41) = true := by rw [bne_iff_ne]; omega
      clear HE q3 q4
      obtain ⟨k0, k1, k2, k3, k4, k5, k6, k7, k8, k9, k10, y0, y1, y2, y3, y4, y5, y6, y7, y8, y9, y10⟩ := ZM.facts hZ
      go_wp2_with fail
      obtain ⟨W9, hW9, hz3, hk3, hb3⟩ := zend hZ hB
      have hK3 := hk3.same D _ hK rfl
      clear n1 v1 hZ hN hV hK k0 k1 k2 k3 k4 k5 k6 k7 k8 k9 k10 y0 y1 y2 y3 y4 y5 y6 y7 y8 y9 y10
      rw [← hW9]
      clear hW9 hk3
      refine ⟨by simp, .inl ⟨_, _, rfl, run_takeDeferred hK3, ?_⟩⟩
      have hzk := blk_kept (o := .deferred none) hz3 hK3
      obtain ⟨k0, k1, k2, k3, k4, k5, k6, k7, k8, k9, k10, y0, y1, y2, y3, y4, y5, y6, y7, y8, y9, y10⟩ := mk_facts hzk
      have hbb := hb3.trans (belowK_b (w := w) (Nat.le_refl _) _ D _ (.deferred none) (by omega) hK3 rfl rfl)
      refine ⟨.tuple #[.agg #[.int .i64 0, .int .i64 0, .string ⟨#[]⟩, .int .i64 0, .string ⟨#[]⟩, .string ⟨#[]⟩, .string ⟨#[]⟩, .string ⟨#[]⟩, .string ⟨#[]⟩, .slice none 0 0, .slice none 0 0], .bool false], by simp [results, Tryz.results63, go_sem, k0, k1, k2, k3, k4, k5, k6, k7, k8, k9, k10], rd_none HF.out ⟨_, _, _, _, _, _, _, _, _, _, _, _, _, _, _, rfl⟩ hbb⟩
    have HF : Hid (R = if spB (c.extract (k + 1) c.size) = true then some { kind := 6, n := v, ch := c.extract k (k + 1), off := ind + k + 2, info := c.extract 0 k, rest := tl1 (c.extract (k + 1) c.size) } else none) := Lib.hid (by rw [HE.out, if_pos ⟨by omega, q4⟩])
    clear HE
    have hxs : (c.extract (k + 1) c.size).size ≤ 1000000 := by rw [ByteArray.size_extract]; omega
    have HAf := Lib.hid fun W => m_after (c.extract (k + 1) c.size) W hxs
    generalize tl1 (c.extract (k + 1) c.size) = Y at *
    generalize spB (c.extract (k + 1) c.size) = q at *
    have hdd : (((bt c k : Nat) : Int) != 46) = false ∨ ((((bt c k : Nat) : Int) != 46) = true ∧ (((bt c k : Nat) : Int) != 41) = false) := by
      rcases q4 with h | h
      · left; rw [h]; rfl
      · right; rw [h]; exact ⟨rfl, rfl⟩
    clear q3 q4
    rcases hdd with d8 | ⟨d8, d9⟩
    all_goals
      go_wp2_with fail
      ((with_reducible refine (HAf.out _).mono ?_))
      rintro e W1 ⟨rfl, b1⟩
      have hDl : D < W.heap.size := by
        rcases Nat.lt_or_ge D W.heap.size with h | h
        · exact h
        · rw [Array.getElem?_eq_none h] at hK; cases hK
      replace hK := (b1.block D hDl).trans hK
      replace hZ := Blk.below hZ b1 hZ.lt
      replace hN := (b1.block _ hN.lt).trans hN
      replace hV := (b1.block _ hV.lt).trans hV
      replace hB := hB.trans (b1.mono hB.size)
      clear n1 v1 b1 hDl
      have hN' : Boxed W1 (w.heap.size + 1) 3 (.int .i64 (k : Nat)) := hN
      have hV' : Boxed W1 (w.heap.size + 1 + 1) 3 (.int .i64 (v : Nat)) := hV
      have n1 := hN'.cell
      have v1 := hV'.cell
      clear hN' hV'
      obtain ⟨k0, k1, k2, k3, k4, k5, k6, k7, k8, k9, k10, y0, y1, y2, y3, y4, y5, y6, y7, y8, y9, y10⟩ := ZM.facts hZ
      go_wp2_with fail
      have hw1 : IntKind.i64.wrap ((k : Int) + 1) = (k : Int) + 1 := IntWalk.i64_in _ (by omega)
      have hw2 : IntKind.i64.wrap ((ind : Int) + (k : Int)) = (ind : Int) + (k : Int) := IntWalk.i64_in _ (by omega)
      have hw3 : IntKind.i64.wrap ((ind : Int) + (k : Int) + 2) = (ind : Int) + (k : Int) + 2 := IntWalk.i64_in _ (by omega)
      have hw4 : ((k : Int) + 1).toNat = k + 1 := by omega
      have hw5 : (k : Int) ≤ (c.size : Int) := by omega
      have hw6 : (k : Int) + 1 ≤ (c.size : Int) := by omega
      have hw7 : (k : Int) ≤ (k : Int) + 1 := by omega
      have hw8 : (0 : Int) ≤ (k : Int) + 1 := by omega
      have hw9 : ¬ w.heap.size = w.heap.size + 1 + 1 := by omega
      go_region_held3 (fun w' => w'.cell? ⟨w.heap.size + 1, 0, none⟩ = some (.int .i64 (k : Nat)) ∧ w'.cell? ⟨w.heap.size + 1 + 1, 0, none⟩ = some (.int .i64 (v : Nat))) (go_keep) (fail)
      clear hw1 hw2 hw3 hw4 hw5 hw6 hw7 hw8 hw9
      go_wp2_with fail
      have hz3 := Blk.drew (blk11 hZ (.int .i64 6) (.int .i64 (v : Nat)) (.string (c.extract k (k + 1))) (.int .i64 ((ind : Int) + (k : Int) + 2)) (.string (c.extract 0 k)) (.string Y) (.string ⟨#[]⟩) (.string ⟨#[]⟩) (.string ⟨#[]⟩) (.slice none 0 0) (.slice none 0 0))
      have hK3 := (((((((((((((KeepsOthers.refl W1).trans (KeepsOthers.setCell _ ⟨w.heap.size, 0, none⟩ (.int .i64 6))).trans (KeepsOthers.setCell _ ⟨w.heap.size, 1, none⟩ (.int .i64 (v : Nat)))).trans (KeepsOthers.setCell _ ⟨w.heap.size, 2, none⟩ (.string (c.extract k (k + 1))))).trans (KeepsOthers.setCell _ ⟨w.heap.size, 3, none⟩ (.int .i64 ((ind : Int) + (k : Int) + 2)))).trans (KeepsOthers.setCell _ ⟨w.heap.size, 4, none⟩ (.string (c.extract 0 k)))).trans (KeepsOthers.setCell _ ⟨w.heap.size, 5, none⟩ (.string Y))).trans (KeepsOthers.setCell _ ⟨w.heap.size, 6, none⟩ (.string ⟨#[]⟩))).trans (KeepsOthers.setCell _ ⟨w.heap.size, 7, none⟩ (.string ⟨#[]⟩))).trans (KeepsOthers.setCell _ ⟨w.heap.size, 8, none⟩ (.string ⟨#[]⟩))).trans (KeepsOthers.setCell _ ⟨w.heap.size, 9, none⟩ (.slice none 0 0))).trans (KeepsOthers.setCell _ ⟨w.heap.size, 10, none⟩ (.slice none 0 0))).trans (KeepsOthers.drew _)).same D _ hK rfl
      have hb3 := Below.drew (below11 hB (Nat.le_refl _) (.int .i64 6) (.int .i64 (v : Nat)) (.string (c.extract k (k + 1))) (.int .i64 ((ind : Int) + (k : Int) + 2)) (.string (c.extract 0 k)) (.string Y) (.string ⟨#[]⟩) (.string ⟨#[]⟩) (.string ⟨#[]⟩) (.slice none 0 0) (.slice none 0 0))
      clear n1 v1 hZ hN hV hK k0 k1 k2 k3 k4 k5 k6 k7 k8 k9 k10 y0 y1 y2 y3 y4 y5 y6 y7 y8 y9 y10
      refine ⟨by simp, .inl ⟨_, _, rfl, run_takeDeferred hK3, ?_⟩⟩
      generalize (((((((((((W1.setCell ⟨w.heap.size, 0, none⟩ (.int .i64 6)).setCell ⟨w.heap.size, 1, none⟩ (.int .i64 (v : Nat))).setCell ⟨w.heap.size, 2, none⟩ (.string (c.extract k (k + 1)))).setCell ⟨w.heap.size, 3, none⟩ (.int .i64 ((ind : Int) + (k : Int) + 2))).setCell ⟨w.heap.size, 4, none⟩ (.string (c.extract 0 k))).setCell ⟨w.heap.size, 5, none⟩ (.string Y)).setCell ⟨w.heap.size, 6, none⟩ (.string ⟨#[]⟩)).setCell ⟨w.heap.size, 7, none⟩ (.string ⟨#[]⟩)).setCell ⟨w.heap.size, 8, none⟩ (.string ⟨#[]⟩)).setCell ⟨w.heap.size, 9, none⟩ (.slice none 0 0)).setCell ⟨w.heap.size, 10, none⟩ (.slice none 0 0)).drew = W9 at *
      have hzk := blk_kept (o := .deferred none) hz3 hK3
      obtain ⟨k0, k1, k2, k3, k4, k5, k6, k7, k8, k9, k10, y0, y1, y2, y3, y4, y5, y6, y7, y8, y9, y10⟩ := mk_facts hzk
      have hbb := hb3.trans (belowK_b (w := w) (Nat.le_refl _) _ D _ (.deferred none) (by omega) hK3 rfl rfl)
      refine ⟨.tuple #[.agg #[.int .i64 6, .int .i64 (v : Nat), .string (c.extract k (k + 1)), .int .i64 ((ind : Int) + (k : Int) + 2), .string (c.extract 0 k), .string Y, .string ⟨#[]⟩, .string ⟨#[]⟩, .string ⟨#[]⟩, .slice none 0 0, .slice none 0 0], .bool q], by simp [results, Tryz.results63, go_sem, k0, k1, k2, k3, k4, k5, k6, k7, k8, k9, k10], rd_if HF.out (by have hm := mkVal_plain (m := { kind := 6, n := v, ch := c.extract k (k + 1), off := ind + k + 2, info := c.extract 0 k, rest := Y }) rfl hbb.size; simp only [MkL.cells] at hm; rw [show ((ind + k + 2 : Nat) : Int) = (ind : Int) + (k : Int) + 2 from by omega] at hm; exact hm) hbb⟩
  case stop =>
    rintro D q0 pre W hD hpre ⟨⟨⟨rfl, pr, x, rfl, hg, hl10, hx⟩, hZ⟩, ⟨hN, hV⟩, hB⟩ hK
    rw [List.map_append] at hpre
    obtain ⟨hp1, hp2⟩ := pre_snoc hpre
    have hpl : pr.length = x.1 := by have := congrArg List.length hp1; rwa [List.length_map, List.length_range] at this
    have hdig : ∀ j, j < x.1 → (fun b => !digN b) (bt c j) = false := fun j hj => by
      have : j ∈ pr.map Fin.val := by rw [hp1]; exact List.mem_range.2 hj
      obtain ⟨y, hy, rfl⟩ := List.mem_map.1 this
      simp only
      rw [hg y hy]; rfl
    have HE : Hid (R = numR c ind pr.length (numF c pr)) := Lib.hid (by
      rcases hx with hx | hx
      · have hnd : numDig c = x.1 := firstN_eq c _ _ (Nat.le_of_lt hp2) hdig (fun _ => by rw [hx]; rfl)
        rw [HR.out, hnd, numF_val c pr _ hp1, hpl]
      · have hnd : x.1 ≤ numDig c := firstN_ge c _ _ (Nat.le_of_lt hp2) hdig
        rw [HR.out, numR_big _ _ _ _ (by omega), numR_big _ _ _ _ (by omega)])
    have hb := num_bound (numF_lt c _ pr rfl hg) hl10
    have hdl : (pr ++ [x]).dropLast = pr := by simp
    rw [hdl] at hN hV
    have hks : pr.length ≤ c.size := by omega
    clear hg HR hx hpre hp1 hdig hdl hpl
    generalize numF c pr = v at *
    generalize pr.length = k at *
    gi_wp2_with fail
    have n1 := hN.cell
    have v1 := hV.cell
    have hNR : numR c ind k v = if (1 ≤ k ∧ k ≤ 9 ∧ k < c.size) ∧ (bt c k = 46 ∨ bt c k = 41) then (if spB (c.extract (k + 1) c.size) = true then some { kind := 6, n := v, ch := c.extract k (k + 1), off := ind + k + 2, info := c.extract 0 k, rest := tl1 (c.extract (k + 1) c.size) } else none) else none := rfl
    rw [hNR] at HE
    clear hNR
    by_cases q1 : k < 1
    · have HF : Hid (R = none) := Lib.hid (by rw [HE.out, if_neg (by omega)])
      have d1 : decide ((k : Int) < 1) = true := decide_eq_true (by omega)
      have d2 : decide (k < 1) = true := decide_eq_true q1
      have d3 : decide (k = 0) = true := decide_eq_true (by omega)
      clear HE
      obtain ⟨k0, k1, k2, k3, k4, k5, k6, k7, k8, k9, k10, y0, y1, y2, y3, y4, y5, y6, y7, y8, y9, y10⟩ := ZM.facts hZ
      go_wp2_with fail
      obtain ⟨W9, hW9, hz3, hk3, hb3⟩ := zend hZ hB
      have hK3 := hk3.same D _ hK rfl
      clear n1 v1 hZ hN hV hK k0 k1 k2 k3 k4 k5 k6 k7 k8 k9 k10 y0 y1 y2 y3 y4 y5 y6 y7 y8 y9 y10
      rw [← hW9]
      clear hW9 hk3
      refine ⟨by simp, .inl ⟨_, _, rfl, run_takeDeferred hK3, ?_⟩⟩
      have hzk := blk_kept (o := .deferred none) hz3 hK3
      obtain ⟨k0, k1, k2, k3, k4, k5, k6, k7, k8, k9, k10, y0, y1, y2, y3, y4, y5, y6, y7, y8, y9, y10⟩ := mk_facts hzk
      have hbb := hb3.trans (belowK_b (w := w) (Nat.le_refl _) _ D _ (.deferred none) (by omega) hK3 rfl rfl)
      refine ⟨.tuple #[.agg #[.int .i64 0, .int .i64 0, .string ⟨#[]⟩, .int .i64 0, .string ⟨#[]⟩, .string ⟨#[]⟩, .string ⟨#[]⟩, .string ⟨#[]⟩, .string ⟨#[]⟩, .slice none 0 0, .slice none 0 0], .bool false], by simp [results, Tryz.results63, go_sem, k0, k1, k2, k3, k4, k5, k6, k7, k8, k9, k10], rd_none HF.out ⟨_, _, _, _, _, _, _, _, _, _, _, _, _, _, _, rfl⟩ hbb⟩
    have d1 : decide ((k : Int) < 1) = false := decide_eq_false (by omega)
    have d2 : decide (k < 1) = false := decide_eq_false q1
    have d3 : decide (k = 0) = false := decide_eq_false (by omega)
    by_cases q2 : 9 < k
    · have HF : Hid (R = none) := Lib.hid (by rw [HE.out, if_neg (by omega)])
      have d4 : decide (9 < (k : Int)) = true := decide_eq_true (by omega)
      have d5 : decide (9 < k) = true := decide_eq_true q2
      clear HE
      obtain ⟨k0, k1, k2, k3, k4, k5, k6, k7, k8, k9, k10, y0, y1, y2, y3, y4, y5, y6, y7, y8, y9, y10⟩ := ZM.facts hZ
      go_wp2_with fail
      obtain ⟨W9, hW9, hz3, hk3, hb3⟩ := zend hZ hB
      have hK3 := hk3.same D _ hK rfl
      clear n1 v1 hZ hN hV hK k0 k1 k2 k3 k4 k5 k6 k7 k8 k9 k10 y0 y1 y2 y3 y4 y5 y6 y7 y8 y9 y10
      rw [← hW9]
      clear hW9 hk3
      refine ⟨by simp, .inl ⟨_, _, rfl, run_takeDeferred hK3, ?_⟩⟩
      have hzk := blk_kept (o := .deferred none) hz3 hK3
      obtain ⟨k0, k1, k2, k3, k4, k5, k6, k7, k8, k9, k10, y0, y1, y2, y3, y4, y5, y6, y7, y8, y9, y10⟩ := mk_facts hzk
      have hbb := hb3.trans (belowK_b (w := w) (Nat.le_refl _) _ D _ (.deferred none) (by omega) hK3 rfl rfl)
      refine ⟨.tuple #[.agg #[.int .i64 0, .int .i64 0, .string ⟨#[]⟩, .int .i64 0, .string ⟨#[]⟩, .string ⟨#[]⟩, .string ⟨#[]⟩, .string ⟨#[]⟩, .string ⟨#[]⟩, .slice none 0 0, .slice none 0 0], .bool false], by simp [results, Tryz.results63, go_sem, k0, k1, k2, k3, k4, k5, k6, k7, k8, k9, k10], rd_none HF.out ⟨_, _, _, _, _, _, _, _, _, _, _, _, _, _, _, rfl⟩ hbb⟩
    have d4 : decide (9 < (k : Int)) = false := decide_eq_false (by omega)
    have d5 : decide (9 < k) = false := decide_eq_false q2
    by_cases q3 : k = c.size
    · have HF : Hid (R = none) := Lib.hid (by rw [HE.out, if_neg (by omega)])
      have d6 : (k == c.size) = true := by rw [beq_iff_eq]; exact q3
      have d7 : ((k : Int) == (c.size : Int)) = true := by rw [beq_iff_eq]; omega
      clear HE q3
      obtain ⟨k0, k1, k2, k3, k4, k5, k6, k7, k8, k9, k10, y0, y1, y2, y3, y4, y5, y6, y7, y8, y9, y10⟩ := ZM.facts hZ
      go_wp2_with fail
      obtain ⟨W9, hW9, hz3, hk3, hb3⟩ := zend hZ hB
      have hK3 := hk3.same D _ hK rfl
      clear n1 v1 hZ hN hV hK k0 k1 k2 k3 k4 k5 k6 k7 k8 k9 k10 y0 y1 y2 y3 y4 y5 y6 y7 y8 y9 y10
      rw [← hW9]
      clear hW9 hk3
      refine ⟨by simp, .inl ⟨_, _, rfl, run_takeDeferred hK3, ?_⟩⟩
      have hzk := blk_kept (o := .deferred none) hz3 hK3
      obtain ⟨k0, k1, k2, k3, k4, k5, k6, k7, k8, k9, k10, y0, y1, y2, y3, y4, y5, y6, y7, y8, y9, y10⟩ := mk_facts hzk
      have hbb := hb3.trans (belowK_b (w := w) (Nat.le_refl _) _ D _ (.deferred none) (by omega) hK3 rfl rfl)
      refine ⟨.tuple #[.agg #[.int .i64 0, .int .i64 0, .string ⟨#[]⟩, .int .i64 0, .string ⟨#[]⟩, .string ⟨#[]⟩, .string ⟨#[]⟩, .string ⟨#[]⟩, .string ⟨#[]⟩, .slice none 0 0, .slice none 0 0], .bool false], by simp [results, Tryz.results63, go_sem, k0, k1, k2, k3, k4, k5, k6, k7, k8, k9, k10], rd_none HF.out ⟨_, _, _, _, _, _, _, _, _, _, _, _, _, _, _, rfl⟩ hbb⟩
    have d6 : (k == c.size) = false := by rw [beq_eq_false_iff_ne]; exact q3
    have d7 : ((k : Int) == (c.size : Int)) = false := by rw [beq_eq_false_iff_ne]; omega
    have hkc : k < c.size := by omega
    have hgk := get_bt c k hkc
    by_cases q4 : bt c k = 46 ∨ bt c k = 41
    case neg =>
      have HF : Hid (R = none) := Lib.hid (by rw [HE.out, if_neg (fun h => q4 h.2)])
      have d8 : (((bt c k : Nat) : Int) != 46) = true := by rw [bne_iff_ne]; omega
      have d9 : (((bt c k : Nat) : Int) != 41) = true := by rw [bne_iff_ne]; omega
      clear HE q3 q4
      obtain ⟨k0, k1, k2, k3, k4, k5, k6, k7, k8, k9, k10, y0, y1, y2, y3, y4, y5, y6, y7, y8, y9, y10⟩ := ZM.facts hZ
      go_wp2_with fail
      obtain ⟨W9, hW9, hz3, hk3, hb3⟩ := zend hZ hB
      have hK3 := hk3.same D _ hK rfl
      clear n1 v1 hZ hN hV hK k0 k1 k2 k3 k4 k5 k6 k7 k8 k9 k10 y0 y1 y2 y3 y4 y5 y6 y7 y8 y9 y10
      rw [← hW9]
      clear hW9 hk3
      refine ⟨by simp, .inl ⟨_, _, rfl, run_takeDeferred hK3, ?_⟩⟩
      have hzk := blk_kept (o := .deferred none) hz3 hK3
      obtain ⟨k0, k1, k2, k3, k4, k5, k6, k7, k8, k9, k10, y0, y1, y2, y3, y4, y5, y6, y7, y8, y9, y10⟩ := mk_facts hzk
      have hbb := hb3.trans (belowK_b (w := w) (Nat.le_refl _) _ D _ (.deferred none) (by omega) hK3 rfl rfl)
      refine ⟨.tuple #[.agg #[.int .i64 0, .int .i64 0, .string ⟨#[]⟩, .int .i64 0, .string ⟨#[]⟩, .string ⟨#[]⟩, .string ⟨#[]⟩, .string ⟨#[]⟩, .string ⟨#[]⟩, .slice none 0 0, .slice none 0 0], .bool false], by simp [results, Tryz.results63, go_sem, k0, k1, k2, k3, k4, k5, k6, k7, k8, k9, k10], rd_none HF.out ⟨_, _, _, _, _, _, _, _, _, _, _, _, _, _, _, rfl⟩ hbb⟩
    have HF : Hid (R = if spB (c.extract (k + 1) c.size) = true then some { kind := 6, n := v, ch := c.extract k (k + 1), off := ind + k + 2, info := c.extract 0 k, rest := tl1 (c.extract (k + 1) c.size) } else none) := Lib.hid (by rw [HE.out, if_pos ⟨by omega, q4⟩])
    clear HE
    have hxs : (c.extract (k + 1) c.size).size ≤ 1000000 := by rw [ByteArray.size_extract]; omega
    have HAf := Lib.hid fun W => m_after (c.extract (k + 1) c.size) W hxs
    generalize tl1 (c.extract (k + 1) c.size) = Y at *
    generalize spB (c.extract (k + 1) c.size) = q at *
    have hdd : (((bt c k : Nat) : Int) != 46) = false ∨ ((((bt c k : Nat) : Int) != 46) = true ∧ (((bt c k : Nat) : Int) != 41) = false) := by
      rcases q4 with h | h
      · left; rw [h]; rfl
      · right; rw [h]; exact ⟨rfl, rfl⟩
    clear q3 q4
    rcases hdd with d8 | ⟨d8, d9⟩
    all_goals
      go_wp2_with fail
      ((with_reducible refine (HAf.out _).mono ?_))
      rintro e W1 ⟨rfl, b1⟩
      have hDl : D < W.heap.size := by
        rcases Nat.lt_or_ge D W.heap.size with h | h
        · exact h
        · rw [Array.getElem?_eq_none h] at hK; cases hK
      replace hK := (b1.block D hDl).trans hK
      replace hZ := Blk.below hZ b1 hZ.lt
      replace hN := (b1.block _ hN.lt).trans hN
      replace hV := (b1.block _ hV.lt).trans hV
      replace hB := hB.trans (b1.mono hB.size)
      clear n1 v1 b1 hDl
      have hN' : Boxed W1 (w.heap.size + 1) 3 (.int .i64 (k : Nat)) := hN
      have hV' : Boxed W1 (w.heap.size + 1 + 1) 3 (.int .i64 (v : Nat)) := hV
      have n1 := hN'.cell
      have v1 := hV'.cell
      clear hN' hV'
      obtain ⟨k0, k1, k2, k3, k4, k5, k6, k7, k8, k9, k10, y0, y1, y2, y3, y4, y5, y6, y7, y8, y9, y10⟩ := ZM.facts hZ
      go_wp2_with fail
      have hw1 : IntKind.i64.wrap ((k : Int) + 1) = (k : Int) + 1 := IntWalk.i64_in _ (by omega)
      have hw2 : IntKind.i64.wrap ((ind : Int) + (k : Int)) = (ind : Int) + (k : Int) := IntWalk.i64_in _ (by omega)
      have hw3 : IntKind.i64.wrap ((ind : Int) + (k : Int) + 2) = (ind : Int) + (k : Int) + 2 := IntWalk.i64_in _ (by omega)
      have hw4 : ((k : Int) + 1).toNat = k + 1 := by omega
      have hw5 : (k : Int) ≤ (c.size : Int) := by omega
      have hw6 : (k : Int) + 1 ≤ (c.size : Int) := by omega
      have hw7 : (k : Int) ≤ (k : Int) + 1 := by omega
      have hw8 : (0 : Int) ≤ (k : Int) + 1 := by omega
      have hw9 : ¬ w.heap.size = w.heap.size + 1 + 1 := by omega
      go_region_held3 (fun w' => w'.cell? ⟨w.heap.size + 1, 0, none⟩ = some (.int .i64 (k : Nat)) ∧ w'.cell? ⟨w.heap.size + 1 + 1, 0, none⟩ = some (.int .i64 (v : Nat))) (go_keep) (fail)
      clear hw1 hw2 hw3 hw4 hw5 hw6 hw7 hw8 hw9
      go_wp2_with fail
      have hz3 := Blk.drew (blk11 hZ (.int .i64 6) (.int .i64 (v : Nat)) (.string (c.extract k (k + 1))) (.int .i64 ((ind : Int) + (k : Int) + 2)) (.string (c.extract 0 k)) (.string Y) (.string ⟨#[]⟩) (.string ⟨#[]⟩) (.string ⟨#[]⟩) (.slice none 0 0) (.slice none 0 0))
      have hK3 := (((((((((((((KeepsOthers.refl W1).trans (KeepsOthers.setCell _ ⟨w.heap.size, 0, none⟩ (.int .i64 6))).trans (KeepsOthers.setCell _ ⟨w.heap.size, 1, none⟩ (.int .i64 (v : Nat)))).trans (KeepsOthers.setCell _ ⟨w.heap.size, 2, none⟩ (.string (c.extract k (k + 1))))).trans (KeepsOthers.setCell _ ⟨w.heap.size, 3, none⟩ (.int .i64 ((ind : Int) + (k : Int) + 2)))).trans (KeepsOthers.setCell _ ⟨w.heap.size, 4, none⟩ (.string (c.extract 0 k)))).trans (KeepsOthers.setCell _ ⟨w.heap.size, 5, none⟩ (.string Y))).trans (KeepsOthers.setCell _ ⟨w.heap.size, 6, none⟩ (.string ⟨#[]⟩))).trans (KeepsOthers.setCell _ ⟨w.heap.size, 7, none⟩ (.string ⟨#[]⟩))).trans (KeepsOthers.setCell _ ⟨w.heap.size, 8, none⟩ (.string ⟨#[]⟩))).trans (KeepsOthers.setCell _ ⟨w.heap.size, 9, none⟩ (.slice none 0 0))).trans (KeepsOthers.setCell _ ⟨w.heap.size, 10, none⟩ (.slice none 0 0))).trans (KeepsOthers.drew _)).same D _ hK rfl
      have hb3 := Below.drew (below11 hB (Nat.le_refl _) (.int .i64 6) (.int .i64 (v : Nat)) (.string (c.extract k (k + 1))) (.int .i64 ((ind : Int) + (k : Int) + 2)) (.string (c.extract 0 k)) (.string Y) (.string ⟨#[]⟩) (.string ⟨#[]⟩) (.string ⟨#[]⟩) (.slice none 0 0) (.slice none 0 0))
      clear n1 v1 hZ hN hV hK k0 k1 k2 k3 k4 k5 k6 k7 k8 k9 k10 y0 y1 y2 y3 y4 y5 y6 y7 y8 y9 y10
      refine ⟨by simp, .inl ⟨_, _, rfl, run_takeDeferred hK3, ?_⟩⟩
      generalize (((((((((((W1.setCell ⟨w.heap.size, 0, none⟩ (.int .i64 6)).setCell ⟨w.heap.size, 1, none⟩ (.int .i64 (v : Nat))).setCell ⟨w.heap.size, 2, none⟩ (.string (c.extract k (k + 1)))).setCell ⟨w.heap.size, 3, none⟩ (.int .i64 ((ind : Int) + (k : Int) + 2))).setCell ⟨w.heap.size, 4, none⟩ (.string (c.extract 0 k))).setCell ⟨w.heap.size, 5, none⟩ (.string Y)).setCell ⟨w.heap.size, 6, none⟩ (.string ⟨#[]⟩)).setCell ⟨w.heap.size, 7, none⟩ (.string ⟨#[]⟩)).setCell ⟨w.heap.size, 8, none⟩ (.string ⟨#[]⟩)).setCell ⟨w.heap.size, 9, none⟩ (.slice none 0 0)).setCell ⟨w.heap.size, 10, none⟩ (.slice none 0 0)).drew = W9 at *
      have hzk := blk_kept (o := .deferred none) hz3 hK3
      obtain ⟨k0, k1, k2, k3, k4, k5, k6, k7, k8, k9, k10, y0, y1, y2, y3, y4, y5, y6, y7, y8, y9, y10⟩ := mk_facts hzk
      have hbb := hb3.trans (belowK_b (w := w) (Nat.le_refl _) _ D _ (.deferred none) (by omega) hK3 rfl rfl)
      refine ⟨.tuple #[.agg #[.int .i64 6, .int .i64 (v : Nat), .string (c.extract k (k + 1)), .int .i64 ((ind : Int) + (k : Int) + 2), .string (c.extract 0 k), .string Y, .string ⟨#[]⟩, .string ⟨#[]⟩, .string ⟨#[]⟩, .slice none 0 0, .slice none 0 0], .bool q], by simp [results, Tryz.results63, go_sem, k0, k1, k2, k3, k4, k5, k6, k7, k8, k9, k10], rd_if HF.out (by have hm := mkVal_plain (m := { kind := 6, n := v, ch := c.extract k (k + 1), off := ind + k + 2, info := c.extract 0 k, rest := Y }) rfl hbb.size; simp only [MkL.cells] at hm; rw [show ((ind + k + 2 : Nat) : Int) = (ind : Int) + (k : Int) + 2 from by omega] at hm; exact hm) hbb⟩

end Go.Proofs.YtpoafhgbhnblmaaGreatDoor
