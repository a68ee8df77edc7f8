/-
  The line of cells is read back: pure.
-/
import Derived.Test.YtoageahnddepcaaDoorTabN
set_option linter.unusedVariables false
set_option linter.unusedSimpArgs false
namespace Go.Pub
open Go.RowKit
theorem unbar_bar : ∀ l : List UInt8, unbarL (barL l) = l
  | [] => rfl
  | c :: l => by
    rw [barL_cons]
    by_cases h : c = 124
    · subst h
      rw [if_pos rfl]
      show unbarL (92 :: 124 :: barL l) = _
      rw [unbarL_hit, unbar_bar l]
    · rw [if_neg h]
      show unbarL (c :: barL l) = _
      rw [unbarL_no, unbar_bar l]
      rintro ⟨_, e⟩
      cases l with
      | nil => simp [barL] at e
      | cons d l =>
        rw [barL_cons] at e
        by_cases hd : d = 124
        · rw [if_pos hd] at e; simp at e
        · rw [if_neg hd] at e; simp at e; exact hd e
theorem bar_head (l : List UInt8) (h : l.head? ≠ some 32) : (barL l).head? ≠ some 32 := by
  cases l with
  | nil => simp [barL]
  | cons c l =>
    rw [barL_cons]
    split
    · simp
    · exact h
theorem bar_last (l : List UInt8) (h : l.getLast? ≠ some 32) : (barL l).getLast? ≠ some 32 := by
  rcases List.eq_nil_or_concat l with rfl | ⟨l, c, rfl⟩
  · simp [barL]
  · rw [List.concat_eq_append] at *
    unfold barL
    rw [List.flatMap_append]
    show (_ ++ ((if c = 124 then [92, 124] else [c]) ++ [])).getLast? ≠ _
    rw [List.append_nil]
    split
    · rw [List.getLast?_append]; simp
    · rw [List.getLast?_append]
      rw [List.getLast?_concat] at h
      simpa using h
/-- No separator stands in what is written of a cell. -/
theorem split_bar (rest : List UInt8) : ∀ (l : List UInt8) (e : Bool), splitGo e (barL l ++ 32 :: rest) = aheadL (barL l ++ [32]) (splitGo false rest)
  | [], e => by
    show splitGo e (32 :: rest) = _
    rw [splitGo_no _ _ _ (fun h => absurd h.1 (by decide))]
    show ahead 32 (splitGo false rest) = aheadL [32] (splitGo false rest)
    cases h : splitGo false rest with
    | nil => exact absurd h (splitGo_ne _ _)
    | cons a b => rfl
  | c :: l, e => by
    have key : ∀ (x : UInt8) (p : List UInt8), ahead x (aheadL p (splitGo false rest)) = aheadL (x :: p) (splitGo false rest) := fun x p => by
      cases h : splitGo false rest with
      | nil => exact absurd h (splitGo_ne _ _)
      | cons a b => rfl
    rw [barL_cons]
    by_cases h : c = 124
    · subst h
      rw [if_pos rfl]
      show splitGo e (92 :: 124 :: (barL l ++ 32 :: rest)) = aheadL (92 :: 124 :: (barL l ++ [32])) _
      rw [splitGo_no _ _ _ (fun h => absurd h.1 (by decide)), splitGo_no _ _ _ (by decide), split_bar rest l, key, key]
    · rw [if_neg h]
      show splitGo e (c :: (barL l ++ 32 :: rest)) = aheadL (c :: (barL l ++ [32])) _
      rw [splitGo_no _ _ _ (fun x => h x.1), split_bar rest l, key]
/-- A cell as it stands between two separators. -/
def padL (z : ByteArray) : List UInt8 := 32 :: (barL (bytesL z) ++ [32])
/-- Cells between separators, the last without one behind. -/
def midL : List ByteArray → List UInt8
  | [] => []
  | [z] => padL z
  | z :: zs => padL z ++ 124 :: midL zs
theorem split_mid : ∀ zs : List ByteArray, zs ≠ [] → splitGo false (midL zs) = zs.map padL
  | [], h => absurd rfl h
  | [z], _ => by
    show splitGo false (32 :: (barL (bytesL z) ++ [32])) = _
    rw [splitGo_no _ _ _ (by decide)]
    have := split_bar [] (bytesL z) false
    show ahead 32 (splitGo false (barL (bytesL z) ++ [32])) = _
    rw [this]
    show [32 :: (barL (bytesL z) ++ [32] ++ [])] = _
    simp [padL]
  | z :: y :: zs, _ => by
    have ih := split_mid (y :: zs) (by simp)
    show splitGo false (32 :: (barL (bytesL z) ++ [32]) ++ 124 :: midL (y :: zs)) = _
    rw [List.cons_append, splitGo_no _ _ _ (by decide), List.append_assoc]
    show ahead 32 (splitGo false (barL (bytesL z) ++ 32 :: (124 :: midL (y :: zs)))) = _
    rw [split_bar, splitGo_sep, ih]
    show (32 :: (barL (bytesL z) ++ [32] ++ [])) :: _ = _
    simp [padL]
theorem row_mid : ∀ zs : List ByteArray, zs ≠ [] → zs.flatMap row1 = midL zs ++ [124]
  | [], h => absurd rfl h
  | [z], _ => by simp [row1, midL, padL]
  | z :: y :: zs, _ => by
    rw [List.flatMap_cons, row_mid (y :: zs) (by simp)]
    show _ = (padL z ++ 124 :: midL (y :: zs)) ++ [124]
    simp [row1, padL]
theorem mid_last : ∀ zs : List ByteArray, zs ≠ [] → ∃ l, midL zs = l ++ [32]
  | [], h => absurd rfl h
  | [z], _ => ⟨32 :: barL (bytesL z), rfl⟩
  | z :: y :: zs, _ => by
    obtain ⟨l, hl⟩ := mid_last (y :: zs) (by simp)
    refine ⟨padL z ++ 124 :: l, ?_⟩
    show padL z ++ 124 :: midL (y :: zs) = _
    rw [hl]; simp
theorem core_row (zs : List ByteArray) (h : zs ≠ []) : bytesL (coreB (rowL zs)) = midL zs := by
  have e0 : rowL zs = 124 :: (midL zs ++ [124]) := by unfold rowL; rw [row_mid zs h]
  have e1 : trimS (rowL zs) = rowL zs := by
    refine trimS_id _ ?_ ?_
    · rw [e0]; simp
    · rw [e0, ← List.cons_append, List.getLast?_concat]; decide
  have e2 : core1 (rowL zs) = mk (midL zs ++ [124]) := by
    unfold core1
    rw [e1, e0]; rfl
  obtain ⟨l, hl⟩ := mid_last zs h
  have hz : (mk (midL zs ++ [124])).size = (midL zs).length + 1 := by rw [mk_size]; simp
  have hm : 0 < (midL zs).length := by rw [hl]; simp
  have g1 : (mk (midL zs ++ [124])).get! (midL zs).length = 124 := by
    have := sfx_cons (mk (midL zs ++ [124])) (midL zs).length (by omega)
    unfold sfx at this
    rw [bytesL_mk', List.drop_left] at this
    injection this with h1 h2
    exact h1.symm
  have g2 : (mk (midL zs ++ [124])).get! ((midL zs).length - 1) = 32 := by
    have e3 : midL zs ++ [124] = l ++ (32 :: [124]) := by rw [hl]; simp
    have hll : (midL zs).length - 1 = l.length := by rw [hl]; simp
    have := sfx_cons (mk (midL zs ++ [124])) ((midL zs).length - 1) (by omega)
    unfold sfx at this
    rw [bytesL_mk', hll, e3, List.drop_left] at this
    injection this with h1 h2
    rw [hll, e3]; exact h1.symm
  unfold coreB
  rw [e2, if_pos]
  · rw [hz, Nat.add_sub_cancel, extract_take, bytesL_mk', bytesL_mk', List.take_left]
  · refine ⟨by omega, ?_⟩
    rw [sepB_iff, hz, Nat.add_sub_cancel]
    refine ⟨g1, ?_⟩
    unfold slB
    rw [Bool.and_eq_false_iff]
    right
    rw [beq_eq_false_iff_ne]
    have : bt (mk (midL zs ++ [124])) ((midL zs).length - 1) = 32 := (bt_u8 _ _ 32 (by decide)).1 g2
    omega
theorem cells_row (zs : List ByteArray) (h : zs ≠ []) (ht : ∀ z ∈ zs, mk (trimS (bytesL z)) = z) : cellsB (rowL zs) = zs := by
  unfold cellsB partsL
  rw [core_row zs h, split_mid zs h, List.map_map]
  conv => rhs; rw [← List.map_id zs]
  refine List.map_congr_left fun z hz => ?_
  have hz' : trimS (bytesL z) = bytesL z := by
    have := congrArg bytesL (ht z hz)
    rwa [bytesL_mk'] at this
  show mk (cellL (padL z)) = z
  unfold cellL padL
  rw [trimS_around _ (bar_head _ (by rw [← hz']; exact trimS_head _)) (bar_last _ (by rw [← hz']; exact trimS_last _)), unbar_bar, mk_bytesL]
theorem split_sum : ∀ (l : List UInt8) (e : Bool), ((splitGo e l).map List.length).sum ≤ l.length
  | [], _ => by simp [splitGo]
  | c :: l, e => by
    unfold splitGo
    split
    · have := split_sum l false; simp; omega
    · have := split_sum l (c == 92)
      cases hs : splitGo (c == 92) l with
      | nil => simp [ahead]
      | cons a b => rw [hs] at this; simp [ahead] at this ⊢; omega
theorem cells_sum (l : List UInt8) : ((cellsB l).map ByteArray.size).sum ≤ l.length := by
  have h1 := split_sum (bytesL (coreB l)) false
  have h2 := coreB_size l
  rw [bytesL_length] at h1
  have key : ∀ ps : List (List UInt8), ((ps.map fun p => mk (cellL p)).map ByteArray.size).sum ≤ (ps.map List.length).sum := by
    intro ps
    induction ps with
    | nil => simp
    | cons p ps ih =>
      have := cellL_len p
      simp only [List.map_cons, List.sum_cons, mk_size]
      omega
  have := key (partsL l)
  unfold cellsB
  unfold partsL at this ⊢
  omega
theorem row_sum (zs : List ByteArray) : (rowL zs).length ≤ 1 + 2 * (zs.map ByteArray.size).sum + 3 * zs.length := by
  unfold rowL
  rw [List.length_cons]
  have : (zs.flatMap row1).length ≤ 2 * (zs.map ByteArray.size).sum + 3 * zs.length := by
    induction zs with
    | nil => simp
    | cons z zs ih =>
      have := row1_len z
      rw [List.flatMap_cons, List.length_append, List.map_cons, List.sum_cons, List.length_cons]
      omega
  omega
end Go.Pub
