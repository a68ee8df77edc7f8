/-
  A delimiter line that is written with any alignments has these: plain.
-/
import Derived.Test.YtoageahnddepcaaDoorTabQ
set_option linter.unusedVariables false
set_option linter.unusedSimpArgs false
namespace Go.Pub
/-- The cell of a delimiter line with an alignment, of some dashes. -/
def markL (k d : Nat) : List UInt8 := (if k % 4 = 1 ∨ k % 4 = 2 then [58] else []) ++ (List.replicate (1 + d % 4) 45 ++ (if 2 ≤ k % 4 then [58] else []))
def kindL (k : Nat) : UInt8 := if k % 4 = 0 then 45 else if k % 4 = 1 then 108 else if k % 4 = 2 then 99 else 114
/-- No separator and no backslash. -/
def plainM (l : List UInt8) : Prop := l ≠ [] ∧ ∀ c ∈ l, c ≠ 124 ∧ c ≠ 92
theorem markL_mod (k d : Nat) : markL k d = markL (k % 4) (d % 4) := by unfold markL; rw [Nat.mod_mod, Nat.mod_mod]
theorem kindL_mod (k : Nat) : kindL k = kindL (k % 4) := by unfold kindL; rw [Nat.mod_mod]
theorem mark_all : ∀ k : Fin 4, ∀ d : Fin 4, letP (markL k.1 d.1) = [kindL k.1] ∧ ((markL k.1 d.1).all fun c => c != 124 && c != 92) = true := by decide
theorem mark_let (k d : Nat) : letP (markL k d) = [kindL k] := by
  rw [markL_mod, kindL_mod]
  exact (mark_all ⟨k % 4, Nat.mod_lt _ (by omega)⟩ ⟨d % 4, Nat.mod_lt _ (by omega)⟩).1
theorem mark_plain (k d : Nat) : plainM (markL k d) := by
  refine ⟨fun e => ?_, fun c hc => ?_⟩
  · have := congrArg List.length e
    unfold markL at this
    simp at this
  · rw [markL_mod] at hc
    have := List.all_eq_true.1 (mark_all ⟨k % 4, Nat.mod_lt _ (by omega)⟩ ⟨d % 4, Nat.mod_lt _ (by omega)⟩).2 c hc
    simpa using this
theorem mark_len (k d : Nat) : (markL k d).length ≤ 6 := by
  unfold markL
  have := Nat.mod_lt d (show 4 > 0 by omega)
  rw [List.length_append, List.length_append, List.length_replicate]
  split <;> split <;> simp <;> omega
theorem split_plain (rest : List UInt8) : ∀ l : List UInt8, (∀ c ∈ l, c ≠ 124 ∧ c ≠ 92) → splitGo false (l ++ rest) = aheadL l (splitGo false rest)
  | [], _ => (aheadL_nil _ (splitGo_ne _ _)).symm
  | c :: l, h => by
    obtain ⟨h1, h2⟩ := h c (by simp)
    rw [List.cons_append, splitGo_no _ _ _ (fun e => h1 e.1)]
    have e : (c == 92) = false := by simpa using h2
    rw [e, split_plain rest l (fun x hx => h x (by simp [hx]))]
    cases hs : splitGo false rest with
    | nil => exact absurd hs (splitGo_ne _ _)
    | cons a b => rfl
/-- Parts, joined by separators. -/
def joinM : List (List UInt8) → List UInt8
  | [] => []
  | [m] => m
  | m :: ms => m ++ 124 :: joinM ms
theorem split_join : ∀ ms : List (List UInt8), ms ≠ [] → (∀ m ∈ ms, plainM m) → splitGo false (joinM ms) = ms
  | [], h, _ => absurd rfl h
  | [m], _, h => by
    have := split_plain [] m (h m (by simp)).2
    show splitGo false m = _
    rw [List.append_nil] at this
    rw [this]
    show [m ++ []] = _
    simp
  | m :: n :: ms, _, h => by
    show splitGo false (m ++ 124 :: joinM (n :: ms)) = _
    rw [split_plain _ m (h m (by simp)).2, splitGo_sep, split_join (n :: ms) (by simp) (fun x hx => h x (by simp [hx]))]
    show (m ++ []) :: _ = _
    simp
theorem flat_join : ∀ ms : List (List UInt8), ms ≠ [] → (ms.flatMap fun m => m ++ [124]) = joinM ms ++ [124]
  | [], h => absurd rfl h
  | [m], _ => by simp [joinM]
  | m :: n :: ms, _ => by
    rw [List.flatMap_cons, flat_join (n :: ms) (by simp)]
    show _ = (m ++ 124 :: joinM (n :: ms)) ++ [124]
    simp
theorem join_last : ∀ ms : List (List UInt8), ms ≠ [] → (∀ m ∈ ms, plainM m) → ∃ l c, joinM ms = l ++ [c] ∧ c ≠ 92
  | [], h, _ => absurd rfl h
  | [m], _, h => by
    obtain ⟨h1, h2⟩ := h m (by simp)
    rcases List.eq_nil_or_concat m with rfl | ⟨l, c, rfl⟩
    · exact absurd rfl h1
    · exact ⟨l, c, by simp [joinM], (h2 c (by simp)).2⟩
  | m :: n :: ms, _, h => by
    obtain ⟨l, c, hl, hc⟩ := join_last (n :: ms) (by simp) (fun x hx => h x (by simp [hx]))
    refine ⟨m ++ 124 :: l, c, ?_, hc⟩
    show m ++ 124 :: joinM (n :: ms) = _
    rw [hl]; simp
theorem core_join (J l : List UInt8) (c : UInt8) (hl : J = l ++ [c]) (hc : c ≠ 92) : bytesL (coreB (124 :: (J ++ [124]))) = J := by
  have e1 : trimS (124 :: (J ++ [124])) = 124 :: (J ++ [124]) := by
    refine trimS_id _ ?_ ?_
    · simp
    · rw [← List.cons_append, List.getLast?_concat]; decide
  have e2 : core1 (124 :: (J ++ [124])) = mk (J ++ [124]) := by
    unfold core1
    rw [e1]; rfl
  have hz : (mk (J ++ [124])).size = J.length + 1 := by rw [mk_size]; simp
  have hm : 0 < J.length := by rw [hl]; simp
  have g1 : (mk (J ++ [124])).get! J.length = 124 := by
    have := sfx_cons (mk (J ++ [124])) J.length (by omega)
    unfold sfx at this
    rw [bytesL_mk', List.drop_left] at this
    injection this with h1 h2
    exact h1.symm
  have g2 : (mk (J ++ [124])).get! (J.length - 1) = c := by
    have e3 : J ++ [124] = l ++ (c :: [124]) := by rw [hl]; simp
    have hll : J.length - 1 = l.length := by rw [hl]; simp
    have := sfx_cons (mk (J ++ [124])) (J.length - 1) (by omega)
    unfold sfx at this
    rw [bytesL_mk', hll, e3, List.drop_left] at this
    injection this with h1 h2
    rw [hll, e3]; exact h1.symm
  unfold coreB
  rw [e2, if_pos]
  · rw [hz, Nat.add_sub_cancel, extract_take, bytesL_mk', bytesL_mk', List.take_left]
  · refine ⟨by omega, ?_⟩
    rw [sepB_iff, hz, Nat.add_sub_cancel]
    refine ⟨g1, ?_⟩
    unfold slB
    rw [Bool.and_eq_false_iff]
    right
    rw [beq_eq_false_iff_ne]
    intro e
    exact hc (by rw [← g2]; exact (bt_u8 _ _ 92 (by decide)).2 e)
/-- The delimiter line of kinds. -/
def delimL (ks : List Nat) (d : Nat) : List UInt8 := 124 :: ks.flatMap fun k => markL k d ++ [124]
theorem flat_one : ∀ l : List Nat, (l.flatMap fun k => [kindL k]) = l.map kindL
  | [] => rfl
  | a :: b => by rw [List.flatMap_cons, flat_one b]; rfl
theorem delim_align (ks : List Nat) (d : Nat) (h0 : ks ≠ []) (h1 : ks.length ≤ 32) : alignR (delimL ks d) = some (ks.map kindL) := by
  have e0 : delimL ks d = 124 :: (joinM (ks.map fun k => markL k d) ++ [124]) := by
    unfold delimL
    rw [← flat_join _ (by simpa using h0)]
    simp [List.flatMap_map]
  have hp : ∀ m ∈ ks.map fun k => markL k d, plainM m := fun m hm => by
    obtain ⟨k, _, rfl⟩ := List.mem_map.1 hm
    exact mark_plain k d
  obtain ⟨l, c, hl, hc⟩ := join_last _ (by simpa using h0) hp
  have e1 : partsL (delimL ks d) = ks.map fun k => markL k d := by
    unfold partsL
    rw [e0, core_join _ l c hl hc, split_join _ (by simpa using h0) hp]
  unfold alignR
  rw [if_pos (by unfold delimL; simp)]
  unfold alnL
  rw [e1, if_pos]
  · congr 1
    rw [List.flatMap_map]
    have : (fun k => letP (markL k d)) = fun k => [kindL k] := funext fun k => mark_let k d
    rw [this, flat_one]
  · refine ⟨by simpa using h1, ?_⟩
    rw [List.all_map, List.all_eq_true]
    intro k _
    show (!(letP (markL k d)).isEmpty) = true
    rw [mark_let]; rfl
theorem delim_len (d : Nat) : ∀ ks : List Nat, (ks.flatMap fun k => markL k d ++ [124]).length ≤ 7 * ks.length
  | [] => by simp
  | k :: ks => by
    have := delim_len d ks
    have := mark_len k d
    rw [List.flatMap_cons, List.length_append, List.length_append, List.length_cons]
    simp only [List.length_cons, List.length_nil]
    omega
end Go.Pub
