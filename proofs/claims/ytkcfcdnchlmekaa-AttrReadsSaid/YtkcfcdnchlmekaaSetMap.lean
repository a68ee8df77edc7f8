/-
  A set of strings kept as a map from strings to bools that the call makes: look-up, store, clear.
-/
import Derived.Test.YtkcfcdnchlmekaaAttrD
import Derived.Maps.Own
set_option linter.unusedVariables false
set_option linter.unusedSimpArgs false
namespace Go.Pub
open Go.RowKit Go.ChangeMaps Go.MapKept
open Go.Maps (Keyed)
def SetMap (w : World) (b : Nat) (keys : List ByteArray) : Prop :=
  ∃ es clock, w.heap[b]? = some (.map es clock) ∧ es.toList.map (fun e => (e.key, e.val)) = keys.map (fun k => (Value.string k, Value.bool true)) ∧ ∀ k ∈ keys, k.size ≤ maxLen
section
variable {P : Program} {w w' : World} {b : Nat} {keys : List ByteArray}
theorem SetMap.lt (h : SetMap w b keys) : b < w.heap.size := by
  obtain ⟨es, clock, hb, _⟩ := h
  exact (Array.getElem?_eq_some_iff.1 hb).1
theorem SetMap.new (w : World) : SetMap (w.alloc (.map #[] 0)) w.heap.size [] := ⟨#[], 0, (MapKept.heap_alloc w _).1, rfl, fun _ h => absurd h (by simp)⟩
theorem SetMap.kept (h : SetMap w b keys) (hb : w'.heap[b]? = w.heap[b]?) : SetMap w' b keys := by
  obtain ⟨es, clock, h1, h2⟩ := h
  exact ⟨es, clock, hb.trans h1, h2⟩
theorem SetMap.alloc (h : SetMap w b keys) (o : Obj) : SetMap (w.alloc o) b keys := h.kept (Below.heap_alloc _ _ _ h.lt)
theorem SetMap.below (h : SetMap w b keys) (hb : Below w.heap.size w w') : SetMap w' b keys := h.kept (hb.block _ h.lt)
theorem keyOf_str {k : TypeId} (hk : P.underlying k = some .string) {s : ByteArray} (hs : s.size ≤ maxLen) : ∃ l, keyOf P k (.string s) = some l := by
  unfold keyOf
  rw [hk]
  simp [mapKey, hk, hs]
theorem SetMap.entries {k : TypeId} (hk : P.underlying k = some .string) {es : Array MapEntry} (he : es.toList.map (fun e => (e.key, e.val)) = keys.map (fun k => (Value.string k, Value.bool true))) (hm : ∀ k ∈ keys, k.size ≤ maxLen) :
    ∀ e ∈ es.toList, ∃ s, s ∈ keys ∧ e.key = .string s ∧ e.val = .bool true ∧ ∃ l, keyOf P k e.key = some l := by
  intro e hmem
  have : (e.key, e.val) ∈ es.toList.map (fun e => (e.key, e.val)) := List.mem_map.2 ⟨e, hmem, rfl⟩
  rw [he] at this
  obtain ⟨s, hs, he'⟩ := List.mem_map.1 this
  injection he' with e1 e2
  obtain ⟨l, hl⟩ := keyOf_str hk (hm s hs)
  exact ⟨s, hs, e1.symm, e2.symm, l, by rw [← e1]; exact hl⟩
theorem SetMap.find {k : TypeId} (hk : P.underlying k = some .string) {es : Array MapEntry} (he : es.toList.map (fun e => (e.key, e.val)) = keys.map (fun k => (Value.string k, Value.bool true))) (hm : ∀ k ∈ keys, k.size ≤ maxLen)
    (x : ByteArray) (hx : x.size ≤ maxLen) (w : World) : (x ∉ keys ∧ (Instr.findKey k (.string x) es.toList).run P w = .ok none w) ∨ (x ∈ keys ∧ ∃ j, (Instr.findKey k (.string x) es.toList).run P w = .ok (some (j, .bool true)) w) := by
  obtain ⟨lx, hlx⟩ := keyOf_str hk hx
  have hE := SetMap.entries hk he hm
  rcases (Maps.string_keyed hk).find w hlx es.toList (fun e hmem => (hE e hmem).choose_spec.2.2.2) with ⟨h1, h2⟩ | ⟨j, e, h1, h2, h3⟩
  · left
    refine ⟨fun hmem => ?_, h1⟩
    have : (Value.string x, Value.bool true) ∈ keys.map (fun k => (Value.string k, Value.bool true)) := List.mem_map.2 ⟨x, hmem, rfl⟩
    rw [← he] at this
    obtain ⟨e, hmem', he'⟩ := List.mem_map.1 this
    injection he' with e1 e2
    exact h2 e hmem' e1
  · right
    have hmem := List.mem_of_getElem? h2
    obtain ⟨s, hs, k1, k2, _⟩ := hE e hmem
    rw [h3] at k1
    injection k1 with k1
    subst k1
    rw [k2] at h1
    exact ⟨hs, j, h1⟩
theorem SetMap.look {t k e : TypeId} (h : SetMap w b keys) (ht : P.underlying t = some (.map k e)) (hk : P.underlying k = some .string) (hz : (zeroValue e).run P w = .ok (.bool false) w) (x : ByteArray) (hx : x.size ≤ maxLen) :
    (Instr.lookup t (.map (some b)) (.string x) false).run P w = .ok (.bool (Lib.containsS keys x)) w := by
  obtain ⟨es, clock, hb, he, hm⟩ := h
  obtain ⟨lx, hlx⟩ := keyOf_str hk hx
  have hck := (Maps.string_keyed hk).check w es.isEmpty hlx
  rcases SetMap.find hk he hm x hx w with ⟨h1, h2⟩ | ⟨h1, j, h2⟩
  · have hc : Lib.containsS keys x = false := by rw [← Bool.not_eq_true, Lib.containsS_iff]; exact h1
    simp [Instr.lookup, run_underlying ht, MapKept.run_getObj_map hb, hck, h2, hz, hc, Result.andThen]
  · have hc : Lib.containsS keys x = true := (Lib.containsS_iff _ _).2 h1
    simp [Instr.lookup, run_underlying ht, MapKept.run_getObj_map hb, hck, h2, hc, Result.andThen]
theorem SetMap.put {t k e : TypeId} (h : SetMap w b keys) (ht : P.underlying t = some (.map k e)) (hk : P.underlying k = some .string) (x : ByteArray) (hx : x.size ≤ maxLen) (hno : Lib.containsS keys x = false) :
    ∃ w1, (Instr.mapUpdate t (.map (some b)) (.string x) (.bool true)).run P w = .ok () w1 ∧ SetMap w1 b (keys ++ [x]) ∧ w.grownBy w1 (some b) ∧ w1.heap.size = w.heap.size := by
  have hlt := h.lt
  obtain ⟨es, clock, hb, he, hm⟩ := h
  obtain ⟨lx, hlx⟩ := keyOf_str hk hx
  have hck := (Maps.string_keyed hk).check w false hlx
  rcases SetMap.find hk he hm x hx w with ⟨h1, h2⟩ | ⟨h1, j, h2⟩
  · refine ⟨setBlock w b (.map (es.push ⟨.string x, .bool true, clock⟩) (clock + 1)), ?_, ⟨es.push ⟨.string x, .bool true, clock⟩, clock + 1, ?_, ?_, ?_⟩, ⟨rfl, rfl, rfl, ?_, ?_⟩, ?_⟩
    · simp [Instr.mapUpdate, run_underlying ht, MapKept.run_getObj_map hb, hck, h2, MapKept.run_setObj_map _ hb, Result.andThen, setBlock]
    · simp [setBlock, Array.getElem?_setIfInBounds, hlt]
    · rw [Array.toList_push, List.map_append, List.map_append, he]; rfl
    · intro y hy
      rcases List.mem_append.1 hy with hy | hy
      · exact hm y hy
      · simp at hy; subst hy; exact hx
    · simp [setBlock]
    · intro i _ hi
      simp only [setBlock]
      rw [Array.getElem?_setIfInBounds, if_neg (fun e => hi (by rw [e]))]
    · simp [setBlock]
  · have := (Lib.containsS_iff _ _).2 h1
    rw [hno] at this; cases this
theorem SetMap.clear {t : TypeId} {k e : TypeId} (h : SetMap w b keys) (ht : P.underlying t = some (.map k e)) :
    ∃ w1, (∀ ty, (Builtin.clear_ #[t] ty #[.map (some b)]).run P w = .ok (.tuple #[]) w1) ∧ SetMap w1 b [] ∧ w.grownBy w1 (some b) ∧ w1.heap.size = w.heap.size := by
  have hlt := h.lt
  obtain ⟨es, clock, hb, he, hm⟩ := h
  refine ⟨setBlock w b (.map #[] clock), ?_, ⟨#[], clock, ?_, rfl, fun _ h => absurd h (by simp)⟩, ⟨rfl, rfl, rfl, ?_, ?_⟩, ?_⟩
  · intro ty
    simp [Builtin.clear_, run_underlying ht, MapKept.run_getObj_map hb, MapKept.run_setObj_map _ hb, Result.andThen, setBlock]
  · simp [setBlock, Array.getElem?_setIfInBounds, hlt]
  · simp [setBlock]
  · intro i _ hi
    simp only [setBlock]
    rw [Array.getElem?_setIfInBounds, if_neg (fun e => hi (by rw [e]))]
  · simp [setBlock]
end
end Go.Pub
