/-
  Texts of the proof, put together (what this law reaches): LinkH, MkF, MkG, MkH, MkI.
-/
import Derived.Test.YtpoafhgbhnblmaaGreatDoorD03
import Derived.Test.YtpoafhgbhnblmaaGreatDoorD02
import Derived.Test.YtpoafhgbhnblmaaGreatDoorD06
import Derived.Test.YtpoafhgbhnblmaaGreatDoorD07
import Derived.Test.YtpoafhgbhnblmaaGreatDoorD09
import Derived.StillTail
import Derived.Deep.CutRange
import Derived.Deep.DeepCutAuto
import Derived.IntWalk
set_option linter.unusedVariables false
set_option linter.unusedSimpArgs false
namespace Go.Proofs.YtpoafhgbhnblmaaGreatDoor
open Go.RowKit Go.Pub
theorem blk3 {W : World} {g : Nat} {T : TypeId} {cs : Array Value} (h : Blk W g T cs) (hl : cs.size = 3) (x y z : Value) : Blk (((W.setCell ⟨g, 0, none⟩ x).setCell ⟨g, 1, none⟩ y).setCell ⟨g, 2, none⟩ z) g T #[x, y, z] := by
  have := ((h.set_ 0 x).set_ 1 y).set_ 2 z
  have e : ((cs.setIfInBounds 0 x).setIfInBounds 1 y).setIfInBounds 2 z = #[x, y, z] := by
    apply Array.ext
    · simp [hl]
    · intro i h1 h2
      simp at h2
      match i, h2 with
      | 0, _ => simp [hl]
      | 1, _ => simp [hl]
      | 2, _ => simp [hl]
  rw [e] at this
  exact this
theorem below3 {B : Nat} {w W : World} (h : Below B w W) {g : Nat} (hg : B ≤ g) (x y z : Value) : Below B w (((W.setCell ⟨g, 0, none⟩ x).setCell ⟨g, 1, none⟩ y).setCell ⟨g, 2, none⟩ z) :=
  ((h.setCell (p := ⟨g, 0, none⟩) hg x).setCell (p := ⟨g, 1, none⟩) hg y).setCell (p := ⟨g, 2, none⟩) hg z
end Go.Proofs.YtpoafhgbhnblmaaGreatDoor
namespace Go.Pub
open Go Go.RowKit
theorem blk_own {β : Type} (B : Nat) (t : TypeId) (f : β → Array Value) : Own (fun s W => Blk W B t (f s)) := fun s X Y row hs hg hrow =>
  Blk.grown hs hg (fun e' => by obtain ⟨o, ho, hc⟩ := hrow B e'.symm; rw [show X.heap[B]? = _ from hs] at ho; cases ho; cases hc)
theorem row_keep {X Y : World} {row : Option Nat} {n₀ size k : Nat} {e : TypeId} {v : Value} {xs : List Value} (hr : X.ownsRow n₀ e size v k xs) (hg : X.grownBy Y row) (hrow : ∀ r, row = some r → ∃ o : Obj, X.heap[r]? = some o ∧ o.isCells = false) : Y.ownsRow n₀ e size v k xs := by
  refine hr.kept hg ?_
  rcases hr.2 with ⟨rfl, _⟩ | ⟨g, cap, cur, rfl, _, hgb, _⟩
  · exact .inl rfl
  · refine .inr fun e' => ?_
    obtain ⟨o, ho, hc⟩ := hrow g (by simpa [Value.ownBlock] using e'.symm)
    rw [hgb] at ho; cases ho; cases hc
def lastN {n : Nat} (l : List (Fin n)) : Nat := match l.getLast? with | some x => x.1 | none => 0
theorem lastN_snoc {n : Nat} (l : List (Fin n)) (x : Fin n) : lastN (l ++ [x]) = x.1 := by unfold lastN; rw [List.getLast?_concat]
theorem agr_ext (s : ByteArray) (k : Nat) (hk : k ≤ s.size) : Agr s k (s.extract k s.size) 0 (s.size - k) := by
  refine ⟨sfx s k, [], [], by simp, ?_, sfx_len s k⟩
  rw [extract_drop]
  unfold sfx
  rw [bytesL_mk']
  simp
theorem Agr.symm {s s' : ByteArray} {i i' n : Nat} (h : Agr s i s' i' n) : Agr s' i' s i n := by
  obtain ⟨p, r, r', h1, h2, h3⟩ := h
  exact ⟨p, r', r, h2, h1, h3⟩
end Go.Pub
namespace Go.Proofs.YtpoafhgbhnblmaaGreatDoor
open Go.RowKit Go.Pub Go.Shelf
attribute [local go_sem] Oper.semAt_some
/-- Attributes begin at k and end with the string. -/
def attrOkB (s : ByteArray) (k : Nat) : Bool := decide (bt s k = 123) && (decide (k = 0) || decide (bt s (k - 1) = 32)) && (decide ((parseL s k).2.2 = 0) && decide ((parseL s k).2.1 = s.size))
def attrK (s : ByteArray) : Nat := (List.range s.size).findIdx (attrOkB s)
/-- The string without its attributes, and the attributes. -/
def attrEndR (s : ByteArray) : ByteArray × AttrL := if attrK s < s.size then (mk (trimS ((bytesL s).take (attrK s))), (parseL s (attrK s : Nat)).1) else (s, emptyA)
theorem attrK_eq (s : ByteArray) (k : Nat) (hk : k < s.size) (h1 : ∀ j, j < k → attrOkB s j = false) (h2 : attrOkB s k = true) : attrK s = k := by
  unfold attrK
  rw [List.findIdx_eq (by rw [List.length_range]; exact hk)]
  exact ⟨by rw [List.getElem_range]; exact h2, fun j hj => by rw [List.getElem_range]; exact h1 j hj⟩
theorem attrK_none (s : ByteArray) (h : ∀ j, j < s.size → attrOkB s j = false) : attrK s = s.size := by
  unfold attrK
  have : (List.range s.size).findIdx (attrOkB s) = (List.range s.size).length := List.findIdx_eq_length.2 fun x hx => h x (List.mem_range.1 hx)
  rw [this, List.length_range]
theorem attrEnd_some (s : ByteArray) (k : Nat) (hk : k < s.size) (h1 : ∀ j, j < k → attrOkB s j = false) (h2 : attrOkB s k = true) : attrEndR s = (mk (trimS ((bytesL s).take k)), (parseL s k).1) := by
  unfold attrEndR; rw [attrK_eq s k hk h1 h2, if_pos hk]
theorem attrEnd_none (s : ByteArray) (h : ∀ j, j < s.size → attrOkB s j = false) : attrEndR s = (s, emptyA) := by
  unfold attrEndR; rw [attrK_none s h, if_neg (Nat.lt_irrefl _)]
/-- Read from the rest of the string. -/
theorem parse_rest (s : ByteArray) (k : Nat) (hk : k < s.size) :
    ((parseL (s.extract k s.size) 0).2.2 = 0 ∧ (parseL (s.extract k s.size) 0).2.1 = s.size - k ↔ (parseL s k).2.2 = 0 ∧ (parseL s k).2.1 = s.size) ∧ ((parseL s k).2.2 = 0 ∧ (parseL s k).2.1 = s.size → (parseL (s.extract k s.size) 0).1 = (parseL s k).1) := by
  have ha := agr_ext s k (by omega)
  have fwd : (parseL s k).2.2 = 0 ∧ (parseL s k).2.1 = s.size → parseL (s.extract k s.size) (0 : Nat) = ((parseL s k).1, 0 + (s.size - k), 0) := fun ⟨h1, h2⟩ => by
    refine parse_move ha (A := (parseL s k).1) ?_
    rw [show k + (s.size - k) = s.size by omega, ← h1, ← h2]
  have bwd : (parseL (s.extract k s.size) 0).2.2 = 0 ∧ (parseL (s.extract k s.size) 0).2.1 = s.size - k → parseL s (k : Nat) = ((parseL (s.extract k s.size) 0).1, k + (s.size - k), 0) := fun ⟨h1, h2⟩ => by
    refine parse_move ha.symm (A := (parseL (s.extract k s.size) 0).1) ?_
    show parseL (s.extract k s.size) 0 = _
    rw [Nat.zero_add, ← h2, ← h1]
  refine ⟨⟨fun h => ?_, fun h => ?_⟩, fun h => ?_⟩
  · rw [bwd h]; exact ⟨rfl, by show k + (s.size - k) = s.size; omega⟩
  · have := fwd h
    rw [show ((0 : Nat) : Int) = 0 from rfl] at this
    rw [this]; exact ⟨rfl, by show 0 + (s.size - k) = s.size - k; omega⟩
  · have := fwd h
    rw [show ((0 : Nat) : Int) = 0 from rfl] at this
    rw [this]
theorem attrBlk_own {β : Type} (B base : Nat) (f : β → AttrL) : Own (fun s W => ∃ vC vP, Blk W B 43 #[.string (f s).id, vC, vP] ∧ OwnA W base (f s) vC vP) := by
  rintro s X Y row ⟨vC, vP, hb, ho⟩ hg hrow
  exact ⟨vC, vP, blk_own B _ (fun _ => #[.string (f s).id, vC, vP]) s X Y row hb hg hrow, row_keep ho.cls hg hrow, row_keep ho.prs hg hrow, Nat.le_trans ho.le hg.size, ho.c32, ho.p32⟩
def AEPost (r : ByteArray × AttrL) (w : World) (e : Ending) (w' : World) : Prop := ∃ vC vP, e = .returned (.tuple #[.string r.1, .agg #[.string r.2.id, vC, vP]]) ∧ OwnA w' w.heap.size r.2 vC vP ∧ Below w.heap.size w w'
set_option maxRecDepth 100000 in
set_option maxHeartbeats 8000000 in
theorem m_attrEnd (s : ByteArray) (w : World) (hs : s.size ≤ 1000000) : Calls Tryz.prog 104 #[.string s] w (AEPost (attrEndR s) w) := by
  have HP := Lib.hid fun W => characters_any s W
  have HN := Lib.hid (attrEnd_none s)
  have HSo := Lib.hid (attrEnd_some s)
  generalize attrEndR s = R at *
  refine (callsIn_wide (n := 5)).1 ?_
  refine callsIn_of_wp_marks Tryz.func104 rfl trivial ?_ rfl
  simp only [Tryz.ntmps104, List.size_toArray, List.length_cons, List.length_nil, Nat.reduceAdd, Nat.reduceSub, Array.replicate_succ, Array.replicate_zero, List.push_toArray, List.append_toArray, List.nil_append, List.cons_append]
  gi_wp2_with fail
  refine ⟨trivial, ?_⟩
  ((with_reducible refine (callsIn_wide.2 (HP.out _)).mono ?_))
  rintro e w' ⟨rfl, rfl⟩
  gi_wp2_with fail
  have bS := Boxed.new w 9 (.string s)
  have bR := Boxed.new (w.alloc (.cells #[.string s] 9)) 9 (.string ⟨#[]⟩)
  rw [World.size_alloc] at bR
  have bA : Blk (((w.alloc (.cells #[.string s] 9)).alloc (.cells #[.string ⟨#[]⟩] 9)).alloc (.cells #[.string ⟨#[]⟩, .slice none 0 0, .slice none 0 0] 43)) (w.heap.size + 1 + 1) 43 #[.string ⟨#[]⟩, .slice none 0 0, .slice none 0 0] := by
    have := Blk.new ((w.alloc (.cells #[.string s] 9)).alloc (.cells #[.string ⟨#[]⟩] 9)) 43 #[.string ⟨#[]⟩, .slice none 0 0, .slice none 0 0]
    rw [World.size_alloc, World.size_alloc] at this
    exact this
  have bC := Boxed.new (((w.alloc (.cells #[.string s] 9)).alloc (.cells #[.string ⟨#[]⟩] 9)).alloc (.cells #[.string ⟨#[]⟩, .slice none 0 0, .slice none 0 0] 43)) 9 (.string s)
  rw [World.size_alloc, World.size_alloc, World.size_alloc] at bC
  have hB0 : Below w.heap.size w ((((w.alloc (.cells #[.string s] 9)).alloc (.cells #[.string ⟨#[]⟩] 9)).alloc (.cells #[.string ⟨#[]⟩, .slice none 0 0, .slice none 0 0] 43)).alloc (.cells #[.string s] 9)) := ((((Below.refl _ w).alloc (Nat.le_refl _) _).alloc (by simp) _).alloc (by simp; omega) _).alloc (by simp; omega) _
  have bS' := ((bS.alloc (.cells #[.string ⟨#[]⟩] 9)).alloc (.cells #[.string ⟨#[]⟩, .slice none 0 0, .slice none 0 0] 43)).alloc (.cells #[.string s] 9)
  have bR' := (bR.alloc (.cells #[.string ⟨#[]⟩, .slice none 0 0, .slice none 0 0] 43)).alloc (.cells #[.string s] 9)
  have bA' := bA.alloc (.cells #[.string s] 9)
  have hzW : ((((w.alloc (.cells #[.string s] 9)).alloc (.cells #[.string ⟨#[]⟩] 9)).alloc (.cells #[.string ⟨#[]⟩, .slice none 0 0, .slice none 0 0] 43)).alloc (.cells #[.string s] 9)).heap.size = w.heap.size + 4 := by simp
  generalize ((((w.alloc (.cells #[.string s] 9)).alloc (.cells #[.string ⟨#[]⟩] 9)).alloc (.cells #[.string ⟨#[]⟩, .slice none 0 0, .slice none 0 0] 43)).alloc (.cells #[.string s] 9)) = W0 at *
  clear bS bR bA
  refine wpIn_rangeFunc_ownG rfl (by omega) (gf := 163) (lb := #[.pointer (some ⟨w.heap.size + 1 + 1 + 1, 0, none⟩)]) rfl trivial (enters_of Tryz.func163 (by kernel_rfl) rfl)
    (chars_stops 4 (by omega) (w.heap.size + 1 + 1 + 1) s hs _ bC) (Kp := KpB (w.heap.size + 1 + 1 + 1)) (fun h1 h2 => h2.trans h1) (fun W l o o' hl ho hc _ => World.putObj_heap_other (fun e => by omega)) (Below.refl _ _) (fun _ => rfl)
    (fun (pre : List (Fin s.size)) W => (Boxed W w.heap.size 9 (.string s) ∧ Boxed W (w.heap.size + 1 + 1 + 1) 9 (.string s)) ∧ (Boxed W (w.heap.size + 1) 9 (.string ⟨#[]⟩) ∧ Blk W (w.heap.size + 1 + 1) 43 #[.string ⟨#[]⟩, .slice none 0 0, .slice none 0 0]) ∧ (∀ j ∈ pre, attrOkB s j.1 = false) ∧ Below w.heap.size w W)
    (fun q (pre : List (Fin s.size)) W => (q = Code.ret ∧ ∃ pr x, pre = pr ++ [x] ∧ (∀ j ∈ pr, attrOkB s j.1 = false) ∧ attrOkB s x.1 = true) ∧ (Boxed W (w.heap.size + 1) 9 (.string (mk (trimS ((bytesL s).take (lastN pre))))) ∧ ∃ vC vP, Blk W (w.heap.size + 1 + 1) 43 #[.string (parseL s (lastN pre : Nat)).1.id, vC, vP] ∧ OwnA W w.heap.size (parseL s (lastN pre : Nat)).1 vC vP) ∧ Below w.heap.size w W)
    (OwnFrom.and (OwnFrom.and (Own.from (boxed_own _ _ (fun _ => .string s)) _) (Own.from (boxed_own _ _ (fun _ => .string s)) _)) (OwnFrom.and (OwnFrom.and (Own.from (boxed_own _ _ (fun _ => .string ⟨#[]⟩)) _) (Own.from (blk_own _ _ (fun _ => #[.string ⟨#[]⟩, .slice none 0 0, .slice none 0 0])) _)) (OwnFrom.and (ownFrom_pure _ _) (ownFrom_below (Nat.le_refl _) (by omega)))))
    (fun q => OwnFrom.and (ownFrom_pure _ _) (OwnFrom.and (OwnFrom.and (Own.from (boxed_own _ _ (fun (pre : List (Fin s.size)) => .string (mk (trimS ((bytesL s).take (lastN pre)))))) _) (Own.from (attrBlk_own _ _ (fun (pre : List (Fin s.size)) => (parseL s (lastN pre : Nat)).1)) _)) (ownFrom_below (Nat.le_refl _) (by omega))))
    ⟨⟨bS', bC⟩, ⟨bR', bA'⟩, fun j h => absurd h (by simp), hB0⟩
    (fun (x : Fin s.size) => { tmps := #[.string s, .pointer (some ⟨w.heap.size, 0, none⟩), .pointer (some ⟨w.heap.size + 1, 0, none⟩), .pointer (some ⟨w.heap.size + 1 + 1, 0, none⟩), .int .i64 (x.1 : Nat), .int .u8 (bt s x.1), undef, undef, undef, .string s, .func (.func 163) #[] #[.pointer (some ⟨w.heap.size + 1 + 1 + 1, 0, none⟩)], .int .i64 (x.1 : Nat), .int .u8 (bt s x.1), undef, undef, undef, undef, undef, undef, undef, undef, undef, undef, undef, undef, undef, undef, undef, undef, undef, undef, undef, undef, undef, undef, undef, undef, undef, undef, undef, undef, undef, undef, undef, undef, undef, undef, undef, undef, undef, undef], defers := [] }) ?assign ?body ?done ?stop
  case assign =>
    intro l x W K hK
    gi_wp2_with fail
    exact hK
  case body =>
    rintro l pre ⟨k, hk⟩ W ⟨⟨hS, hC⟩, ⟨hR, hA⟩, hg, hB⟩ hlt
    have HG := Lib.hid hg
    clear hg
    have kS := hS.cell
    simp only
    have hmx : Tryz.prog.follows .mixedOrders = true := by kernel_rfl
    have NX : attrOkB s k = false → ∀ j ∈ pre ++ [(⟨k, hk⟩ : Fin s.size)], attrOkB s j.1 = false := fun h j hj => by
      rcases List.mem_append.1 hj with hj | hj
      · exact HG.out j hj
      · rw [List.mem_singleton] at hj; rw [hj]; exact h
    have hcase : ((((bt s k : Nat) : Int) != 123) = true ∧ Hid (attrOkB s k = false)) ∨ ((((bt s k : Nat) : Int) != 123) = false ∧ Hid (bt s k = 123)) := by
      by_cases h : bt s k = 123
      · right; exact ⟨by rw [h]; rfl, Lib.hid h⟩
      · left; exact ⟨by rw [bne_iff_ne]; omega, Lib.hid (by unfold attrOkB; rw [decide_eq_false h]; rfl)⟩
    rcases hcase with ⟨d1, hf⟩ | ⟨d1, h123⟩
    · have HN' := Lib.hid (NX hf.out)
      clear NX hf
      gi_wp2_with fail
      exact ⟨(KeepsOthers.refl _).from _, rfl, ⟨hS, hC⟩, ⟨hR, hA⟩, HN'.out, hB⟩
    have hcase2 : (decide (0 < k) = false ∧ Hid (k = 0)) ∨ (∃ y, ∃ hy : y < s.size, (k : Int) - 1 = (y : Int) ∧ decide (0 < k) = true ∧ Hid (k - 1 = y) ∧ Hid (k ≠ 0)) := by
      by_cases h : k = 0
      · left; exact ⟨decide_eq_false (by omega), Lib.hid h⟩
      · right; exact ⟨k - 1, by omega, by omega, decide_eq_true (by omega), Lib.hid rfl, Lib.hid h⟩
    have hgo : (decide (0 < k) = false ∧ Hid (bt s k = 123 ∧ (k = 0 ∨ bt s (k - 1) = 32))) ∨ (∃ y, ∃ hy : y < s.size, (k : Int) - 1 = (y : Int) ∧ decide (0 < k) = true ∧ s[y].toNat = bt s y ∧ (((bt s y : Nat) : Int) != 32) = false ∧ Hid (bt s k = 123 ∧ (k = 0 ∨ bt s (k - 1) = 32))) ∨ (∃ y, ∃ hy : y < s.size, (k : Int) - 1 = (y : Int) ∧ decide (0 < k) = true ∧ s[y].toNat = bt s y ∧ (((bt s y : Nat) : Int) != 32) = true ∧ Hid (attrOkB s k = false)) := by
      rcases hcase2 with ⟨h1, h2⟩ | ⟨y, hy, h1, h2, h3, h4⟩
      · left; exact ⟨h1, Lib.hid ⟨h123.out, Or.inl h2.out⟩⟩
      · right
        by_cases h : bt s y = 32
        · left; exact ⟨y, hy, h1, h2, get_bt s y hy, by rw [h]; rfl, Lib.hid ⟨h123.out, Or.inr (by rw [h3.out]; exact h)⟩⟩
        · right; exact ⟨y, hy, h1, h2, get_bt s y hy, by rw [bne_iff_ne]; omega, Lib.hid (by unfold attrOkB; rw [decide_eq_false h4.out, h3.out, decide_eq_false h]; simp)⟩
    clear hcase2 h123
    have hlc : ∀ y, bt s y < 256 := bt_lt s
    clear hlc
    have HPa : Hid (∀ W1, CallsIn (Fence.wide.inRound l) (5 - 1 - 1 - 1) Tryz.prog 148 #[.string (s.extract k s.size), .int .i64 0] W1 (ParsePost (parseL (s.extract k s.size) 0) W1)) := Lib.hid fun W1 => CallsIn.inRound l ((callsIn_wide (n := 5 - 1 - 1 - 1)).2 (parse_any W1 (s.extract k s.size) 0 (by rw [ByteArray.size_extract]; omega)))
    obtain ⟨hp1, hp2⟩ := parse_rest s k hk
    have HP1 := Lib.hid hp1
    have HP2 := Lib.hid hp2
    clear hp1 hp2
    have HT : Hid (∀ W, Calls Tryz.prog 105 #[.string (s.extract 0 k)] W fun e w' => e = .returned (.string (mk (trimS ((bytesL s).take k)))) ∧ w' = W) := Lib.hid fun W => by
      have h := (t_trim (s.extract 0 k) W (by rw [ByteArray.size_extract]; omega)).mono fun e w' h => (⟨h.1, h.2.symm⟩ : _ ∧ w' = W)
      rw [extract_take, bytesL_mk'] at h
      rw [extract_take]
      exact h
    generalize parseL (s.extract k s.size) 0 = pr at *
    obtain ⟨a, t, n⟩ := pr
    simp only at HP1 HP2
    have hki : (k : Int) ≤ (s.size : Int) := by omega
    have hsub : (s.size : Int) - (k : Int) = ((s.size - k : Nat) : Int) := by omega
    obtain ⟨m, hm⟩ : ∃ m, m = s.size - k := ⟨_, rfl⟩
    rw [← hm] at hsub HP1
    clear hm
    have htest : (Hid (attrOkB s k = false ∨ ¬ (bt s k = 123 ∧ (k = 0 ∨ bt s (k - 1) = 32))) ∧ (((n : Int) == 0) = false ∨ (((n : Int) == 0) = true ∧ (t == m) = false ∧ ((t : Int) == (m : Int)) = false))) ∨ (Hid ((attrOkB s k = true ∨ ¬ (bt s k = 123 ∧ (k = 0 ∨ bt s (k - 1) = 32))) ∧ a = (parseL s k).1) ∧ ((n : Int) == 0) = true ∧ (t == m) = true ∧ ((t : Int) == (m : Int)) = true) := by
      by_cases hb : bt s k = 123 ∧ (k = 0 ∨ bt s (k - 1) = 32)
      · have e0 : attrOkB s k = (decide ((parseL s k).2.2 = 0) && decide ((parseL s k).2.1 = s.size)) := by
          unfold attrOkB
          rw [decide_eq_true hb.1]
          rcases hb.2 with h | h
          · rw [decide_eq_true h]; simp
          · rw [decide_eq_true h]; simp
        by_cases hh : n = 0 ∧ t = m
        · right
          have := HP1.out.1 hh
          refine ⟨Lib.hid ⟨Or.inl (by rw [e0, decide_eq_true this.1, decide_eq_true this.2]; rfl), HP2.out this⟩, by rw [beq_iff_eq]; omega, by rw [beq_iff_eq]; exact hh.2, by rw [beq_iff_eq]; omega⟩
        · left
          refine ⟨Lib.hid (Or.inl ?_), ?_⟩
          · rw [e0, Bool.and_eq_false_iff, decide_eq_false_iff_not, decide_eq_false_iff_not]
            by_cases h1 : (parseL s k).2.2 = 0
            · right; intro h2; exact hh (HP1.out.2 ⟨h1, h2⟩)
            · left; exact h1
          · by_cases h0 : n = 0
            · right; exact ⟨by rw [beq_iff_eq]; omega, by rw [beq_eq_false_iff_ne]; exact fun e => hh ⟨h0, e⟩, by rw [beq_eq_false_iff_ne]; intro e; exact hh ⟨h0, by omega⟩⟩
            · left; rw [beq_eq_false_iff_ne]; omega
      · by_cases hh : n = 0 ∧ t = m
        · right
          have := HP1.out.1 hh
          exact ⟨Lib.hid ⟨Or.inr hb, HP2.out this⟩, by rw [beq_iff_eq]; omega, by rw [beq_iff_eq]; exact hh.2, by rw [beq_iff_eq]; omega⟩
        · left
          refine ⟨Lib.hid (Or.inr hb), ?_⟩
          by_cases h0 : n = 0
          · right; exact ⟨by rw [beq_iff_eq]; omega, by rw [beq_eq_false_iff_ne]; exact fun e => hh ⟨h0, e⟩, by rw [beq_eq_false_iff_ne]; intro e; exact hh ⟨h0, by omega⟩⟩
          · left; rw [beq_eq_false_iff_ne]; omega
    clear HP1 HP2
    have NX' := Lib.hid NX
    clear NX
    rcases hgo with ⟨d2, hok⟩ | ⟨y, hy, d0, d2, d4, d3, hok⟩ | ⟨y, hy, d0, d2, d4, d3, hf⟩
    case inr.inr =>
      have HN' := Lib.hid (NX'.out hf.out)
      clear htest hf
      gi_wp2_with fail
      exact ⟨(KeepsOthers.refl _).from _, rfl, ⟨hS, hC⟩, ⟨hR, hA⟩, HN'.out, hB⟩
    all_goals
      gi_wp2_with fail
      refine ⟨trivial, ?_⟩
      ((with_reducible refine (HPa.out _).mono ?_))
      rintro e W1 ⟨v, rfl, ⟨⟨vC, vP, rfl, hC1, hP1⟩, hc32, hp32⟩, b1⟩
      obtain ⟨qA, qc, rfl⟩ := own_slice hC1
      obtain ⟨qD, qd, rfl⟩ := own_slice hP1
      have gS : Boxed W1 w.heap.size 9 (.string s) := (b1.block _ hS.lt).trans hS
      have gC : Boxed W1 (w.heap.size + 1 + 1 + 1) 9 (.string s) := (b1.block _ hC.lt).trans hC
      have gR : Boxed W1 (w.heap.size + 1) 9 (.string ⟨#[]⟩) := (b1.block _ hR.lt).trans hR
      have gA : Blk W1 (w.heap.size + 1 + 1) 43 #[.string ⟨#[]⟩, .slice none 0 0, .slice none 0 0] := hA.below b1 hA.lt
      have kS1 := gS.cell
      have gS' := gS.alloc (.cells #[.string a.id, (.slice qA a.cl.length qc), (.slice qD a.pr.length qd)] 43)
      have gC' := gC.alloc (.cells #[.string a.id, (.slice qA a.cl.length qc), (.slice qD a.pr.length qd)] 43)
      have gR' := gR.alloc (.cells #[.string a.id, (.slice qA a.cl.length qc), (.slice qD a.pr.length qd)] 43)
      have gA' := Blk.alloc gA (.cells #[.string a.id, (.slice qA a.cl.length qc), (.slice qD a.pr.length qd)] 43)
      have kS2 := gS'.cell
      have bN := Blk.new W1 43 #[.string a.id, (.slice qA a.cl.length qc), (.slice qD a.pr.length qd)]
      have hBw : Below w.heap.size w (W1.alloc (.cells #[.string a.id, (.slice qA a.cl.length qc), (.slice qD a.pr.length qd)] 43)) := (hB.trans (b1.mono hB.size)).alloc (Nat.le_trans hB.size b1.size) _
      have hkp : KeepsOthers W (W1.alloc (.cells #[.string a.id, (.slice qA a.cl.length qc), (.slice qD a.pr.length qd)] 43)) := (keeps_of_below b1).trans (KeepsOthers.alloc _ _)
      rcases htest with ⟨hno, t1 | ⟨t1, t2, t3⟩⟩ | ⟨hyes, t1, t2, t3⟩
      case inl.inl =>
        have HN' := Lib.hid (NX'.out (hno.out.resolve_right fun h => h hok.out))
        clear hno
        gi_wp2_with fail
        exact ⟨hkp.from _, gC'.trans hC.symm, ⟨gS', gC'⟩, ⟨gR', gA'⟩, HN'.out, hBw⟩
      case inl.inr =>
        have HN' := Lib.hid (NX'.out (hno.out.resolve_right fun h => h hok.out))
        clear hno
        gi_wp2_with fail
        exact ⟨hkp.from _, gC'.trans hC.symm, ⟨gS', gC'⟩, ⟨gR', gA'⟩, HN'.out, hBw⟩
      case inr =>
        obtain ⟨hy1, hy2⟩ := hyes.out
        have HY := Lib.hid (hy1.resolve_right fun h => h hok.out)
        clear hyes hy1
        have HOA : Hid (OwnA (W1.alloc (.cells #[.string a.id, (.slice qA a.cl.length qc), (.slice qD a.pr.length qd)] 43)) w.heap.size a (.slice qA a.cl.length qc) (.slice qD a.pr.length qd)) := Lib.hid ⟨own_below (own_base hC1 hB.size) ((Below.refl _ _).alloc (Nat.le_refl _) _), own_below (own_base hP1 hB.size) ((Below.refl _ _).alloc (Nat.le_refl _) _), hBw.size, hc32, hp32⟩
        have e0 := bN.cell 0
        have e1 := bN.cell 1
        have e2 := bN.cell 2
        have r0 := gR'.cell
        have r1 := gR'.frozen
        have a0 := gA'.cell 0
        have a1 := gA'.cell 1
        have a2 := gA'.cell 2
        have f0 := gA'.frozen 0
        have f1 := gA'.frozen 1
        have f2 := gA'.frozen 2
        have HY2 := Lib.hid hy2
        clear hy2
        have hzz : (W1.alloc (.cells #[.string a.id, (.slice qA a.cl.length qc), (.slice qD a.pr.length qd)] 43)).heap.size = W1.heap.size + 1 := by simp
        gi_wp2_with fail
        generalize W1.alloc (.cells #[.string a.id, (.slice qA a.cl.length qc), (.slice qD a.pr.length qd)] 43) = W2 at *
        have hlow : w.heap.size + 4 ≤ W1.heap.size := by have h1 := hC.lt; have h2 := b1.size; omega
        have HSt : Hid (∀ W' : World, (W'.cell? ⟨w.heap.size, 0, none⟩ = some (.string s) ∧ W'.cell? ⟨W1.heap.size, 0, none⟩ = some (.string a.id) ∧ W'.cell? ⟨W1.heap.size, 1, none⟩ = some (.slice qA a.cl.length qc) ∧ W'.cell? ⟨W1.heap.size, 2, none⟩ = some (.slice qD a.pr.length qd)) → ∀ (o : Nat) (u : Value) (b : Nat), (b = w.heap.size + 1 ∨ b = w.heap.size + 1 + 1) → ((W'.setCell ⟨b, o, none⟩ u).cell? ⟨w.heap.size, 0, none⟩ = some (.string s) ∧ (W'.setCell ⟨b, o, none⟩ u).cell? ⟨W1.heap.size, 0, none⟩ = some (.string a.id) ∧ (W'.setCell ⟨b, o, none⟩ u).cell? ⟨W1.heap.size, 1, none⟩ = some (.slice qA a.cl.length qc) ∧ (W'.setCell ⟨b, o, none⟩ u).cell? ⟨W1.heap.size, 2, none⟩ = some (.slice qD a.pr.length qd))) := Lib.hid fun W' ⟨h1, h2, h3, h4⟩ o u b hb => by
          have g1 : b ≠ w.heap.size := by omega
          have g2 : b ≠ W1.heap.size := by omega
          exact ⟨(World.cell?_setCell_far _ _ _ _ g1).trans h1, (World.cell?_setCell_far _ _ _ _ g2).trans h2, (World.cell?_setCell_far _ _ _ _ g2).trans h3, (World.cell?_setCell_far _ _ _ _ g2).trans h4⟩
        refine regionIn_held (S := fun W' => W'.cell? ⟨w.heap.size, 0, none⟩ = some (.string s) ∧ W'.cell? ⟨W1.heap.size, 0, none⟩ = some (.string a.id) ∧ W'.cell? ⟨W1.heap.size, 1, none⟩ = some (.slice qA a.cl.length qc) ∧ W'.cell? ⟨W1.heap.size, 2, none⟩ = some (.slice qD a.pr.length qd)) hmx (by kernel_rfl) (fun ⟨_, _, h⟩ => h) ⟨kS2, e0, e1, e2⟩ (fun hHeld => ?_)
        refine wpAnyH_take (i := 0) (v := .string s) rfl (by kernel_rfl) (by kernel_rfl) (by kernel_rfl) (fun _ _ _ h => h) (Or.inl ⟨by rfl, fun W' hSw => ?_⟩) hHeld ?_
        · obtain ⟨h1, h2, h3, h4⟩ := hSw
          go_simp
        try simp only [Act.put, List.setIfInBounds_toArray, List.set_cons_zero, List.set_cons_succ]
        refine wpAnyH_take (i := 4) (v := .agg #[.string a.id, .slice qA a.cl.length qc, .slice qD a.pr.length qd]) rfl (by kernel_rfl) (by kernel_rfl) (by kernel_rfl) (fun _ _ _ h => h) (Or.inl ⟨by rfl, fun W' hSw => ?_⟩) hHeld ?_
        · obtain ⟨h1, h2, h3, h4⟩ := hSw
          go_simp
        try simp only [Act.put, List.setIfInBounds_toArray, List.set_cons_zero, List.set_cons_succ]
        refine wpAnyH_take (i := 1) (v := .int .i64 (k : Nat)) rfl (by kernel_rfl) (by kernel_rfl) (by kernel_rfl) (fun _ _ _ h => h) (Or.inl ⟨by rfl, fun W' hSw => ?_⟩) hHeld ?_
        · go_simp
        try simp only [Act.put, List.setIfInBounds_toArray, List.set_cons_zero, List.set_cons_succ]
        refine wpAnyH_take (i := 2) (v := .string (s.extract 0 k)) rfl (by kernel_rfl) (by kernel_rfl) (by kernel_rfl) (fun _ _ _ h => h) (Or.inl ⟨by rfl, fun W' hSw => ?_⟩) hHeld ?_
        · go_simp
        try simp only [Act.put, List.setIfInBounds_toArray, List.set_cons_zero, List.set_cons_succ]
        refine wpAnyH_ready (rs := [3]) (by kernel_rfl) (by simp) (AllReadyH.cons rfl (fun K hK => ?_) AllReadyH.nil)
        go_simp
        ((with_reducible refine (HT.out _).mono ?_))
        rintro e w' ⟨rfl, rfl⟩
        refine hK.out _ _ hHeld (fun _ => ?_)
        clear hK K
        try simp only [Act.put, List.setIfInBounds_toArray, List.set_cons_zero, List.set_cons_succ]
        refine wpAnyH_ready (rs := [5]) (by kernel_rfl) (by simp) (AllReadyH.cons rfl (fun K hK => ?_) AllReadyH.nil)
        go_simp
        refine hK.out _ _ (HSt.out _ hHeld 0 _ _ (Or.inl rfl)) (fun hHeld2 => ?_)
        clear hK K
        try simp only [Act.put, List.setIfInBounds_toArray, List.set_cons_zero, List.set_cons_succ]
        refine wpAnyH_ready (rs := [6]) (by kernel_rfl) (by simp) (AllReadyH.cons rfl (fun K hK => ?_) AllReadyH.nil)
        go_simp
        refine hK.out _ _ (HSt.out _ (HSt.out _ (HSt.out _ hHeld2 0 _ _ (Or.inr rfl)) 1 _ _ (Or.inr rfl)) 2 _ _ (Or.inr rfl)) (fun _ => ?_)
        clear hK K
        refine wpAnyH_done (by kernel_rfl) ?_ _
        gi_wp2_with fail
        have hB3 : w.heap.size + 3 < W.heap.size := hC.lt
        have far : ∀ (g : Nat) (v : Value) (kk : Nat), (g = w.heap.size + 1 ∨ g = w.heap.size + 1 + 1) → some g ≠ v.ownBlock → v.ownBlock = some kk → g ≠ kk := fun g v kk _ h1 h2 e => h1 (by rw [h2, e])
        have o1 : some (w.heap.size + 1) ≠ (Value.slice qA a.cl.length qc).ownBlock := own_far hC1 (by omega)
        have o2 : some (w.heap.size + 1 + 1) ≠ (Value.slice qA a.cl.length qc).ownBlock := own_far hC1 (by omega)
        have o3 : some (w.heap.size + 1) ≠ (Value.slice qD a.pr.length qd).ownBlock := own_far hP1 (by omega)
        have o4 : some (w.heap.size + 1 + 1) ≠ (Value.slice qD a.pr.length qd).ownBlock := own_far hP1 (by omega)
        refine ⟨(((((hkp.trans (KeepsOthers.setCell _ ⟨w.heap.size + 1, 0, none⟩ _)).trans (KeepsOthers.setCell _ ⟨w.heap.size + 1 + 1, 0, none⟩ _)).trans (KeepsOthers.setCell _ ⟨w.heap.size + 1 + 1, 1, none⟩ _)).trans (KeepsOthers.setCell _ ⟨w.heap.size + 1 + 1, 2, none⟩ _)).trans (KeepsOthers.drew _)).from _, ⟨rfl, pre, ⟨k, hk⟩, rfl, HG.out, HY.out⟩, ⟨?_, .slice qA a.cl.length qc, .slice qD a.pr.length qd, ?_, ?_⟩, ?_⟩
        · rw [lastN_snoc]
          exact Blk.far (Blk.far (Blk.far (gR'.set _) (by simp) _) (by simp) _) (by simp) _
        · rw [lastN_snoc, ← HY2.out]
          exact blk3 (Blk.far gA' (by simp) _) rfl _ _ _
        · rw [lastN_snoc, ← HY2.out]
          have h4 := (((HOA.out.setCell (p := ⟨w.heap.size + 1, 0, none⟩) (fun kk e => far _ _ kk (Or.inl rfl) o1 e) (fun kk e => far _ _ kk (Or.inl rfl) o3 e) (.string (mk (trimS ((bytesL s).take k))))).setCell (p := ⟨w.heap.size + 1 + 1, 0, none⟩) (fun kk e => far _ _ kk (Or.inr rfl) o2 e) (fun kk e => far _ _ kk (Or.inr rfl) o4 e) (.string a.id)).setCell (p := ⟨w.heap.size + 1 + 1, 1, none⟩) (fun kk e => far _ _ kk (Or.inr rfl) o2 e) (fun kk e => far _ _ kk (Or.inr rfl) o4 e) (.slice qA a.cl.length qc)).setCell (p := ⟨w.heap.size + 1 + 1, 2, none⟩) (fun kk e => far _ _ kk (Or.inr rfl) o2 e) (fun kk e => far _ _ kk (Or.inr rfl) o4 e) (.slice qD a.pr.length qd)
          exact ⟨h4.cls, h4.prs, h4.le, h4.c32, h4.p32⟩
        · exact (below3 (hBw.setCell (p := ⟨w.heap.size + 1, 0, none⟩) (by show w.heap.size ≤ w.heap.size + 1; omega) _) (by omega) _ _ _).drew
  case done =>
    rintro D ys W hD hys ⟨⟨hS, hC⟩, ⟨hR, hA⟩, hg, hB⟩ hK
    have HE := Lib.hid (HN.out fun j hj => by
      have : j ∈ ys.map Fin.val := by rw [hys]; exact List.mem_range.2 hj
      obtain ⟨y, hy, rfl⟩ := List.mem_map.1 this
      exact hg y hy)
    clear hg hys
    have kS := hS.cell
    have r0 := hR.cell
    have r1 := hR.frozen
    have a0 := hA.cell 0
    have a1 := hA.cell 1
    have a2 := hA.cell 2
    have f0 := hA.frozen 0
    have f1 := hA.frozen 1
    have f2 := hA.frozen 2
    have HX : Hid (Blk ((((W.setCell ⟨w.heap.size + 1, 0, none⟩ (.string s)).setCell ⟨w.heap.size + 1 + 1, 0, none⟩ (.string ⟨#[]⟩)).setCell ⟨w.heap.size + 1 + 1, 1, none⟩ (.slice none 0 0)).setCell ⟨w.heap.size + 1 + 1, 2, none⟩ (.slice none 0 0)) (w.heap.size + 1 + 1) 43 #[.string ⟨#[]⟩, .slice none 0 0, .slice none 0 0]) := Lib.hid (blk3 (Blk.far hA (by simp) _) rfl _ _ _)
    have HRR : Hid (Boxed ((((W.setCell ⟨w.heap.size + 1, 0, none⟩ (.string s)).setCell ⟨w.heap.size + 1 + 1, 0, none⟩ (.string ⟨#[]⟩)).setCell ⟨w.heap.size + 1 + 1, 1, none⟩ (.slice none 0 0)).setCell ⟨w.heap.size + 1 + 1, 2, none⟩ (.slice none 0 0)) (w.heap.size + 1) 9 (.string s)) := Lib.hid (Blk.far (Blk.far (Blk.far (hR.set _) (by simp) _) (by simp) _) (by simp) _)
    have HBB : Hid (Below w.heap.size w ((((W.setCell ⟨w.heap.size + 1, 0, none⟩ (.string s)).setCell ⟨w.heap.size + 1 + 1, 0, none⟩ (.string ⟨#[]⟩)).setCell ⟨w.heap.size + 1 + 1, 1, none⟩ (.slice none 0 0)).setCell ⟨w.heap.size + 1 + 1, 2, none⟩ (.slice none 0 0))) := Lib.hid (below3 (hB.setCell (p := ⟨w.heap.size + 1, 0, none⟩) (by show w.heap.size ≤ w.heap.size + 1; omega) _) (by omega) _ _ _)
    have HKK : Hid ((((((W.setCell ⟨w.heap.size + 1, 0, none⟩ (.string s)).setCell ⟨w.heap.size + 1 + 1, 0, none⟩ (.string ⟨#[]⟩)).setCell ⟨w.heap.size + 1 + 1, 1, none⟩ (.slice none 0 0)).setCell ⟨w.heap.size + 1 + 1, 2, none⟩ (.slice none 0 0))).heap[D]? = some (.deferred (some []))) := Lib.hid (((((KeepsOthers.setCell W ⟨w.heap.size + 1, 0, none⟩ (.string s)).trans (KeepsOthers.setCell _ ⟨w.heap.size + 1 + 1, 0, none⟩ (.string ⟨#[]⟩))).trans (KeepsOthers.setCell _ ⟨w.heap.size + 1 + 1, 1, none⟩ (.slice none 0 0))).trans (KeepsOthers.setCell _ ⟨w.heap.size + 1 + 1, 2, none⟩ (.slice none 0 0))).same D _ hK rfl)
    gi_wp2_with fail
    refine ⟨by simp, .inl ⟨_, _, rfl, run_takeDeferred HKK.out, ?_⟩⟩
    generalize ((((W.setCell ⟨w.heap.size + 1, 0, none⟩ (.string s)).setCell ⟨w.heap.size + 1 + 1, 0, none⟩ (.string ⟨#[]⟩)).setCell ⟨w.heap.size + 1 + 1, 1, none⟩ (.slice none 0 0)).setCell ⟨w.heap.size + 1 + 1, 2, none⟩ (.slice none 0 0)) = WW at *
    have c0 := cell_kept HRR.out.cell (grownBy_putObj' _ D (.deferred none)) (fun r e => by cases e; exact ⟨_, HKK.out, rfl⟩)
    have c1 := cell_kept (HX.out.cell 0) (grownBy_putObj' _ D (.deferred none)) (fun r e => by cases e; exact ⟨_, HKK.out, rfl⟩)
    have c2 := cell_kept (HX.out.cell 1) (grownBy_putObj' _ D (.deferred none)) (fun r e => by cases e; exact ⟨_, HKK.out, rfl⟩)
    have c3 := cell_kept (HX.out.cell 2) (grownBy_putObj' _ D (.deferred none)) (fun r e => by cases e; exact ⟨_, HKK.out, rfl⟩)
    have hR' := HE.out
    subst hR'
    refine ⟨.tuple #[.string s, .agg #[.string ⟨#[]⟩, .slice none 0 0, .slice none 0 0]], by simp [results, Tryz.results104, go_sem, c0, c1, c2, c3], ⟨_, _, rfl, ownA_empty _ _ (Nat.le_trans HBB.out.size (grownBy_putObj' _ D _).size), ?_⟩⟩
    exact HBB.out.trans (belowK_b (w := w) (Nat.le_refl _) _ D _ _ (by omega) HKK.out rfl rfl)
  case stop =>
    rintro D q pre W hD hpre ⟨⟨rfl, pr, x, rfl, hg, hx⟩, ⟨hR, vC, vP, hA, hO⟩, hB⟩ hK
    rw [List.map_append] at hpre
    obtain ⟨hp1, hp2⟩ := pre_snoc hpre
    have HE := Lib.hid (HSo.out x.1 hp2 (fun j hj => by
      have : j ∈ pr.map Fin.val := by rw [hp1]; exact List.mem_range.2 hj
      obtain ⟨y, hy, rfl⟩ := List.mem_map.1 this
      exact hg y hy) hx)
    rw [lastN_snoc] at hR hA hO
    clear hg hx hpre hp1
    generalize mk (trimS ((bytesL s).take x.1)) = T at *
    generalize (parseL s (x.1 : Nat)).1 = a at *
    gi_wp2_with fail
    refine ⟨by simp, .inl ⟨_, _, rfl, run_takeDeferred hK, ?_⟩⟩
    have c0 := cell_kept hR.cell (grownBy_putObj' _ D (.deferred none)) (fun r e => by cases e; exact ⟨_, hK, rfl⟩)
    have c1 := cell_kept (hA.cell 0) (grownBy_putObj' _ D (.deferred none)) (fun r e => by cases e; exact ⟨_, hK, rfl⟩)
    have c2 := cell_kept (hA.cell 1) (grownBy_putObj' _ D (.deferred none)) (fun r e => by cases e; exact ⟨_, hK, rfl⟩)
    have c3 := cell_kept (hA.cell 2) (grownBy_putObj' _ D (.deferred none)) (fun r e => by cases e; exact ⟨_, hK, rfl⟩)
    have hR' := HE.out
    subst hR'
    refine ⟨.tuple #[.string T, .agg #[.string a.id, vC, vP]], by simp [results, Tryz.results104, go_sem, c0, c1, c2, c3], ⟨vC, vP, rfl, ⟨ownsRow_putObj hO.cls (.deferred none) hK rfl, ownsRow_putObj hO.prs (.deferred none) hK rfl, ?_, hO.c32, hO.p32⟩, ?_⟩⟩
    · exact Nat.le_trans hO.le (grownBy_putObj' W D _).size
    · exact hB.trans (belowK_b (w := w) (Nat.le_refl _) _ D _ _ (by omega) hK rfl rfl)

end Go.Proofs.YtpoafhgbhnblmaaGreatDoor
namespace Go.Proofs.YtpoafhgbhnblmaaGreatDoor
open Go.RowKit Go.Pub
theorem grown11 (W : World) (g : Nat) (y0 y1 y2 y3 y4 y5 y6 y7 y8 y9 y10 : Value) : W.grownBy (((((((((((W.setCell ⟨g, 0, none⟩ y0).setCell ⟨g, 1, none⟩ y1).setCell ⟨g, 2, none⟩ y2).setCell ⟨g, 3, none⟩ y3).setCell ⟨g, 4, none⟩ y4).setCell ⟨g, 5, none⟩ y5).setCell ⟨g, 6, none⟩ y6).setCell ⟨g, 7, none⟩ y7).setCell ⟨g, 8, none⟩ y8).setCell ⟨g, 9, none⟩ y9).setCell ⟨g, 10, none⟩ y10) (some g) :=
  (only_store (only_store (only_store (only_store (only_store (only_store (only_store (only_store (only_store (only_store (only_store (only_refl W (some g)) 0 y0) 1 y1) 2 y2) 3 y3) 4 y4) 5 y5) 6 y6) 7 y7) 8 y8) 9 y9) 10 y10)
theorem ownA_far {W W' : World} {base g : Nat} {a : AttrL} {vC vP : Value} (h : OwnA W base a vC vP) (hg : W.grownBy W' (some g)) (hlt : g < base) : OwnA W' base a vC vP :=
  ⟨own_only h.cls hg hlt, own_only h.prs hg hlt, Nat.le_trans h.le hg.size, h.c32, h.p32⟩
theorem ownA_low {W : World} {base base' : Nat} {a : AttrL} {vC vP : Value} (h : OwnA W base a vC vP) (hb : base' ≤ base) : OwnA W base' a vC vP :=
  ⟨own_base h.cls hb, own_base h.prs hb, Nat.le_trans hb h.le, h.c32, h.p32⟩
theorem mkVal_own {W : World} {base : Nat} {m : MkL} {vC vP : Value} (h : OwnA W base m.att vC vP) : MkVal W base (.agg (m.cells vC vP)) m := ⟨_, _, rfl, h⟩
theorem trim_tl (X : ByteArray) (h : spB X = true) : trimS (bytesL (tl1 X)) = trimS (bytesL X) := by
  have e : bytesL (tl1 X) = (bytesL X).drop 1 := by
    unfold tl1
    rw [extract_drop, bytesL_mk']; rfl
  rw [e]
  rcases Nat.eq_zero_or_pos X.size with h0 | h0
  · rw [(size_nil X).1 h0]; rfl
  · have hb : bt X 0 = 32 := by
      unfold spB at h
      rw [decide_eq_false (by omega)] at h
      simpa using h
    have := sfx_cons X 0 h0
    have e0 : sfx X 0 = bytesL X := by unfold sfx; rfl
    rw [e0] at this
    rw [this, (g32 X 0).2 hb]
    unfold trimS
    rw [trimF_sp]; rfl
def headM (c : ByteArray) : Option MkL :=
  if 1 ≤ firstN c (· != 35) ∧ firstN c (· != 35) ≤ 6 then (if spB (c.extract (firstN c (· != 35)) c.size) = true then some { kind := 2, n := firstN c (· != 35), rest := (attrEndR (mk (trimS (sfx c (firstN c (· != 35)))))).1, att := (attrEndR (mk (trimS (sfx c (firstN c (· != 35)))))).2 } else none) else none
set_option maxRecDepth 100000 in
set_option maxHeartbeats 2000000 in
theorem m_head (c : ByteArray) (ind : Nat) (w : World) (hs : c.size ≤ 1000000) (h0 : 0 < c.size) : Calls Tryz.prog 59 #[.string c, .int .i64 ind] w (RdPost (headM c) w) := by
  have hnl := firstN_le c (· != 35)
  have HRn : Hid (∀ W, Calls Tryz.prog 102 #[.string c, .int .u8 35] W fun e w' => e = .returned (.int .i64 (firstN c (· != 35))) ∧ Below W.heap.size W w') := Lib.hid fun W => m_run c 35 (by omega) W hs
  have HR : Hid (headM c = if 1 ≤ firstN c (· != 35) ∧ firstN c (· != 35) ≤ 6 then (if spB (c.extract (firstN c (· != 35)) c.size) = true then some { kind := 2, n := firstN c (· != 35), rest := (attrEndR (mk (trimS (sfx c (firstN c (· != 35)))))).1, att := (attrEndR (mk (trimS (sfx c (firstN c (· != 35)))))).2 } else none) else none) := Lib.hid rfl
  generalize headM c = R at *
  generalize firstN c (· != 35) = n at *
  have hxs : (c.extract n c.size).size ≤ 1000000 := by rw [ByteArray.size_extract]; omega
  have HAf := Lib.hid fun W => m_after (c.extract n c.size) W hxs
  have htl := tl1_size (c.extract n c.size)
  have HX := Lib.hid (extract_drop c n)
  have HTr : Hid (spB (c.extract n c.size) = true → ∀ W, Calls Tryz.prog 105 #[.string (tl1 (c.extract n c.size))] W fun e w' => e = .returned (.string (mk (trimS (sfx c n)))) ∧ W = w') := Lib.hid fun hsp W => by
    have h := t_trim (tl1 (c.extract n c.size)) W (by omega)
    rw [trim_tl _ hsp, HX.out, bytesL_mk', ← HX.out] at h
    exact h
  have htz : (mk (trimS (sfx c n))).size ≤ 1000000 := by rw [mk_size]; have := trimS_len (sfx c n); rw [sfx_len] at this; omega
  have HAE := Lib.hid fun W => m_attrEnd (mk (trimS (sfx c n))) W htz
  clear HX htl
  generalize attrEndR (mk (trimS (sfx c n))) = AE at *
  generalize mk (trimS (sfx c n)) = T at *
  generalize tl1 (c.extract n c.size) = Y at *
  generalize spB (c.extract n c.size) = q at *
  by_cases h1 : n < 1
  · have HF : Hid (R = none) := Lib.hid (by rw [HR.out, if_neg (by omega)])
    have d1 : decide ((n : Int) < 1) = true := decide_eq_true (by omega)
    have d2 : decide (n < 1) = true := decide_eq_true h1
    have d3 : decide (n = 0) = true := decide_eq_true (by omega)
    clear HR
    go_enter Tryz.func59, Tryz.ntmps59
    go_wp2_with fail
    ((with_reducible refine (HRn.out _).mono ?_))
    rintro e w' ⟨rfl, b1⟩
    obtain ⟨HZ, HB⟩ := zw_after b1
    obtain ⟨k0, k1, k2, k3, k4, k5, k6, k7, k8, k9, k10, y0, y1, y2, y3, y4, y5, y6, y7, y8, y9, y10⟩ := ZM.facts HZ
    go_wp2_with fail
    exact head_ret (blk11 HZ _ _ _ _ _ _ _ _ _ _ _) rfl rfl rfl (rd_none HF.out ⟨_, _, _, _, _, _, _, _, _, _, _, _, _, _, _, rfl⟩ (below11 HB (Nat.le_refl _) _ _ _ _ _ _ _ _ _ _ _))
  have d1 : decide ((n : Int) < 1) = false := decide_eq_false (by omega)
  have d2 : decide (n < 1) = false := decide_eq_false h1
  have d3 : decide (n = 0) = false := decide_eq_false (by omega)
  by_cases h6 : 6 < n
  · have HF : Hid (R = none) := Lib.hid (by rw [HR.out, if_neg (by omega)])
    have d4 : decide (6 < (n : Int)) = true := decide_eq_true (by omega)
    have d5 : decide (6 < n) = true := decide_eq_true h6
    clear HR
    go_enter Tryz.func59, Tryz.ntmps59
    go_wp2_with fail
    ((with_reducible refine (HRn.out _).mono ?_))
    rintro e w' ⟨rfl, b1⟩
    obtain ⟨HZ, HB⟩ := zw_after b1
    obtain ⟨k0, k1, k2, k3, k4, k5, k6, k7, k8, k9, k10, y0, y1, y2, y3, y4, y5, y6, y7, y8, y9, y10⟩ := ZM.facts HZ
    go_wp2_with fail
    exact head_ret (blk11 HZ _ _ _ _ _ _ _ _ _ _ _) rfl rfl rfl (rd_none HF.out ⟨_, _, _, _, _, _, _, _, _, _, _, _, _, _, _, rfl⟩ (below11 HB (Nat.le_refl _) _ _ _ _ _ _ _ _ _ _ _))
  have d4 : decide (6 < (n : Int)) = false := decide_eq_false (by omega)
  have d5 : decide (6 < n) = false := decide_eq_false h6
  have HF : Hid (R = if q = true then some { kind := 2, n := n, rest := AE.1, att := AE.2 } else none) := Lib.hid (by rw [HR.out, if_pos (by omega)])
  clear HR
  cases q
  · have HF2 : Hid (R = none) := Lib.hid (by rw [HF.out]; rfl)
    clear HF
    go_enter Tryz.func59, Tryz.ntmps59
    go_wp2_with fail
    ((with_reducible refine (HRn.out _).mono ?_))
    rintro e w' ⟨rfl, b1⟩
    obtain ⟨HZ1, HB1⟩ := zw_after b1
    clear b1
    go_wp2_with fail
    ((with_reducible refine (HAf.out _).mono ?_))
    rintro e w2 ⟨rfl, b2⟩
    have HZ := ZM.below HZ1 b2
    have HB := HB1.trans (b2.mono HB1.size)
    clear HZ1 HB1 b2
    obtain ⟨k0, k1, k2, k3, k4, k5, k6, k7, k8, k9, k10, y0, y1, y2, y3, y4, y5, y6, y7, y8, y9, y10⟩ := ZM.facts HZ
    go_wp2_with fail
    exact head_ret (blk11 HZ _ _ _ _ _ _ _ _ _ _ _) rfl rfl rfl (rd_none HF2.out ⟨_, _, _, _, _, _, _, _, _, _, _, _, _, _, _, rfl⟩ (below11 HB (Nat.le_refl _) _ _ _ _ _ _ _ _ _ _ _))
  · have HF2 : Hid (R = some { kind := 2, n := n, rest := AE.1, att := AE.2 }) := Lib.hid (by rw [HF.out]; rfl)
    have HTr2 := Lib.hid (HTr.out rfl)
    clear HF HTr
    obtain ⟨er, ea⟩ := AE
    simp only at HF2
    go_enter Tryz.func59, Tryz.ntmps59
    go_wp2_with fail
    ((with_reducible refine (HRn.out _).mono ?_))
    rintro e w' ⟨rfl, b1⟩
    obtain ⟨HZ1, HB1⟩ := zw_after b1
    clear b1
    go_wp2_with fail
    ((with_reducible refine (HAf.out _).mono ?_))
    rintro e w2 ⟨rfl, b2⟩
    have HZ2 := ZM.below HZ1 b2
    have HB2 := HB1.trans (b2.mono HB1.size)
    clear HZ1 HB1 b2
    go_wp2_with fail
    ((with_reducible refine (HTr2.out _).mono ?_))
    rintro e w0 ⟨rfl, rfl⟩
    go_wp2_with fail
    ((with_reducible refine (HAE.out _).mono ?_))
    rintro e w3 ⟨vC, vP, rfl, hO, b3⟩
    obtain ⟨qA, qc, rfl⟩ := own_slice hO.cls
    obtain ⟨qD, qd, rfl⟩ := own_slice hO.prs
    simp only at hO
    have HZ3 : ZM (w3.alloc (.cells #[.string ea.id, .slice qA ea.cl.length qc, .slice qD ea.pr.length qd] 43)) w.heap.size := Blk.alloc (ZM.below HZ2 b3) _
    have HB3 := (HB2.trans (b3.mono HB2.size)).alloc (Nat.le_trans HB2.size b3.size) (.cells #[.string ea.id, .slice qA ea.cl.length qc, .slice qD ea.pr.length qd] 43)
    have HO3 : Hid (OwnA (w3.alloc (.cells #[.string ea.id, .slice qA ea.cl.length qc, .slice qD ea.pr.length qd] 43)) w2.heap.size ea (.slice qA ea.cl.length qc) (.slice qD ea.pr.length qd)) := Lib.hid (hO.below ((Below.refl _ _).alloc (Nat.le_refl _) _))
    have hlt : w.heap.size < w2.heap.size := HZ2.lt
    have HBn := Blk.new w3 43 #[.string ea.id, .slice qA ea.cl.length qc, .slice qD ea.pr.length qd]
    have e0 := HBn.cell 0
    have e1 := HBn.cell 1
    have e2 := HBn.cell 2
    clear HZ2 hO b3 HBn
    obtain ⟨k0, k1, k2, k3, k4, k5, k6, k7, k8, k9, k10, y0, y1, y2, y3, y4, y5, y6, y7, y8, y9, y10⟩ := ZM.facts HZ3
    go_wp2_with fail
    refine head_ret (blk11 HZ3 _ _ _ _ _ _ _ _ _ _ _) rfl rfl rfl (rd_some HF2.out (mkVal_own (m := { kind := 2, n := n, rest := er, att := ea }) ?_) (below11 HB3 (Nat.le_refl _) _ _ _ _ _ _ _ _ _ _ _))
    exact ownA_low (ownA_far HO3.out (grown11 _ _ _ _ _ _ _ _ _ _ _ _ _) hlt) HB2.size

end Go.Proofs.YtpoafhgbhnblmaaGreatDoor
namespace Go.Pub
open Go Go.RowKit
theorem Blk.drew {w : World} {g : Nat} {t : TypeId} {cs : Array Value} (h : Blk w g t cs) : Blk w.drew g t cs := h
theorem blk_kept {W : World} {g D : Nat} {t : TypeId} {cs : Array Value} {o : Obj} (h : Blk W g t cs) (hK : W.heap[D]? = some (.deferred (some []))) : Blk (W.putObj D o) g t cs :=
  Blk.grown h (grownBy_putObj' W D o) (fun e => by cases e; unfold Blk at h; rw [h] at hK; cases hK)
end Go.Pub
namespace Go.Proofs.YtpoafhgbhnblmaaGreatDoor
open Go.RowKit Go.Pub Go.Shelf
attribute [local go_sem] Oper.semAt_some
def ruleOk (c : ByteArray) (j : Nat) : Bool := bt c j == bt c 0 || bt c j == 32
def ruleAll (c : ByteArray) : Bool := (List.range c.size).all (ruleOk c)
def ruleCnt (c : ByteArray) (k : Nat) : Nat := ((List.range k).filter fun j => bt c j == bt c 0).length
def ruleM (c : ByteArray) : Option MkL :=
  if (bt c 0 = 45 ∨ bt c 0 = 42 ∨ bt c 0 = 95) ∧ ruleAll c = true then (if decide (3 ≤ ruleCnt c c.size) = true then some { kind := 3, ch := c.extract 0 1 } else none) else none
def cntF (c : ByteArray) {n : Nat} (l : List (Fin n)) : Nat := (l.filter fun j => bt c j.1 == bt c 0).length
theorem cntF_le (c : ByteArray) {n : Nat} (l : List (Fin n)) : cntF c l ≤ l.length := List.length_filter_le _ _
theorem cntF_all (c : ByteArray) (l : List (Fin c.size)) (h : l.map Fin.val = List.range c.size) : cntF c l = ruleCnt c c.size := by
  unfold ruleCnt cntF
  rw [← h, List.filter_map, List.length_map]
  rfl
theorem cntF_snoc (c : ByteArray) {n : Nat} (l : List (Fin n)) (x : Fin n) : cntF c (l ++ [x]) = cntF c l + if bt c x.1 = bt c 0 then 1 else 0 := by
  unfold cntF
  rw [List.filter_append, List.length_append]
  by_cases h : bt c x.1 = bt c 0
  · rw [if_pos h, List.filter_cons_of_pos (by rw [beq_iff_eq]; exact h)]; rfl
  · rw [if_neg h, List.filter_cons_of_neg (by rw [beq_iff_eq]; exact h)]; rfl
/-- The world in which a rule's bytes are counted. -/
structure RuleW (c : ByteArray) (w W : World) : Prop where
  zm : ZM W w.heap.size
  b1 : Boxed W (w.heap.size + 1) 4 (.bool false)
  b2 : Boxed W (w.heap.size + 1 + 1) 5 (.int .u8 (bt c 0))
  sz : W.heap.size = w.heap.size + 3
  bel : Below w.heap.size w W
theorem ruleW_start (c : ByteArray) (w : World) : RuleW c w (((zw w).alloc (.cells #[.bool false] 4)).alloc (.cells #[.int .u8 (bt c 0)] 5)) := by
  refine ⟨Blk.alloc (Blk.alloc (zw_zm w) _) _, ?_, ?_, by simp [zw_size], ((zw_below w).alloc (zw_below w).size _).alloc (by simp; have := (zw_below w).size; omega) _⟩
  · have := (Boxed.new (zw w) 4 (.bool false)).alloc (.cells #[.int .u8 (bt c 0)] 5)
    rw [zw_size] at this
    exact this
  · have := Boxed.new ((zw w).alloc (.cells #[.bool false] 4)) 5 (.int .u8 (bt c 0))
    rw [World.size_alloc, zw_size] at this
    exact this
set_option maxRecDepth 100000 in
set_option maxHeartbeats 8000000 in
theorem m_rule (c : ByteArray) (ind : Nat) (w : World) (hs : c.size ≤ 1000000) (h0 : 0 < c.size) : Calls Tryz.prog 60 #[.string c, .int .i64 ind] w (RdPost (ruleM c) w) := by
  have HP := Lib.hid fun W => characters_any c W
  have hg := get_bt c 0 h0
  have HR : Hid (ruleM c = if (bt c 0 = 45 ∨ bt c 0 = 42 ∨ bt c 0 = 95) ∧ ruleAll c = true then (if decide (3 ≤ ruleCnt c c.size) = true then some { kind := 3, ch := c.extract 0 1 } else none) else none) := Lib.hid rfl
  generalize ruleM c = R at *
  by_cases hq : bt c 0 = 45 ∨ bt c 0 = 42 ∨ bt c 0 = 95
  case neg =>
    have z1 : (((bt c 0 : Nat) : Int) != 45) = true := by rw [bne_iff_ne]; omega
    have z2 : (((bt c 0 : Nat) : Int) != 42) = true := by rw [bne_iff_ne]; omega
    have z3 : (((bt c 0 : Nat) : Int) != 95) = true := by rw [bne_iff_ne]; omega
    have HF : Hid (R = none) := Lib.hid (by rw [HR.out, if_neg (fun h => hq h.1)])
    clear HR hq
    go_enter Tryz.func60, Tryz.ntmps60
    go_wp2_with fail
    exact rule_ret (q := ⟨w.heap.size + 1, 0, none⟩) (ruleW_start c w).zm rfl rfl (ruleW_start c w).b1.cell rfl (rd_none HF.out ⟨_, _, _, _, _, _, _, _, _, _, _, _, _, _, _, rfl⟩ (ruleW_start c w).bel)
  have HR2 : Hid (R = if ruleAll c = true then (if decide (3 ≤ ruleCnt c c.size) = true then some { kind := 3, ch := c.extract 0 1 } else none) else none) := Lib.hid (by
    rw [HR.out]
    by_cases h : ruleAll c = true
    · rw [if_pos h, if_pos ⟨hq, h⟩]
    · rw [if_neg h, if_neg (fun e => h e.2)])
  have HQ := Lib.hid hq
  clear HR hq
  refine (callsIn_wide (n := 5)).1 ?_
  refine callsIn_of_wp_marks Tryz.func60 rfl trivial ?_ rfl
  simp only [Tryz.ntmps60, List.size_toArray, List.length_cons, List.length_nil, Nat.reduceAdd, Nat.reduceSub, Array.replicate_succ, Array.replicate_zero, List.push_toArray, List.append_toArray, List.nil_append, List.cons_append]
  refine wpIn_wide.2 ?_
  go_upto_region 2 with fail
  go_cut [21] from 12 to 21 (fun s21 wx => s21 = .bool false ∧ RuleW c w wx)
  case first =>
    have hW : RuleW c w (((zw w).alloc (.cells #[.bool false] 4)).alloc (.cells #[.int .u8 (bt c 0)] 5)) := ruleW_start c w
    rcases HQ.out with h | h | h
    · have z1 : (((bt c 0 : Nat) : Int) != 45) = false := by rw [h]; rfl
      clear h
      go_wp2_with fail
      go_meet
      exact ⟨rfl, hW⟩
    · have z1 : (((bt c 0 : Nat) : Int) != 45) = true := by rw [h]; rfl
      have z2 : (((bt c 0 : Nat) : Int) != 42) = false := by rw [h]; rfl
      clear h
      go_wp2_with fail
      go_meet
      exact ⟨rfl, hW⟩
    · have z1 : (((bt c 0 : Nat) : Int) != 45) = true := by rw [h]; rfl
      have z2 : (((bt c 0 : Nat) : Int) != 42) = true := by rw [h]; rfl
      have z3 : (((bt c 0 : Nat) : Int) != 95) = false := by rw [h]; rfl
      clear h
      go_wp2_with fail
      go_meet
      exact ⟨rfl, hW⟩
  case rest =>
  obtain ⟨rfl, HW⟩ := hcut
  have hsz := HW.sz
  go_wp2_with fail
  ((with_reducible refine (HP.out _).mono ?_))
  rintro e w' ⟨rfl, rfl⟩
  go_wp2_with fail
  refine (wpIn_wide (n := 5)).1 ?_
  have hZ : ZM ((wc.alloc (.cells #[.int .i64 0] 3)).alloc (.cells #[.string c] 9)) w.heap.size := Blk.alloc (Blk.alloc HW.zm _) _
  have hF : Boxed ((wc.alloc (.cells #[.int .i64 0] 3)).alloc (.cells #[.string c] 9)) (w.heap.size + 1) 4 (.bool false) := (HW.b1.alloc _).alloc _
  have hC : Boxed ((wc.alloc (.cells #[.int .i64 0] 3)).alloc (.cells #[.string c] 9)) (w.heap.size + 1 + 1) 5 (.int .u8 (bt c 0)) := (HW.b2.alloc _).alloc _
  have hN : Boxed ((wc.alloc (.cells #[.int .i64 0] 3)).alloc (.cells #[.string c] 9)) (w.heap.size + 3) 3 (.int .i64 0) := by
    have := (Boxed.new wc 3 (.int .i64 0)).alloc (.cells #[.string c] 9)
    rw [hsz] at this
    exact this
  have hS : Boxed ((wc.alloc (.cells #[.int .i64 0] 3)).alloc (.cells #[.string c] 9)) (w.heap.size + 3 + 1) 9 (.string c) := by
    have := Boxed.new (wc.alloc (.cells #[.int .i64 0] 3)) 9 (.string c)
    rw [World.size_alloc, hsz] at this
    exact this
  have hB0 : Below w.heap.size w ((wc.alloc (.cells #[.int .i64 0] 3)).alloc (.cells #[.string c] 9)) := (HW.bel.alloc HW.bel.size _).alloc (by simp; have := HW.bel.size; omega) _
  have hz5 : ((wc.alloc (.cells #[.int .i64 0] 3)).alloc (.cells #[.string c] 9)).heap.size = w.heap.size + 5 := by simp [hsz]
  generalize ((wc.alloc (.cells #[.int .i64 0] 3)).alloc (.cells #[.string c] 9)) = W0 at *
  clear HW hsz HQ hg
  have hmx : Tryz.prog.follows .mixedOrders = true := by kernel_rfl
  refine wpIn_rangeFunc_ownG rfl (by omega) (gf := 163) (lb := #[.pointer (some ⟨w.heap.size + 3 + 1, 0, none⟩)]) rfl trivial (enters_of Tryz.func163 (by kernel_rfl) rfl)
    (chars_stops 4 (by omega) (w.heap.size + 3 + 1) c hs _ hS) (Kp := KpB (w.heap.size + 3 + 1)) (fun h1 h2 => h2.trans h1) (fun W l o o' hl ho hc _ => World.putObj_heap_other (fun e => by omega)) (Below.refl _ _) (fun _ => rfl)
    (fun (pre : List (Fin c.size)) W => (Boxed W (w.heap.size + 1 + 1) 5 (.int .u8 (bt c 0)) ∧ Boxed W (w.heap.size + 3 + 1) 9 (.string c)) ∧ (ZM W w.heap.size ∧ Boxed W (w.heap.size + 1) 4 (.bool false)) ∧ (∀ j ∈ pre, ruleOk c j.1 = true) ∧ Boxed W (w.heap.size + 3) 3 (.int .i64 (cntF c pre : Nat)) ∧ Below w.heap.size w W)
    (fun q (pre : List (Fin c.size)) W => (q = Code.ret ∧ ∃ pr x, pre = pr ++ [x] ∧ ruleOk c x.1 = false) ∧ (ZM W w.heap.size ∧ Boxed W (w.heap.size + 1) 4 (.bool false)) ∧ Below w.heap.size w W)
    (OwnFrom.and (OwnFrom.and (Own.from (boxed_own _ _ (fun _ => .int .u8 (bt c 0))) _) (Own.from (boxed_own _ _ (fun _ => .string c)) _)) (OwnFrom.and (OwnFrom.and (Own.from (blk_own _ _ (fun _ => #[.int .i64 0, .int .i64 0, .string ⟨#[]⟩, .int .i64 0, .string ⟨#[]⟩, .string ⟨#[]⟩, .string ⟨#[]⟩, .string ⟨#[]⟩, .string ⟨#[]⟩, .slice none 0 0, .slice none 0 0])) _) (Own.from (boxed_own _ _ (fun _ => .bool false)) _)) (OwnFrom.and (ownFrom_pure _ _) (OwnFrom.and (Own.from (boxed_own _ _ (fun (pre : List (Fin c.size)) => .int .i64 (cntF c pre : Nat))) _) (ownFrom_below (Nat.le_refl _) (by omega))))))
    (fun q => OwnFrom.and (ownFrom_pure _ _) (OwnFrom.and (OwnFrom.and (Own.from (blk_own _ _ (fun _ => #[.int .i64 0, .int .i64 0, .string ⟨#[]⟩, .int .i64 0, .string ⟨#[]⟩, .string ⟨#[]⟩, .string ⟨#[]⟩, .string ⟨#[]⟩, .string ⟨#[]⟩, .slice none 0 0, .slice none 0 0])) _) (Own.from (boxed_own _ _ (fun _ => .bool false)) _)) (ownFrom_below (Nat.le_refl _) (by omega))))
    ⟨⟨hC, hS⟩, ⟨hZ, hF⟩, fun j h => absurd h (by simp), hN, hB0⟩
    (fun (x : Fin c.size) => { tmps := #[.string c, .int .i64 ind, undef, undef, .pointer (some ⟨w.heap.size, 0, none⟩), .pointer (some ⟨w.heap.size + 1, 0, none⟩), .pointer (some ⟨w.heap.size + 1 + 1, 0, none⟩), .pointer (some ⟨w.heap.size + 3, 0, none⟩), undef, .int .u8 (bt c x.1), .string c, .int .u8 (bt c 0), u12, u13, u14, u15, u16, u17, u18, u19, u20, .bool false, undef, .string c, .func (.func 163) #[] #[.pointer (some ⟨w.heap.size + 3 + 1, 0, none⟩)], .int .i64 (x.1 : Nat), .int .u8 (bt c x.1), undef, undef, undef, undef, undef, undef, undef, undef, undef, undef, undef, undef, undef, undef], defers := [] }) ?assign ?body ?done ?stop
  case assign =>
    intro l x W K hK
    gi_wp2_with fail
    exact hK
  case body =>
    rintro l pre x W ⟨⟨hC, hS⟩, ⟨hZ, hF⟩, hg, hN, hB⟩ hlt
    have HG := Lib.hid hg
    clear hg
    have c1 := hC.cell
    have n1 := hN.cell
    have n2 := hN.frozen
    have hcl := cntF_le c pre
    have hsn := cntF_snoc c pre x
    have NX : ruleOk c x.1 = true → ∀ j ∈ pre ++ [x], ruleOk c j.1 = true := fun h j hj => by
      rcases List.mem_append.1 hj with hj | hj
      · exact HG.out j hj
      · rw [List.mem_singleton] at hj; rw [hj]; exact h
    by_cases hx : bt c x.1 = bt c 0
    · have d1 : (((bt c x.1 : Nat) : Int) == ((bt c 0 : Nat) : Int)) = true := by rw [beq_iff_eq]; omega
      have d2 : (bt c x.1 == bt c 0) = true := by rw [beq_iff_eq]; exact hx
      have HN' := Lib.hid (NX (by unfold ruleOk; rw [d2]; rfl))
      rw [if_pos hx] at hsn
      have HSN := Lib.hid hsn
      clear NX hx hsn
      generalize cntF c pre = n at *
      gi_wp2_with fail
      exact ⟨(KeepsOthers.setCell _ ⟨w.heap.size + 3, 0, none⟩ _).from _, Blk.far hS (by simp) _ |>.trans hS.symm, ⟨Blk.far hC (by simp) _, Blk.far hS (by simp) _⟩, ⟨Blk.far hZ (by simp) _, Blk.far hF (by simp) _⟩, HN'.out, by rw [HSN.out]; exact hN.set _, hB.setCell (p := ⟨w.heap.size + 3, 0, none⟩) (by show w.heap.size ≤ w.heap.size + 3; omega) _⟩
    · have d1 : (((bt c x.1 : Nat) : Int) == ((bt c 0 : Nat) : Int)) = false := by rw [beq_eq_false_iff_ne]; omega
      have d2 : (bt c x.1 == bt c 0) = false := by rw [beq_eq_false_iff_ne]; exact hx
      rw [if_neg hx, Nat.add_zero] at hsn
      have HSN := Lib.hid hsn
      clear hsn hx
      by_cases hsp : bt c x.1 = 32
      · have d3 : (((bt c x.1 : Nat) : Int) == 32) = true := by rw [hsp]; rfl
        have HN' := Lib.hid (NX (by unfold ruleOk; rw [hsp]; simp))
        clear NX hsp
        gi_wp2_with fail
        exact ⟨(KeepsOthers.refl _).from _, rfl, ⟨hC, hS⟩, ⟨hZ, hF⟩, HN'.out, by rw [HSN.out]; exact hN, hB⟩
      · have d3 : (((bt c x.1 : Nat) : Int) == 32) = false := by rw [beq_eq_false_iff_ne]; omega
        have HX : Hid (ruleOk c x.1 = false) := Lib.hid (by unfold ruleOk; rw [d2, Bool.false_or, beq_eq_false_iff_ne]; exact hsp)
        clear NX hsp
        have f1 := hF.cell
        have f2 := hF.frozen
        obtain ⟨k0, k1, k2, k3, k4, k5, k6, k7, k8, k9, k10, y0, y1, y2, y3, y4, y5, y6, y7, y8, y9, y10⟩ := ZM.facts hZ
        have hzz : Hid (ZM (((((((((((W.setCell ⟨w.heap.size, 0, none⟩ (.int .i64 0)).setCell ⟨w.heap.size, 1, none⟩ (.int .i64 0)).setCell ⟨w.heap.size, 2, none⟩ (.string ⟨#[]⟩)).setCell ⟨w.heap.size, 3, none⟩ (.int .i64 0)).setCell ⟨w.heap.size, 4, none⟩ (.string ⟨#[]⟩)).setCell ⟨w.heap.size, 5, none⟩ (.string ⟨#[]⟩)).setCell ⟨w.heap.size, 6, none⟩ (.string ⟨#[]⟩)).setCell ⟨w.heap.size, 7, none⟩ (.string ⟨#[]⟩)).setCell ⟨w.heap.size, 8, none⟩ (.string ⟨#[]⟩)).setCell ⟨w.heap.size, 9, none⟩ (.slice none 0 0)).setCell ⟨w.heap.size, 10, none⟩ (.slice none 0 0)) w.heap.size) := Lib.hid (blk11 hZ _ _ _ _ _ _ _ _ _ _ _)
        have hff : Boxed (((((((((((W.setCell ⟨w.heap.size, 0, none⟩ (.int .i64 0)).setCell ⟨w.heap.size, 1, none⟩ (.int .i64 0)).setCell ⟨w.heap.size, 2, none⟩ (.string ⟨#[]⟩)).setCell ⟨w.heap.size, 3, none⟩ (.int .i64 0)).setCell ⟨w.heap.size, 4, none⟩ (.string ⟨#[]⟩)).setCell ⟨w.heap.size, 5, none⟩ (.string ⟨#[]⟩)).setCell ⟨w.heap.size, 6, none⟩ (.string ⟨#[]⟩)).setCell ⟨w.heap.size, 7, none⟩ (.string ⟨#[]⟩)).setCell ⟨w.heap.size, 8, none⟩ (.string ⟨#[]⟩)).setCell ⟨w.heap.size, 9, none⟩ (.slice none 0 0)).setCell ⟨w.heap.size, 10, none⟩ (.slice none 0 0)) (w.heap.size + 1) 4 (.bool false) := hF.kept (grown11 W w.heap.size _ _ _ _ _ _ _ _ _ _ _) (by simp)
        have f1' := hff.cell
        have f2' := hff.frozen
        have hkk : KeepsOthers W (((((((((((W.setCell ⟨w.heap.size, 0, none⟩ (.int .i64 0)).setCell ⟨w.heap.size, 1, none⟩ (.int .i64 0)).setCell ⟨w.heap.size, 2, none⟩ (.string ⟨#[]⟩)).setCell ⟨w.heap.size, 3, none⟩ (.int .i64 0)).setCell ⟨w.heap.size, 4, none⟩ (.string ⟨#[]⟩)).setCell ⟨w.heap.size, 5, none⟩ (.string ⟨#[]⟩)).setCell ⟨w.heap.size, 6, none⟩ (.string ⟨#[]⟩)).setCell ⟨w.heap.size, 7, none⟩ (.string ⟨#[]⟩)).setCell ⟨w.heap.size, 8, none⟩ (.string ⟨#[]⟩)).setCell ⟨w.heap.size, 9, none⟩ (.slice none 0 0)).setCell ⟨w.heap.size, 10, none⟩ (.slice none 0 0)) := (((((((((((KeepsOthers.refl W).trans (KeepsOthers.setCell _ ⟨w.heap.size, 0, none⟩ (.int .i64 0))).trans (KeepsOthers.setCell _ ⟨w.heap.size, 1, none⟩ (.int .i64 0))).trans (KeepsOthers.setCell _ ⟨w.heap.size, 2, none⟩ (.string ⟨#[]⟩))).trans (KeepsOthers.setCell _ ⟨w.heap.size, 3, none⟩ (.int .i64 0))).trans (KeepsOthers.setCell _ ⟨w.heap.size, 4, none⟩ (.string ⟨#[]⟩))).trans (KeepsOthers.setCell _ ⟨w.heap.size, 5, none⟩ (.string ⟨#[]⟩))).trans (KeepsOthers.setCell _ ⟨w.heap.size, 6, none⟩ (.string ⟨#[]⟩))).trans (KeepsOthers.setCell _ ⟨w.heap.size, 7, none⟩ (.string ⟨#[]⟩))).trans (KeepsOthers.setCell _ ⟨w.heap.size, 8, none⟩ (.string ⟨#[]⟩))).trans (KeepsOthers.setCell _ ⟨w.heap.size, 9, none⟩ (.slice none 0 0))).trans (KeepsOthers.setCell _ ⟨w.heap.size, 10, none⟩ (.slice none 0 0))
        gi_wp2_with fail
        exact ⟨(hkk.trans (KeepsOthers.setCell _ ⟨w.heap.size + 1, 0, none⟩ _)).from _, ⟨rfl, pre, x, rfl, HX.out⟩, ⟨Blk.far hzz.out (by simp) _, hff.set _⟩, (below11 hB (Nat.le_refl _) _ _ _ _ _ _ _ _ _ _ _).setCell (p := ⟨w.heap.size + 1, 0, none⟩) (by show w.heap.size ≤ w.heap.size + 1; omega) _⟩
  case done =>
    rintro D ys W hD hys ⟨⟨hC, hS⟩, ⟨hZ, hF⟩, hg, hN, hB⟩ hK
    have hall : ruleAll c = true := by
      unfold ruleAll
      rw [List.all_eq_true]
      intro j hj
      rw [← hys] at hj
      obtain ⟨y, hy, rfl⟩ := List.mem_map.1 hj
      exact hg y hy
    rw [cntF_all c ys hys] at hN
    have hcl : ruleCnt c c.size ≤ c.size := by
      unfold ruleCnt
      have := List.length_filter_le (fun j => bt c j == bt c 0) (List.range c.size)
      rwa [List.length_range] at this
    have HE : Hid (R = if decide (3 ≤ ruleCnt c c.size) = true then some { kind := 3, ch := c.extract 0 1 } else none) := Lib.hid (by rw [HR2.out, if_pos hall])
    clear hall hg hys HR2
    generalize ruleCnt c c.size = n at *
    have hdn : decide (3 ≤ (n : Int)) = decide (3 ≤ n) := by rw [decide_eq_decide]; omega
    generalize decide (3 ≤ n) = q at *
    have h1i : (1 : Int) ≤ (c.size : Int) := by omega
    have n1 := hN.cell
    have f1 := hF.cell
    have f2 := hF.frozen
    obtain ⟨k0, k1, k2, k3, k4, k5, k6, k7, k8, k9, k10, y0, y1, y2, y3, y4, y5, y6, y7, y8, y9, y10⟩ := ZM.facts hZ
    go_wp2_with fail
    go_region_held3 (fun w' => w'.cell? ⟨w.heap.size + 3, 0, none⟩ = some (.int .i64 (n : Nat))) (go_keep) (fail)
    have hz1 := blk11 hZ (.int .i64 3) (.int .i64 0) (.string (c.extract 0 1)) (.int .i64 0) (.string ⟨#[]⟩) (.string ⟨#[]⟩) (.string ⟨#[]⟩) (.string ⟨#[]⟩) (.string ⟨#[]⟩) (.slice none 0 0) (.slice none 0 0)
    have hz3 := Blk.drew (Blk.far hz1 (p := ⟨w.heap.size + 1, 0, none⟩) (by simp) (.bool q))
    have hf1 := Blk.drew ((hF.kept (grown11 W w.heap.size (.int .i64 3) (.int .i64 0) (.string (c.extract 0 1)) (.int .i64 0) (.string ⟨#[]⟩) (.string ⟨#[]⟩) (.string ⟨#[]⟩) (.string ⟨#[]⟩) (.string ⟨#[]⟩) (.slice none 0 0) (.slice none 0 0)) (by simp)).set (.bool q))
    have hK3 := ((((((((((((((KeepsOthers.refl W).trans (KeepsOthers.setCell _ ⟨w.heap.size, 0, none⟩ (.int .i64 3))).trans (KeepsOthers.setCell _ ⟨w.heap.size, 1, none⟩ (.int .i64 0))).trans (KeepsOthers.setCell _ ⟨w.heap.size, 2, none⟩ (.string (c.extract 0 1)))).trans (KeepsOthers.setCell _ ⟨w.heap.size, 3, none⟩ (.int .i64 0))).trans (KeepsOthers.setCell _ ⟨w.heap.size, 4, none⟩ (.string ⟨#[]⟩))).trans (KeepsOthers.setCell _ ⟨w.heap.size, 5, none⟩ (.string ⟨#[]⟩))).trans (KeepsOthers.setCell _ ⟨w.heap.size, 6, none⟩ (.string ⟨#[]⟩))).trans (KeepsOthers.setCell _ ⟨w.heap.size, 7, none⟩ (.string ⟨#[]⟩))).trans (KeepsOthers.setCell _ ⟨w.heap.size, 8, none⟩ (.string ⟨#[]⟩))).trans (KeepsOthers.setCell _ ⟨w.heap.size, 9, none⟩ (.slice none 0 0))).trans (KeepsOthers.setCell _ ⟨w.heap.size, 10, none⟩ (.slice none 0 0))).trans (KeepsOthers.setCell _ ⟨w.heap.size + 1, 0, none⟩ (.bool q))).trans (KeepsOthers.drew _)).same D _ hK rfl
    have hb3 := Below.drew ((below11 hB (Nat.le_refl _) (.int .i64 3) (.int .i64 0) (.string (c.extract 0 1)) (.int .i64 0) (.string ⟨#[]⟩) (.string ⟨#[]⟩) (.string ⟨#[]⟩) (.string ⟨#[]⟩) (.string ⟨#[]⟩) (.slice none 0 0) (.slice none 0 0)).setCell (p := ⟨w.heap.size + 1, 0, none⟩) (by show w.heap.size ≤ w.heap.size + 1; omega) (.bool q))
    clear n1 f1 f2 k0 k1 k2 k3 k4 k5 k6 k7 k8 k9 k10 y0 y1 y2 y3 y4 y5 y6 y7 y8 y9 y10 hZ hF hN hK hdn
    go_wp2_with fail
    generalize ((((((((((((W.setCell ⟨w.heap.size, 0, none⟩ (.int .i64 3)).setCell ⟨w.heap.size, 1, none⟩ (.int .i64 0)).setCell ⟨w.heap.size, 2, none⟩ (.string (c.extract 0 1))).setCell ⟨w.heap.size, 3, none⟩ (.int .i64 0)).setCell ⟨w.heap.size, 4, none⟩ (.string ⟨#[]⟩)).setCell ⟨w.heap.size, 5, none⟩ (.string ⟨#[]⟩)).setCell ⟨w.heap.size, 6, none⟩ (.string ⟨#[]⟩)).setCell ⟨w.heap.size, 7, none⟩ (.string ⟨#[]⟩)).setCell ⟨w.heap.size, 8, none⟩ (.string ⟨#[]⟩)).setCell ⟨w.heap.size, 9, none⟩ (.slice none 0 0)).setCell ⟨w.heap.size, 10, none⟩ (.slice none 0 0)).setCell ⟨w.heap.size + 1, 0, none⟩ (.bool q)).drew = W9 at *
    refine ⟨by simp, .inl ⟨_, _, rfl, run_takeDeferred hK3, ?_⟩⟩
    have hzk := blk_kept (o := .deferred none) hz3 hK3
    have hfk := blk_kept (o := .deferred none) hf1 hK3
    have b0 := hfk.cell 0
    obtain ⟨k0, k1, k2, k3, k4, k5, k6, k7, k8, k9, k10, y0, y1, y2, y3, y4, y5, y6, y7, y8, y9, y10⟩ := mk_facts hzk
    have hbb := hb3.trans (belowK_b (w := w) (Nat.le_refl _) _ D _ (.deferred none) (by omega) hK3 rfl rfl)
    refine ⟨.tuple #[.agg #[.int .i64 3, .int .i64 0, .string (c.extract 0 1), .int .i64 0, .string ⟨#[]⟩, .string ⟨#[]⟩, .string ⟨#[]⟩, .string ⟨#[]⟩, .string ⟨#[]⟩, .slice none 0 0, .slice none 0 0], .bool q], by simp [results, Tryz.results60, go_sem, b0, k0, k1, k2, k3, k4, k5, k6, k7, k8, k9, k10], rd_if HE.out (mkVal_plain (m := { kind := 3, ch := c.extract 0 1 }) rfl hbb.size) hbb⟩
  case stop =>
    rintro D q pre W hD hpre ⟨⟨rfl, pr, x, rfl, hx⟩, ⟨hZ, hF⟩, hB⟩ hK
    have HE : Hid (R = none) := Lib.hid (by
      rw [HR2.out, if_neg]
      intro h
      have := List.all_eq_true.1 h x.1 (List.mem_range.2 x.2)
      rw [hx] at this
      cases this)
    clear hx hpre HR2
    gi_wp2_with fail
    refine ⟨by simp, .inl ⟨_, _, rfl, run_takeDeferred hK, ?_⟩⟩
    have hzk := blk_kept (o := .deferred none) hZ hK
    have hfk := blk_kept (o := .deferred none) (t := 4) (cs := #[.bool false]) hF hK
    have b0 := hfk.cell 0
    obtain ⟨k0, k1, k2, k3, k4, k5, k6, k7, k8, k9, k10, y0, y1, y2, y3, y4, y5, y6, y7, y8, y9, y10⟩ := ZM.facts hzk
    refine ⟨.tuple #[.agg #[.int .i64 0, .int .i64 0, .string ⟨#[]⟩, .int .i64 0, .string ⟨#[]⟩, .string ⟨#[]⟩, .string ⟨#[]⟩, .string ⟨#[]⟩, .string ⟨#[]⟩, .slice none 0 0, .slice none 0 0], .bool false], by simp [results, Tryz.results60, go_sem, b0, k0, k1, k2, k3, k4, k5, k6, k7, k8, k9, k10], rd_none HE.out ⟨_, _, _, _, _, _, _, _, _, _, _, _, _, _, _, rfl⟩ ?_⟩
    exact hB.trans (belowK_b (w := w) (Nat.le_refl _) _ D _ _ (by omega) hK rfl rfl)

end Go.Proofs.YtpoafhgbhnblmaaGreatDoor
namespace Go.Proofs.YtpoafhgbhnblmaaGreatDoor
open Go.RowKit Go.Pub Go.Shelf
attribute [local go_sem] Oper.semAt_some
def digN (n : Nat) : Bool := decide (48 ≤ n) && decide (n ≤ 57)
def numDig (c : ByteArray) : Nat := firstN c (fun b => !digN b)
def numVal (c : ByteArray) (k : Nat) : Nat := (List.range k).foldl (fun a j => 10 * a + (bt c j - 48)) 0
/-- A numbered item with k digits and the value v. -/
def numR (c : ByteArray) (ind k v : Nat) : Option MkL :=
  if (1 ≤ k ∧ k ≤ 9 ∧ k < c.size) ∧ (bt c k = 46 ∨ bt c k = 41) then (if spB (c.extract (k + 1) c.size) = true then some { kind := 6, n := v, ch := c.extract k (k + 1), off := ind + k + 2, info := c.extract 0 k, rest := tl1 (c.extract (k + 1) c.size) } else none) else none
def numberM (c : ByteArray) (ind : Nat) : Option MkL := numR c ind (numDig c) (numVal c (numDig c))
def numF (c : ByteArray) {n : Nat} (l : List (Fin n)) : Nat := l.foldl (fun a j => 10 * a + (bt c j.1 - 48)) 0
theorem numF_snoc (c : ByteArray) {n : Nat} (l : List (Fin n)) (x : Fin n) : numF c (l ++ [x]) = 10 * numF c l + (bt c x.1 - 48) := by
  unfold numF; rw [List.foldl_append]; rfl
theorem numF_map (c : ByteArray) {n : Nat} (l : List (Fin n)) : numF c l = (l.map Fin.val).foldl (fun a j => 10 * a + (bt c j - 48)) 0 := by
  unfold numF; rw [List.foldl_map]
theorem numF_val (c : ByteArray) {n : Nat} (l : List (Fin n)) (k : Nat) (h : l.map Fin.val = List.range k) : numF c l = numVal c k := by
  rw [numF_map, h]; rfl
theorem digN_iff (n : Nat) : digN n = true ↔ 48 ≤ n ∧ n ≤ 57 := by
  unfold digN; rw [Bool.and_eq_true, decide_eq_true_iff, decide_eq_true_iff]
theorem numF_lt (c : ByteArray) {n : Nat} : ∀ (k : Nat) (l : List (Fin n)), l.length = k → (∀ j ∈ l, digN (bt c j.1) = true) → numF c l < 10 ^ k
  | 0, l, h, _ => by
    have := List.eq_nil_of_length_eq_zero h
    subst this
    show 0 < 10 ^ 0
    decide
  | k + 1, l, h, hd => by
    rcases List.eq_nil_or_concat l with rfl | ⟨l', x, rfl⟩
    · simp at h
    · rw [List.concat_eq_append] at h hd ⊢
      have ih := numF_lt c k l' (by simpa using h) (fun j hj => hd j (by simp [hj]))
      have hx := (digN_iff _).1 (hd x (by simp))
      rw [numF_snoc, Nat.pow_succ]
      omega
theorem firstN_ge (s : ByteArray) (p : Nat → Bool) (k : Nat) (h : k ≤ s.size) (h1 : ∀ j, j < k → p (bt s j) = false) : k ≤ firstN s p := by
  rcases Nat.lt_or_ge (firstN s p) k with hlt | hge
  · have hl : firstN s p < (bytesL s).length := by rw [bytesL_length]; omega
    have := List.findIdx_getElem (w := hl)
    have hat := bytesL_at s (firstN s p) (by omega)
    rw [List.getElem?_eq_getElem hl] at hat
    injection hat with hat
    have e : (bytesL s)[List.findIdx (fun b => p b.toNat) (bytesL s)] = s.get! (firstN s p) := hat
    rw [e] at this
    have h2 := h1 _ hlt
    unfold bt at h2
    rw [this] at h2
    cases h2
  · exact hge
theorem numR_big (c : ByteArray) (ind k v : Nat) (h : 9 < k) : numR c ind k v = none := by
  unfold numR; rw [if_neg (by omega)]
theorem num_bound {k v : Nat} (h : v < 10 ^ k) (hk : k ≤ 10) : v < 10000000000 := Nat.lt_of_lt_of_le h (Nat.pow_le_pow_right (by decide) hk)
set_option maxRecDepth 100000 in
set_option maxHeartbeats 16000000 in
theorem m_number (c : ByteArray) (ind : Nat) (w : World) (hs : c.size ≤ 1000000) (h0 : 0 < c.size) (hi : ind ≤ 3) : Calls Tryz.prog 63 #[.string c, .int .i64 ind] w (RdPost (numberM c ind) w) := by
  have HP := Lib.hid fun W => characters_any c W
  have HR : Hid (numberM c ind = numR c ind (numDig c) (numVal c (numDig c))) := Lib.hid rfl
  have HND : Hid (numDig c = firstN c (fun b => !digN b)) := Lib.hid rfl
  generalize numberM c ind = R at *
  refine (callsIn_wide (n := 5)).1 ?_
  refine callsIn_of_wp_marks Tryz.func63 rfl trivial ?_ rfl
  simp only [Tryz.ntmps63, List.size_toArray, List.length_cons, List.length_nil, Nat.reduceAdd, Nat.reduceSub, Array.replicate_succ, Array.replicate_zero, List.push_toArray, List.append_toArray, List.nil_append, List.cons_append]
  refine wpIn_wide.2 ?_
  go_wp2_with fail
  ((with_reducible refine (HP.out _).mono ?_))
  rintro e w' ⟨rfl, rfl⟩
  go_wp2_with fail
  refine (wpIn_wide (n := 5)).1 ?_
  have hZ : ZM ((((zw w).alloc (.cells #[.int .i64 0] 3)).alloc (.cells #[.int .i64 0] 3)).alloc (.cells #[.string c] 9)) w.heap.size := Blk.alloc (Blk.alloc (Blk.alloc (zw_zm w) _) _) _
  have hN : Boxed ((((zw w).alloc (.cells #[.int .i64 0] 3)).alloc (.cells #[.int .i64 0] 3)).alloc (.cells #[.string c] 9)) (w.heap.size + 1) 3 (.int .i64 0) := by
    have := ((Boxed.new (zw w) 3 (.int .i64 0)).alloc (.cells #[.int .i64 0] 3)).alloc (.cells #[.string c] 9)
    rw [zw_size] at this
    exact this
  have hV : Boxed ((((zw w).alloc (.cells #[.int .i64 0] 3)).alloc (.cells #[.int .i64 0] 3)).alloc (.cells #[.string c] 9)) (w.heap.size + 1 + 1) 3 (.int .i64 0) := by
    have := (Boxed.new ((zw w).alloc (.cells #[.int .i64 0] 3)) 3 (.int .i64 0)).alloc (.cells #[.string c] 9)
    rw [World.size_alloc, zw_size] at this
    exact this
  have hS : Boxed ((((zw w).alloc (.cells #[.int .i64 0] 3)).alloc (.cells #[.int .i64 0] 3)).alloc (.cells #[.string c] 9)) (w.heap.size + 1 + 1 + 1) 9 (.string c) := by
    have := Boxed.new (((zw w).alloc (.cells #[.int .i64 0] 3)).alloc (.cells #[.int .i64 0] 3)) 9 (.string c)
    rw [World.size_alloc, World.size_alloc, zw_size] at this
    exact this
  have hB0 : Below w.heap.size w ((((zw w).alloc (.cells #[.int .i64 0] 3)).alloc (.cells #[.int .i64 0] 3)).alloc (.cells #[.string c] 9)) := (((zw_below w).alloc (zw_below w).size _).alloc (by simp; have := (zw_below w).size; omega) _).alloc (by simp; have := (zw_below w).size; omega) _
  have hz4 : ((((zw w).alloc (.cells #[.int .i64 0] 3)).alloc (.cells #[.int .i64 0] 3)).alloc (.cells #[.string c] 9)).heap.size = w.heap.size + 4 := by simp [zw_size]
  unfold zw at hZ hN hV hS hB0 hz4
  generalize (((w.alloc (.cells #[.int .i64 0, .int .i64 0, .string ⟨#[]⟩, .int .i64 0, .string ⟨#[]⟩, .string ⟨#[]⟩, .string ⟨#[]⟩, .string ⟨#[]⟩, .string ⟨#[]⟩, .slice none 0 0, .slice none 0 0] 74)).alloc (.cells #[.int .i64 0] 3)).alloc (.cells #[.int .i64 0] 3)).alloc (.cells #[.string c] 9) = W0 at *
  refine wpIn_rangeFunc_ownG rfl (by omega) (gf := 163) (lb := #[.pointer (some ⟨w.heap.size + 1 + 1 + 1, 0, none⟩)]) rfl trivial (enters_of Tryz.func163 (by kernel_rfl) rfl)
    (chars_stops 4 (by omega) (w.heap.size + 1 + 1 + 1) c hs _ hS) (Kp := KpB (w.heap.size + 1 + 1 + 1)) (fun h1 h2 => h2.trans h1) (fun W l o o' hl ho hc _ => World.putObj_heap_other (fun e => by omega)) (Below.refl _ _) (fun _ => rfl)
    (fun (pre : List (Fin c.size)) W => (ZM W w.heap.size ∧ Boxed W (w.heap.size + 1 + 1 + 1) 9 (.string c)) ∧ (Boxed W (w.heap.size + 1) 3 (.int .i64 (pre.length : Nat)) ∧ Boxed W (w.heap.size + 1 + 1) 3 (.int .i64 (numF c pre : Nat))) ∧ ((∀ j ∈ pre, digN (bt c j.1) = true) ∧ pre.length ≤ 10) ∧ Below w.heap.size w W)
    (fun q (pre : List (Fin c.size)) W => ((q = Code.exit 0 ∧ ∃ pr x, pre = pr ++ [x] ∧ (∀ j ∈ pr, digN (bt c j.1) = true) ∧ pr.length ≤ 10 ∧ (digN (bt c x.1) = false ∨ pr.length = 10)) ∧ ZM W w.heap.size) ∧ (Boxed W (w.heap.size + 1) 3 (.int .i64 (pre.dropLast.length : Nat)) ∧ Boxed W (w.heap.size + 1 + 1) 3 (.int .i64 (numF c pre.dropLast : Nat))) ∧ Below w.heap.size w W)
    (OwnFrom.and (OwnFrom.and (Own.from (blk_own _ _ (fun _ => #[.int .i64 0, .int .i64 0, .string ⟨#[]⟩, .int .i64 0, .string ⟨#[]⟩, .string ⟨#[]⟩, .string ⟨#[]⟩, .string ⟨#[]⟩, .string ⟨#[]⟩, .slice none 0 0, .slice none 0 0])) _) (Own.from (boxed_own _ _ (fun _ => .string c)) _)) (OwnFrom.and (OwnFrom.and (Own.from (boxed_own _ _ (fun (pre : List (Fin c.size)) => .int .i64 (pre.length : Nat))) _) (Own.from (boxed_own _ _ (fun (pre : List (Fin c.size)) => .int .i64 (numF c pre : Nat))) _)) (OwnFrom.and (ownFrom_pure _ _) (ownFrom_below (Nat.le_refl _) (by omega)))))
    (fun q => OwnFrom.and (OwnFrom.and (ownFrom_pure _ _) (Own.from (blk_own _ _ (fun _ => #[.int .i64 0, .int .i64 0, .string ⟨#[]⟩, .int .i64 0, .string ⟨#[]⟩, .string ⟨#[]⟩, .string ⟨#[]⟩, .string ⟨#[]⟩, .string ⟨#[]⟩, .slice none 0 0, .slice none 0 0])) _)) (OwnFrom.and (OwnFrom.and (Own.from (boxed_own _ _ (fun (pre : List (Fin c.size)) => .int .i64 (pre.dropLast.length : Nat))) _) (Own.from (boxed_own _ _ (fun (pre : List (Fin c.size)) => .int .i64 (numF c pre.dropLast : Nat))) _)) (ownFrom_below (Nat.le_refl _) (by omega))))
    ⟨⟨hZ, hS⟩, ⟨hN, hV⟩, ⟨fun j h => absurd h (by simp), by simp⟩, hB0⟩
    (fun (x : Fin c.size) => { tmps := #[.string c, .int .i64 ind, undef, undef, .pointer (some ⟨w.heap.size, 0, none⟩), .bool false, .pointer (some ⟨w.heap.size + 1, 0, none⟩), .pointer (some ⟨w.heap.size + 1 + 1, 0, none⟩), undef, .int .u8 (bt c x.1), undef, undef, .string c, .func (.func 163) #[] #[.pointer (some ⟨w.heap.size + 1 + 1 + 1, 0, none⟩)], .int .i64 (x.1 : Nat), .int .u8 (bt c x.1), undef, undef, undef, undef, undef, undef, undef, undef, undef, undef, undef, undef, undef, undef, undef, undef, undef, undef, undef, undef, undef, undef, undef, undef, undef, undef, undef, undef, undef, undef, undef, undef, undef, undef, undef, undef, undef, undef, undef, undef, undef, undef, undef, undef, undef, undef, undef, undef, undef, undef, undef, undef, undef, undef, undef, undef, undef, undef, undef, undef, undef, undef, undef, undef, undef, undef, undef], defers := [] }) ?assign ?body ?done ?stop
  case assign =>
    intro l x W K hK
    gi_wp2_with fail
    exact hK
  case body =>
    rintro l pre x W ⟨⟨hZ, hS⟩, ⟨hN, hV⟩, ⟨hg, hl10⟩, hB⟩ hlt
    have HG := Lib.hid hg
    have hb := num_bound (numF_lt c _ pre rfl hg) hl10
    clear hg
    have n1 := hN.cell
    have n2 := hN.frozen
    have v1 := hV.cell
    have v2 := hV.frozen
    have hbx := bt_lt c x.1
    have hcase : (((((bt c x.1 : Nat) : Int) < 48 ∨ (48 ≤ ((bt c x.1 : Nat) : Int) ∧ 57 < ((bt c x.1 : Nat) : Int))) ∨ ((48 ≤ ((bt c x.1 : Nat) : Int) ∧ ((bt c x.1 : Nat) : Int) ≤ 57) ∧ 9 < pre.length)) ∧ Hid (digN (bt c x.1) = false ∨ pre.length = 10)) ∨ ((48 ≤ ((bt c x.1 : Nat) : Int) ∧ ((bt c x.1 : Nat) : Int) ≤ 57) ∧ pre.length ≤ 9 ∧ Hid (digN (bt c x.1) = true)) := by
      by_cases h : digN (bt c x.1) = true
      · have := (digN_iff _).1 h
        by_cases h9 : pre.length ≤ 9
        · exact Or.inr ⟨by omega, h9, Lib.hid h⟩
        · exact Or.inl ⟨Or.inr ⟨by omega, by omega⟩, Lib.hid (Or.inr (by omega))⟩
      · have h' : digN (bt c x.1) = false := by simpa using h
        have : ¬ (48 ≤ bt c x.1 ∧ bt c x.1 ≤ 57) := fun e => h ((digN_iff _).2 e)
        exact Or.inl ⟨by omega, Lib.hid (Or.inl h')⟩
    have hns := numF_snoc c pre x
    have HNS := Lib.hid hns
    clear hns
    have hln : (pre ++ [x]).length = pre.length + 1 := by simp
    have HLN := Lib.hid hln
    clear hln
    have HDL : Hid ((pre ++ [x]).dropLast = pre) := Lib.hid (by simp)
    have NX : digN (bt c x.1) = true → ∀ j ∈ pre ++ [x], digN (bt c j.1) = true := fun h j hj => by
      rcases List.mem_append.1 hj with hj | hj
      · exact HG.out j hj
      · rw [List.mem_singleton] at hj; rw [hj]; exact h
    generalize hvn : numF c pre = v at *
    have HVN := Lib.hid hvn
    clear hvn
    rcases hcase with ⟨(h1 | h1) | ⟨h1, h2⟩, hh⟩ | ⟨⟨h1, h1'⟩, h2, hh⟩
    case inl.inl.inl =>
      have d1 : decide (((bt c x.1 : Nat) : Int) < 48) = true := decide_eq_true h1
      clear h1 NX
      gi_wp2_with fail
      exact ⟨(KeepsOthers.refl _).from _, ⟨⟨rfl, pre, x, rfl, HG.out, hl10, hh.out⟩, hZ⟩, ⟨by rw [HDL.out]; exact hN, by rw [HDL.out, HVN.out]; exact hV⟩, hB⟩
    case inl.inl.inr =>
      have d1 : decide (((bt c x.1 : Nat) : Int) < 48) = false := decide_eq_false (by omega)
      have d2 : decide (57 < ((bt c x.1 : Nat) : Int)) = true := decide_eq_true (by omega)
      clear h1 NX
      gi_wp2_with fail
      exact ⟨(KeepsOthers.refl _).from _, ⟨⟨rfl, pre, x, rfl, HG.out, hl10, hh.out⟩, hZ⟩, ⟨by rw [HDL.out]; exact hN, by rw [HDL.out, HVN.out]; exact hV⟩, hB⟩
    case inl.inr =>
      have d1 : decide (((bt c x.1 : Nat) : Int) < 48) = false := decide_eq_false (by omega)
      have d2 : decide (57 < ((bt c x.1 : Nat) : Int)) = false := decide_eq_false (by omega)
      have d3 : decide (9 < pre.length) = true := decide_eq_true h2
      have d4 : decide (9 < (pre.length : Int)) = true := decide_eq_true (by omega)
      clear h1 NX
      gi_wp2_with fail
      exact ⟨(KeepsOthers.refl _).from _, ⟨⟨rfl, pre, x, rfl, HG.out, hl10, hh.out⟩, hZ⟩, ⟨by rw [HDL.out]; exact hN, by rw [HDL.out, HVN.out]; exact hV⟩, hB⟩
    case inr =>
      have d1 : decide (((bt c x.1 : Nat) : Int) < 48) = false := decide_eq_false (by omega)
      have d2 : decide (57 < ((bt c x.1 : Nat) : Int)) = false := decide_eq_false (by omega)
      have d3 : decide (9 < pre.length) = false := decide_eq_false (by omega)
      have d4 : decide (9 < (pre.length : Int)) = false := decide_eq_false (by omega)
      have HN' := Lib.hid (NX hh.out)
      obtain ⟨d, hd⟩ : ∃ d, bt c x.1 = d + 48 := ⟨bt c x.1 - 48, by omega⟩
      have hdv : Hid (numF c (pre ++ [x]) = 10 * v + d) := Lib.hid (by rw [HNS.out, hd]; omega)
      have hd9 : d ≤ 9 := by omega
      have hdi : ((bt c x.1 : Nat) : Int) - 48 = (d : Int) := by omega
      have hdw : IntKind.u8.wrap (d : Int) = (d : Int) := by
        have := IntWalk.u8_in (d : Int) (by omega)
        exact this
      clear NX HNS hd
      have hv2 : Boxed (W.setCell ⟨w.heap.size + 1, 0, none⟩ (.int .i64 ((pre.length : Int) + 1))) (w.heap.size + 1 + 1) 3 (.int .i64 (v : Nat)) := Blk.far hV (by simp) _
      have v3 := hv2.cell
      have v4 := hv2.frozen
      gi_wp2_with fail
      refine ⟨((KeepsOthers.setCell _ ⟨w.heap.size + 1, 0, none⟩ _).trans (KeepsOthers.setCell _ ⟨w.heap.size + 1 + 1, 0, none⟩ _)).from _, (Blk.far (Blk.far hS (by simp <;> omega) _) (by simp <;> omega) _).trans hS.symm, ⟨Blk.far (Blk.far hZ (by simp <;> omega) _) (by simp <;> omega) _, Blk.far (Blk.far hS (by simp <;> omega) _) (by simp <;> omega) _⟩, ⟨?_, ?_⟩, ⟨HN'.out, by rw [HLN.out]; omega⟩, (hB.setCell (p := ⟨w.heap.size + 1, 0, none⟩) (by show w.heap.size ≤ w.heap.size + 1; omega) _).setCell (p := ⟨w.heap.size + 1 + 1, 0, none⟩) (by show w.heap.size ≤ w.heap.size + 1 + 1; omega) _⟩
      · rw [HLN.out]; exact Blk.far (hN.set _) (by simp <;> omega) _
      · rw [hdv.out]; exact hv2.set _
  case done =>
    rintro D ys W hD hys ⟨⟨hZ, hS⟩, ⟨hN, hV⟩, ⟨hg, hl10⟩, hB⟩ hK
    have hyl : ys.length = c.size := by have := congrArg List.length hys; rwa [List.length_map, List.length_range] at this
    have hnd : numDig c = c.size := firstN_eq c _ _ (Nat.le_refl _) (fun j hj => by
      have : j ∈ ys.map Fin.val := by rw [hys]; exact List.mem_range.2 hj
      obtain ⟨y, hy, rfl⟩ := List.mem_map.1 this
      rw [hg y hy]; rfl) (fun h => absurd h (by omega))
    have HE : Hid (R = numR c ind ys.length (numF c ys)) := Lib.hid (by rw [HR.out, hnd, numF_val c ys _ hys, hyl])
    have hb := num_bound (numF_lt c _ ys rfl hg) hl10
    clear hys hg HR hnd
    have hks : ys.length ≤ c.size := by omega
    clear hyl
    generalize numF c ys = v at *
    generalize ys.length = k at *
    have n1 := hN.cell
    have v1 := hV.cell
    have hNR : numR c ind k v = if (1 ≤ k ∧ k ≤ 9 ∧ k < c.size) ∧ (bt c k = 46 ∨ bt c k = 41) then (if spB (c.extract (k + 1) c.size) = true then some { kind := 6, n := v, ch := c.extract k (k + 1), off := ind + k + 2, info := c.extract 0 k, rest := tl1 (c.extract (k + 1) c.size) } else none) else none := rfl
    rw [hNR] at HE
    clear hNR
    by_cases q1 : k < 1
    · have HF : Hid (R = none) := Lib.hid (by rw [HE.out, if_neg (by omega)])
      have d1 : decide ((k : Int) < 1) = true := decide_eq_true (by omega)
      have d2 : decide (k < 1) = true := decide_eq_true q1
      have d3 : decide (k = 0) = true := decide_eq_true (by omega)
      clear HE
      obtain ⟨k0, k1, k2, k3, k4, k5, k6, k7, k8, k9, k10, y0, y1, y2, y3, y4, y5, y6, y7, y8, y9, y10⟩ := ZM.facts hZ
      go_wp2_with fail
      have hz3 := blk11 hZ (.int .i64 0) (.int .i64 0) (.string ⟨#[]⟩) (.int .i64 0) (.string ⟨#[]⟩) (.string ⟨#[]⟩) (.string ⟨#[]⟩) (.string ⟨#[]⟩) (.string ⟨#[]⟩) (.slice none 0 0) (.slice none 0 0)
      have hK3 := ((((((((((((KeepsOthers.refl W).trans (KeepsOthers.setCell _ ⟨w.heap.size, 0, none⟩ (.int .i64 0))).trans (KeepsOthers.setCell _ ⟨w.heap.size, 1, none⟩ (.int .i64 0))).trans (KeepsOthers.setCell _ ⟨w.heap.size, 2, none⟩ (.string ⟨#[]⟩))).trans (KeepsOthers.setCell _ ⟨w.heap.size, 3, none⟩ (.int .i64 0))).trans (KeepsOthers.setCell _ ⟨w.heap.size, 4, none⟩ (.string ⟨#[]⟩))).trans (KeepsOthers.setCell _ ⟨w.heap.size, 5, none⟩ (.string ⟨#[]⟩))).trans (KeepsOthers.setCell _ ⟨w.heap.size, 6, none⟩ (.string ⟨#[]⟩))).trans (KeepsOthers.setCell _ ⟨w.heap.size, 7, none⟩ (.string ⟨#[]⟩))).trans (KeepsOthers.setCell _ ⟨w.heap.size, 8, none⟩ (.string ⟨#[]⟩))).trans (KeepsOthers.setCell _ ⟨w.heap.size, 9, none⟩ (.slice none 0 0))).trans (KeepsOthers.setCell _ ⟨w.heap.size, 10, none⟩ (.slice none 0 0))).same D _ hK rfl
      have hb3 := below11 hB (Nat.le_refl _) (.int .i64 0) (.int .i64 0) (.string ⟨#[]⟩) (.int .i64 0) (.string ⟨#[]⟩) (.string ⟨#[]⟩) (.string ⟨#[]⟩) (.string ⟨#[]⟩) (.string ⟨#[]⟩) (.slice none 0 0) (.slice none 0 0)
      clear n1 v1 hZ hN hV hK k0 k1 k2 k3 k4 k5 k6 k7 k8 k9 k10 y0 y1 y2 y3 y4 y5 y6 y7 y8 y9 y10
      refine ⟨by simp, .inl ⟨_, _, rfl, run_takeDeferred hK3, ?_⟩⟩
      generalize (((((((((((W.setCell ⟨w.heap.size, 0, none⟩ (.int .i64 0)).setCell ⟨w.heap.size, 1, none⟩ (.int .i64 0)).setCell ⟨w.heap.size, 2, none⟩ (.string ⟨#[]⟩)).setCell ⟨w.heap.size, 3, none⟩ (.int .i64 0)).setCell ⟨w.heap.size, 4, none⟩ (.string ⟨#[]⟩)).setCell ⟨w.heap.size, 5, none⟩ (.string ⟨#[]⟩)).setCell ⟨w.heap.size, 6, none⟩ (.string ⟨#[]⟩)).setCell ⟨w.heap.size, 7, none⟩ (.string ⟨#[]⟩)).setCell ⟨w.heap.size, 8, none⟩ (.string ⟨#[]⟩)).setCell ⟨w.heap.size, 9, none⟩ (.slice none 0 0)).setCell ⟨w.heap.size, 10, none⟩ (.slice none 0 0)) = W9 at *
      have hzk := blk_kept (o := .deferred none) hz3 hK3
      obtain ⟨k0, k1, k2, k3, k4, k5, k6, k7, k8, k9, k10, y0, y1, y2, y3, y4, y5, y6, y7, y8, y9, y10⟩ := mk_facts hzk
      have hbb := hb3.trans (belowK_b (w := w) (Nat.le_refl _) _ D _ (.deferred none) (by omega) hK3 rfl rfl)
      refine ⟨.tuple #[.agg #[.int .i64 0, .int .i64 0, .string ⟨#[]⟩, .int .i64 0, .string ⟨#[]⟩, .string ⟨#[]⟩, .string ⟨#[]⟩, .string ⟨#[]⟩, .string ⟨#[]⟩, .slice none 0 0, .slice none 0 0], .bool false], by simp [results, Tryz.results63, go_sem, k0, k1, k2, k3, k4, k5, k6, k7, k8, k9, k10], rd_none HF.out ⟨_, _, _, _, _, _, _, _, _, _, _, _, _, _, _, rfl⟩ hbb⟩
    have d1 : decide ((k : Int) < 1) = false := decide_eq_false (by omega)
    have d2 : decide (k < 1) = false := decide_eq_false q1
    have d3 : decide (k = 0) = false := decide_eq_false (by omega)
    by_cases q2 : 9 < k
    · have HF : Hid (R = none) := Lib.hid (by rw [HE.out, if_neg (by omega)])
      have d4 : decide (9 < (k : Int)) = true := decide_eq_true (by omega)
      have d5 : decide (9 < k) = true := decide_eq_true q2
      clear HE
      obtain ⟨k0, k1, k2, k3, k4, k5, k6, k7, k8, k9, k10, y0, y1, y2, y3, y4, y5, y6, y7, y8, y9, y10⟩ := ZM.facts hZ
      go_wp2_with fail
      have hz3 := blk11 hZ (.int .i64 0) (.int .i64 0) (.string ⟨#[]⟩) (.int .i64 0) (.string ⟨#[]⟩) (.string ⟨#[]⟩) (.string ⟨#[]⟩) (.string ⟨#[]⟩) (.string ⟨#[]⟩) (.slice none 0 0) (.slice none 0 0)
      have hK3 := ((((((((((((KeepsOthers.refl W).trans (KeepsOthers.setCell _ ⟨w.heap.size, 0, none⟩ (.int .i64 0))).trans (KeepsOthers.setCell _ ⟨w.heap.size, 1, none⟩ (.int .i64 0))).trans (KeepsOthers.setCell _ ⟨w.heap.size, 2, none⟩ (.string ⟨#[]⟩))).trans (KeepsOthers.setCell _ ⟨w.heap.size, 3, none⟩ (.int .i64 0))).trans (KeepsOthers.setCell _ ⟨w.heap.size, 4, none⟩ (.string ⟨#[]⟩))).trans (KeepsOthers.setCell _ ⟨w.heap.size, 5, none⟩ (.string ⟨#[]⟩))).trans (KeepsOthers.setCell _ ⟨w.heap.size, 6, none⟩ (.string ⟨#[]⟩))).trans (KeepsOthers.setCell _ ⟨w.heap.size, 7, none⟩ (.string ⟨#[]⟩))).trans (KeepsOthers.setCell _ ⟨w.heap.size, 8, none⟩ (.string ⟨#[]⟩))).trans (KeepsOthers.setCell _ ⟨w.heap.size, 9, none⟩ (.slice none 0 0))).trans (KeepsOthers.setCell _ ⟨w.heap.size, 10, none⟩ (.slice none 0 0))).same D _ hK rfl
      have hb3 := below11 hB (Nat.le_refl _) (.int .i64 0) (.int .i64 0) (.string ⟨#[]⟩) (.int .i64 0) (.string ⟨#[]⟩) (.string ⟨#[]⟩) (.string ⟨#[]⟩) (.string ⟨#[]⟩) (.string ⟨#[]⟩) (.slice none 0 0) (.slice none 0 0)
      clear n1 v1 hZ hN hV hK k0 k1 k2 k3 k4 k5 k6 k7 k8 k9 k10 y0 y1 y2 y3 y4 y5 y6 y7 y8 y9 y10
      refine ⟨by simp, .inl ⟨_, _, rfl, run_takeDeferred hK3, ?_⟩⟩
      generalize (((((((((((W.setCell ⟨w.heap.size, 0, none⟩ (.int .i64 0)).setCell ⟨w.heap.size, 1, none⟩ (.int .i64 0)).setCell ⟨w.heap.size, 2, none⟩ (.string ⟨#[]⟩)).setCell ⟨w.heap.size, 3, none⟩ (.int .i64 0)).setCell ⟨w.heap.size, 4, none⟩ (.string ⟨#[]⟩)).setCell ⟨w.heap.size, 5, none⟩ (.string ⟨#[]⟩)).setCell ⟨w.heap.size, 6, none⟩ (.string ⟨#[]⟩)).setCell ⟨w.heap.size, 7, none⟩ (.string ⟨#[]⟩)).setCell ⟨w.heap.size, 8, none⟩ (.string ⟨#[]⟩)).setCell ⟨w.heap.size, 9, none⟩ (.slice none 0 0)).setCell ⟨w.heap.size, 10, none⟩ (.slice none 0 0)) = W9 at *
      have hzk := blk_kept (o := .deferred none) hz3 hK3
      obtain ⟨k0, k1, k2, k3, k4, k5, k6, k7, k8, k9, k10, y0, y1, y2, y3, y4, y5, y6, y7, y8, y9, y10⟩ := mk_facts hzk
      have hbb := hb3.trans (belowK_b (w := w) (Nat.le_refl _) _ D _ (.deferred none) (by omega) hK3 rfl rfl)
      refine ⟨.tuple #[.agg #[.int .i64 0, .int .i64 0, .string ⟨#[]⟩, .int .i64 0, .string ⟨#[]⟩, .string ⟨#[]⟩, .string ⟨#[]⟩, .string ⟨#[]⟩, .string ⟨#[]⟩, .slice none 0 0, .slice none 0 0], .bool false], by simp [results, Tryz.results63, go_sem, k0, k1, k2, k3, k4, k5, k6, k7, k8, k9, k10], rd_none HF.out ⟨_, _, _, _, _, _, _, _, _, _, _, _, _, _, _, rfl⟩ hbb⟩
    have d4 : decide (9 < (k : Int)) = false := decide_eq_false (by omega)
    have d5 : decide (9 < k) = false := decide_eq_false q2
    by_cases q3 : k = c.size
    · have HF : Hid (R = none) := Lib.hid (by rw [HE.out, if_neg (by omega)])
      have d6 : (k == c.size) = true := by rw [beq_iff_eq]; exact q3
      have d7 : ((k : Int) == (c.size : Int)) = true := by rw [beq_iff_eq]; omega
      clear HE q3
      obtain ⟨k0, k1, k2, k3, k4, k5, k6, k7, k8, k9, k10, y0, y1, y2, y3, y4, y5, y6, y7, y8, y9, y10⟩ := ZM.facts hZ
      go_wp2_with fail
      have hz3 := blk11 hZ (.int .i64 0) (.int .i64 0) (.string ⟨#[]⟩) (.int .i64 0) (.string ⟨#[]⟩) (.string ⟨#[]⟩) (.string ⟨#[]⟩) (.string ⟨#[]⟩) (.string ⟨#[]⟩) (.slice none 0 0) (.slice none 0 0)
      have hK3 := ((((((((((((KeepsOthers.refl W).trans (KeepsOthers.setCell _ ⟨w.heap.size, 0, none⟩ (.int .i64 0))).trans (KeepsOthers.setCell _ ⟨w.heap.size, 1, none⟩ (.int .i64 0))).trans (KeepsOthers.setCell _ ⟨w.heap.size, 2, none⟩ (.string ⟨#[]⟩))).trans (KeepsOthers.setCell _ ⟨w.heap.size, 3, none⟩ (.int .i64 0))).trans (KeepsOthers.setCell _ ⟨w.heap.size, 4, none⟩ (.string ⟨#[]⟩))).trans (KeepsOthers.setCell _ ⟨w.heap.size, 5, none⟩ (.string ⟨#[]⟩))).trans (KeepsOthers.setCell _ ⟨w.heap.size, 6, none⟩ (.string ⟨#[]⟩))).trans (KeepsOthers.setCell _ ⟨w.heap.size, 7, none⟩ (.string ⟨#[]⟩))).trans (KeepsOthers.setCell _ ⟨w.heap.size, 8, none⟩ (.string ⟨#[]⟩))).trans (KeepsOthers.setCell _ ⟨w.heap.size, 9, none⟩ (.slice none 0 0))).trans (KeepsOthers.setCell _ ⟨w.heap.size, 10, none⟩ (.slice none 0 0))).same D _ hK rfl
      have hb3 := below11 hB (Nat.le_refl _) (.int .i64 0) (.int .i64 0) (.string ⟨#[]⟩) (.int .i64 0) (.string ⟨#[]⟩) (.string ⟨#[]⟩) (.string ⟨#[]⟩) (.string ⟨#[]⟩) (.string ⟨#[]⟩) (.slice none 0 0) (.slice none 0 0)
      clear n1 v1 hZ hN hV hK k0 k1 k2 k3 k4 k5 k6 k7 k8 k9 k10 y0 y1 y2 y3 y4 y5 y6 y7 y8 y9 y10
      refine ⟨by simp, .inl ⟨_, _, rfl, run_takeDeferred hK3, ?_⟩⟩
      generalize (((((((((((W.setCell ⟨w.heap.size, 0, none⟩ (.int .i64 0)).setCell ⟨w.heap.size, 1, none⟩ (.int .i64 0)).setCell ⟨w.heap.size, 2, none⟩ (.string ⟨#[]⟩)).setCell ⟨w.heap.size, 3, none⟩ (.int .i64 0)).setCell ⟨w.heap.size, 4, none⟩ (.string ⟨#[]⟩)).setCell ⟨w.heap.size, 5, none⟩ (.string ⟨#[]⟩)).setCell ⟨w.heap.size, 6, none⟩ (.string ⟨#[]⟩)).setCell ⟨w.heap.size, 7, none⟩ (.string ⟨#[]⟩)).setCell ⟨w.heap.size, 8, none⟩ (.string ⟨#[]⟩)).setCell ⟨w.heap.size, 9, none⟩ (.slice none 0 0)).setCell ⟨w.heap.size, 10, none⟩ (.slice none 0 0)) = W9 at *
      have hzk := blk_kept (o := .deferred none) hz3 hK3
      obtain ⟨k0, k1, k2, k3, k4, k5, k6, k7, k8, k9, k10, y0, y1, y2, y3, y4, y5, y6, y7, y8, y9, y10⟩ := mk_facts hzk
      have hbb := hb3.trans (belowK_b (w := w) (Nat.le_refl _) _ D _ (.deferred none) (by omega) hK3 rfl rfl)
      refine ⟨.tuple #[.agg #[.int .i64 0, .int .i64 0, .string ⟨#[]⟩, .int .i64 0, .string ⟨#[]⟩, .string ⟨#[]⟩, .string ⟨#[]⟩, .string ⟨#[]⟩, .string ⟨#[]⟩, .slice none 0 0, .slice none 0 0], .bool false], by simp [results, Tryz.results63, go_sem, k0, k1, k2, k3, k4, k5, k6, k7, k8, k9, k10], rd_none HF.out ⟨_, _, _, _, _, _, _, _, _, _, _, _, _, _, _, rfl⟩ hbb⟩
    have d6 : (k == c.size) = false := by rw [beq_eq_false_iff_ne]; exact q3
    have d7 : ((k : Int) == (c.size : Int)) = false := by rw [beq_eq_false_iff_ne]; omega
    have hkc : k < c.size := by omega
    have hgk := get_bt c k hkc
    by_cases q4 : bt c k = 46 ∨ bt c k = 41
    case neg =>
      have HF : Hid (R = none) := Lib.hid (by rw [HE.out, if_neg (fun h => q4 h.2)])
      have d8 : (((bt c k : Nat) : Int) != 46) = true := by rw [bne_iff_ne]; omega
      have d9 : (((bt c k : Nat) : Int) != 41) = true := by rw [bne_iff_ne]; omega
      clear HE q3 q4
      obtain ⟨k0, k1, k2, k3, k4, k5, k6, k7, k8, k9, k10, y0, y1, y2, y3, y4, y5, y6, y7, y8, y9, y10⟩ := ZM.facts hZ
      go_wp2_with fail
      have hz3 := blk11 hZ (.int .i64 0) (.int .i64 0) (.string ⟨#[]⟩) (.int .i64 0) (.string ⟨#[]⟩) (.string ⟨#[]⟩) (.string ⟨#[]⟩) (.string ⟨#[]⟩) (.string ⟨#[]⟩) (.slice none 0 0) (.slice none 0 0)
      have hK3 := ((((((((((((KeepsOthers.refl W).trans (KeepsOthers.setCell _ ⟨w.heap.size, 0, none⟩ (.int .i64 0))).trans (KeepsOthers.setCell _ ⟨w.heap.size, 1, none⟩ (.int .i64 0))).trans (KeepsOthers.setCell _ ⟨w.heap.size, 2, none⟩ (.string ⟨#[]⟩))).trans (KeepsOthers.setCell _ ⟨w.heap.size, 3, none⟩ (.int .i64 0))).trans (KeepsOthers.setCell _ ⟨w.heap.size, 4, none⟩ (.string ⟨#[]⟩))).trans (KeepsOthers.setCell _ ⟨w.heap.size, 5, none⟩ (.string ⟨#[]⟩))).trans (KeepsOthers.setCell _ ⟨w.heap.size, 6, none⟩ (.string ⟨#[]⟩))).trans (KeepsOthers.setCell _ ⟨w.heap.size, 7, none⟩ (.string ⟨#[]⟩))).trans (KeepsOthers.setCell _ ⟨w.heap.size, 8, none⟩ (.string ⟨#[]⟩))).trans (KeepsOthers.setCell _ ⟨w.heap.size, 9, none⟩ (.slice none 0 0))).trans (KeepsOthers.setCell _ ⟨w.heap.size, 10, none⟩ (.slice none 0 0))).same D _ hK rfl
      have hb3 := below11 hB (Nat.le_refl _) (.int .i64 0) (.int .i64 0) (.string ⟨#[]⟩) (.int .i64 0) (.string ⟨#[]⟩) (.string ⟨#[]⟩) (.string ⟨#[]⟩) (.string ⟨#[]⟩) (.string ⟨#[]⟩) (.slice none 0 0) (.slice none 0 0)
      clear n1 v1 hZ hN hV hK k0 k1 k2 k3 k4 k5 k6 k7 k8 k9 k10 y0 y1 y2 y3 y4 y5 y6 y7 y8 y9 y10
      refine ⟨by simp, .inl ⟨_, _, rfl, run_takeDeferred hK3, ?_⟩⟩
      generalize (((((((((((W.setCell ⟨w.heap.size, 0, none⟩ (.int .i64 0)).setCell ⟨w.heap.size, 1, none⟩ (.int .i64 0)).setCell ⟨w.heap.size, 2, none⟩ (.string ⟨#[]⟩)).setCell ⟨w.heap.size, 3, none⟩ (.int .i64 0)).setCell ⟨w.heap.size, 4, none⟩ (.string ⟨#[]⟩)).setCell ⟨w.heap.size, 5, none⟩ (.string ⟨#[]⟩)).setCell ⟨w.heap.size, 6, none⟩ (.string ⟨#[]⟩)).setCell ⟨w.heap.size, 7, none⟩ (.string ⟨#[]⟩)).setCell ⟨w.heap.size, 8, none⟩ (.string ⟨#[]⟩)).setCell ⟨w.heap.size, 9, none⟩ (.slice none 0 0)).setCell ⟨w.heap.size, 10, none⟩ (.slice none 0 0)) = W9 at *
      have hzk := blk_kept (o := .deferred none) hz3 hK3
      obtain ⟨k0, k1, k2, k3, k4, k5, k6, k7, k8, k9, k10, y0, y1, y2, y3, y4, y5, y6, y7, y8, y9, y10⟩ := mk_facts hzk
      have hbb := hb3.trans (belowK_b (w := w) (Nat.le_refl _) _ D _ (.deferred none) (by omega) hK3 rfl rfl)
      refine ⟨.tuple #[.agg #[.int .i64 0, .int .i64 0, .string ⟨#[]⟩, .int .i64 0, .string ⟨#[]⟩, .string ⟨#[]⟩, .string ⟨#[]⟩, .string ⟨#[]⟩, .string ⟨#[]⟩, .slice none 0 0, .slice none 0 0], .bool false], by simp [results, Tryz.results63, go_sem, k0, k1, k2, k3, k4, k5, k6, k7, k8, k9, k10], rd_none HF.out ⟨_, _, _, _, _, _, _, _, _, _, _, _, _, _, _, rfl⟩ hbb⟩
    have HF : Hid (R = if spB (c.extract (k + 1) c.size) = true then some { kind := 6, n := v, ch := c.extract k (k + 1), off := ind + k + 2, info := c.extract 0 k, rest := tl1 (c.extract (k + 1) c.size) } else none) := Lib.hid (by rw [HE.out, if_pos ⟨by omega, q4⟩])
    clear HE
    have hxs : (c.extract (k + 1) c.size).size ≤ 1000000 := by rw [ByteArray.size_extract]; omega
    have HAf := Lib.hid fun W => m_after (c.extract (k + 1) c.size) W hxs
    generalize tl1 (c.extract (k + 1) c.size) = Y at *
    generalize spB (c.extract (k + 1) c.size) = q at *
    have hdd : (((bt c k : Nat) : Int) != 46) = false ∨ ((((bt c k : Nat) : Int) != 46) = true ∧ (((bt c k : Nat) : Int) != 41) = false) := by
      rcases q4 with h | h
      · left; rw [h]; rfl
      · right; rw [h]; exact ⟨rfl, rfl⟩
    clear q3 q4
    rcases hdd with d8 | ⟨d8, d9⟩
    all_goals
      go_wp2_with fail
      ((with_reducible refine (HAf.out _).mono ?_))
      rintro e W1 ⟨rfl, b1⟩
      have hDl : D < W.heap.size := by
        rcases Nat.lt_or_ge D W.heap.size with h | h
        · exact h
        · rw [Array.getElem?_eq_none h] at hK; cases hK
      replace hK := (b1.block D hDl).trans hK
      replace hZ := Blk.below hZ b1 hZ.lt
      replace hN := (b1.block _ hN.lt).trans hN
      replace hV := (b1.block _ hV.lt).trans hV
      replace hB := hB.trans (b1.mono hB.size)
      clear n1 v1 b1 hDl
      have hN' : Boxed W1 (w.heap.size + 1) 3 (.int .i64 (k : Nat)) := hN
      have hV' : Boxed W1 (w.heap.size + 1 + 1) 3 (.int .i64 (v : Nat)) := hV
      have n1 := hN'.cell
      have v1 := hV'.cell
      clear hN' hV'
      obtain ⟨k0, k1, k2, k3, k4, k5, k6, k7, k8, k9, k10, y0, y1, y2, y3, y4, y5, y6, y7, y8, y9, y10⟩ := ZM.facts hZ
      go_wp2_with fail
      have hw1 : IntKind.i64.wrap ((k : Int) + 1) = (k : Int) + 1 := IntWalk.i64_in _ (by omega)
      have hw2 : IntKind.i64.wrap ((ind : Int) + (k : Int)) = (ind : Int) + (k : Int) := IntWalk.i64_in _ (by omega)
      have hw3 : IntKind.i64.wrap ((ind : Int) + (k : Int) + 2) = (ind : Int) + (k : Int) + 2 := IntWalk.i64_in _ (by omega)
      have hw4 : ((k : Int) + 1).toNat = k + 1 := by omega
      have hw5 : (k : Int) ≤ (c.size : Int) := by omega
      have hw6 : (k : Int) + 1 ≤ (c.size : Int) := by omega
      have hw7 : (k : Int) ≤ (k : Int) + 1 := by omega
      have hw8 : (0 : Int) ≤ (k : Int) + 1 := by omega
      have hw9 : ¬ w.heap.size = w.heap.size + 1 + 1 := by omega
      go_region_held3 (fun w' => w'.cell? ⟨w.heap.size + 1, 0, none⟩ = some (.int .i64 (k : Nat)) ∧ w'.cell? ⟨w.heap.size + 1 + 1, 0, none⟩ = some (.int .i64 (v : Nat))) (go_keep) (fail)
      clear hw1 hw2 hw3 hw4 hw5 hw6 hw7 hw8 hw9
      go_wp2_with fail
      have hz3 := Blk.drew (blk11 hZ (.int .i64 6) (.int .i64 (v : Nat)) (.string (c.extract k (k + 1))) (.int .i64 ((ind : Int) + (k : Int) + 2)) (.string (c.extract 0 k)) (.string Y) (.string ⟨#[]⟩) (.string ⟨#[]⟩) (.string ⟨#[]⟩) (.slice none 0 0) (.slice none 0 0))
      have hK3 := (((((((((((((KeepsOthers.refl W1).trans (KeepsOthers.setCell _ ⟨w.heap.size, 0, none⟩ (.int .i64 6))).trans (KeepsOthers.setCell _ ⟨w.heap.size, 1, none⟩ (.int .i64 (v : Nat)))).trans (KeepsOthers.setCell _ ⟨w.heap.size, 2, none⟩ (.string (c.extract k (k + 1))))).trans (KeepsOthers.setCell _ ⟨w.heap.size, 3, none⟩ (.int .i64 ((ind : Int) + (k : Int) + 2)))).trans (KeepsOthers.setCell _ ⟨w.heap.size, 4, none⟩ (.string (c.extract 0 k)))).trans (KeepsOthers.setCell _ ⟨w.heap.size, 5, none⟩ (.string Y))).trans (KeepsOthers.setCell _ ⟨w.heap.size, 6, none⟩ (.string ⟨#[]⟩))).trans (KeepsOthers.setCell _ ⟨w.heap.size, 7, none⟩ (.string ⟨#[]⟩))).trans (KeepsOthers.setCell _ ⟨w.heap.size, 8, none⟩ (.string ⟨#[]⟩))).trans (KeepsOthers.setCell _ ⟨w.heap.size, 9, none⟩ (.slice none 0 0))).trans (KeepsOthers.setCell _ ⟨w.heap.size, 10, none⟩ (.slice none 0 0))).trans (KeepsOthers.drew _)).same D _ hK rfl
      have hb3 := Below.drew (below11 hB (Nat.le_refl _) (.int .i64 6) (.int .i64 (v : Nat)) (.string (c.extract k (k + 1))) (.int .i64 ((ind : Int) + (k : Int) + 2)) (.string (c.extract 0 k)) (.string Y) (.string ⟨#[]⟩) (.string ⟨#[]⟩) (.string ⟨#[]⟩) (.slice none 0 0) (.slice none 0 0))
      clear n1 v1 hZ hN hV hK k0 k1 k2 k3 k4 k5 k6 k7 k8 k9 k10 y0 y1 y2 y3 y4 y5 y6 y7 y8 y9 y10
      refine ⟨by simp, .inl ⟨_, _, rfl, run_takeDeferred hK3, ?_⟩⟩
      generalize (((((((((((W1.setCell ⟨w.heap.size, 0, none⟩ (.int .i64 6)).setCell ⟨w.heap.size, 1, none⟩ (.int .i64 (v : Nat))).setCell ⟨w.heap.size, 2, none⟩ (.string (c.extract k (k + 1)))).setCell ⟨w.heap.size, 3, none⟩ (.int .i64 ((ind : Int) + (k : Int) + 2))).setCell ⟨w.heap.size, 4, none⟩ (.string (c.extract 0 k))).setCell ⟨w.heap.size, 5, none⟩ (.string Y)).setCell ⟨w.heap.size, 6, none⟩ (.string ⟨#[]⟩)).setCell ⟨w.heap.size, 7, none⟩ (.string ⟨#[]⟩)).setCell ⟨w.heap.size, 8, none⟩ (.string ⟨#[]⟩)).setCell ⟨w.heap.size, 9, none⟩ (.slice none 0 0)).setCell ⟨w.heap.size, 10, none⟩ (.slice none 0 0)).drew = W9 at *
      have hzk := blk_kept (o := .deferred none) hz3 hK3
      obtain ⟨k0, k1, k2, k3, k4, k5, k6, k7, k8, k9, k10, y0, y1, y2, y3, y4, y5, y6, y7, y8, y9, y10⟩ := mk_facts hzk
      have hbb := hb3.trans (belowK_b (w := w) (Nat.le_refl _) _ D _ (.deferred none) (by omega) hK3 rfl rfl)
      refine ⟨.tuple #[.agg #[.int .i64 6, .int .i64 (v : Nat), .string (c.extract k (k + 1)), .int .i64 ((ind : Int) + (k : Int) + 2), .string (c.extract 0 k), .string Y, .string ⟨#[]⟩, .string ⟨#[]⟩, .string ⟨#[]⟩, .slice none 0 0, .slice none 0 0], .bool q], by simp [results, Tryz.results63, go_sem, k0, k1, k2, k3, k4, k5, k6, k7, k8, k9, k10], rd_if HF.out (by have hm := mkVal_plain (m := { kind := 6, n := v, ch := c.extract k (k + 1), off := ind + k + 2, info := c.extract 0 k, rest := Y }) rfl hbb.size; simp only [MkL.cells] at hm; rw [show ((ind + k + 2 : Nat) : Int) = (ind : Int) + (k : Int) + 2 from by omega] at hm; exact hm) hbb⟩
  case stop =>
    rintro D q0 pre W hD hpre ⟨⟨⟨rfl, pr, x, rfl, hg, hl10, hx⟩, hZ⟩, ⟨hN, hV⟩, hB⟩ hK
    rw [List.map_append] at hpre
    obtain ⟨hp1, hp2⟩ := pre_snoc hpre
    have hpl : pr.length = x.1 := by have := congrArg List.length hp1; rwa [List.length_map, List.length_range] at this
    have hdig : ∀ j, j < x.1 → (fun b => !digN b) (bt c j) = false := fun j hj => by
      have : j ∈ pr.map Fin.val := by rw [hp1]; exact List.mem_range.2 hj
      obtain ⟨y, hy, rfl⟩ := List.mem_map.1 this
      simp only
      rw [hg y hy]; rfl
    have HE : Hid (R = numR c ind pr.length (numF c pr)) := Lib.hid (by
      rcases hx with hx | hx
      · have hnd : numDig c = x.1 := firstN_eq c _ _ (Nat.le_of_lt hp2) hdig (fun _ => by rw [hx]; rfl)
        rw [HR.out, hnd, numF_val c pr _ hp1, hpl]
      · have hnd : x.1 ≤ numDig c := firstN_ge c _ _ (Nat.le_of_lt hp2) hdig
        rw [HR.out, numR_big _ _ _ _ (by omega), numR_big _ _ _ _ (by omega)])
    have hb := num_bound (numF_lt c _ pr rfl hg) hl10
    have hdl : (pr ++ [x]).dropLast = pr := by simp
    rw [hdl] at hN hV
    have hks : pr.length ≤ c.size := by omega
    clear hg HR hx hpre hp1 hdig hdl hpl
    generalize numF c pr = v at *
    generalize pr.length = k at *
    gi_wp2_with fail
    have n1 := hN.cell
    have v1 := hV.cell
    have hNR : numR c ind k v = if (1 ≤ k ∧ k ≤ 9 ∧ k < c.size) ∧ (bt c k = 46 ∨ bt c k = 41) then (if spB (c.extract (k + 1) c.size) = true then some { kind := 6, n := v, ch := c.extract k (k + 1), off := ind + k + 2, info := c.extract 0 k, rest := tl1 (c.extract (k + 1) c.size) } else none) else none := rfl
    rw [hNR] at HE
    clear hNR
    by_cases q1 : k < 1
    · have HF : Hid (R = none) := Lib.hid (by rw [HE.out, if_neg (by omega)])
      have d1 : decide ((k : Int) < 1) = true := decide_eq_true (by omega)
      have d2 : decide (k < 1) = true := decide_eq_true q1
      have d3 : decide (k = 0) = true := decide_eq_true (by omega)
      clear HE
      obtain ⟨k0, k1, k2, k3, k4, k5, k6, k7, k8, k9, k10, y0, y1, y2, y3, y4, y5, y6, y7, y8, y9, y10⟩ := ZM.facts hZ
      go_wp2_with fail
      have hz3 := blk11 hZ (.int .i64 0) (.int .i64 0) (.string ⟨#[]⟩) (.int .i64 0) (.string ⟨#[]⟩) (.string ⟨#[]⟩) (.string ⟨#[]⟩) (.string ⟨#[]⟩) (.string ⟨#[]⟩) (.slice none 0 0) (.slice none 0 0)
      have hK3 := ((((((((((((KeepsOthers.refl W).trans (KeepsOthers.setCell _ ⟨w.heap.size, 0, none⟩ (.int .i64 0))).trans (KeepsOthers.setCell _ ⟨w.heap.size, 1, none⟩ (.int .i64 0))).trans (KeepsOthers.setCell _ ⟨w.heap.size, 2, none⟩ (.string ⟨#[]⟩))).trans (KeepsOthers.setCell _ ⟨w.heap.size, 3, none⟩ (.int .i64 0))).trans (KeepsOthers.setCell _ ⟨w.heap.size, 4, none⟩ (.string ⟨#[]⟩))).trans (KeepsOthers.setCell _ ⟨w.heap.size, 5, none⟩ (.string ⟨#[]⟩))).trans (KeepsOthers.setCell _ ⟨w.heap.size, 6, none⟩ (.string ⟨#[]⟩))).trans (KeepsOthers.setCell _ ⟨w.heap.size, 7, none⟩ (.string ⟨#[]⟩))).trans (KeepsOthers.setCell _ ⟨w.heap.size, 8, none⟩ (.string ⟨#[]⟩))).trans (KeepsOthers.setCell _ ⟨w.heap.size, 9, none⟩ (.slice none 0 0))).trans (KeepsOthers.setCell _ ⟨w.heap.size, 10, none⟩ (.slice none 0 0))).same D _ hK rfl
      have hb3 := below11 hB (Nat.le_refl _) (.int .i64 0) (.int .i64 0) (.string ⟨#[]⟩) (.int .i64 0) (.string ⟨#[]⟩) (.string ⟨#[]⟩) (.string ⟨#[]⟩) (.string ⟨#[]⟩) (.string ⟨#[]⟩) (.slice none 0 0) (.slice none 0 0)
      clear n1 v1 hZ hN hV hK k0 k1 k2 k3 k4 k5 k6 k7 k8 k9 k10 y0 y1 y2 y3 y4 y5 y6 y7 y8 y9 y10
      refine ⟨by simp, .inl ⟨_, _, rfl, run_takeDeferred hK3, ?_⟩⟩
      generalize (((((((((((W.setCell ⟨w.heap.size, 0, none⟩ (.int .i64 0)).setCell ⟨w.heap.size, 1, none⟩ (.int .i64 0)).setCell ⟨w.heap.size, 2, none⟩ (.string ⟨#[]⟩)).setCell ⟨w.heap.size, 3, none⟩ (.int .i64 0)).setCell ⟨w.heap.size, 4, none⟩ (.string ⟨#[]⟩)).setCell ⟨w.heap.size, 5, none⟩ (.string ⟨#[]⟩)).setCell ⟨w.heap.size, 6, none⟩ (.string ⟨#[]⟩)).setCell ⟨w.heap.size, 7, none⟩ (.string ⟨#[]⟩)).setCell ⟨w.heap.size, 8, none⟩ (.string ⟨#[]⟩)).setCell ⟨w.heap.size, 9, none⟩ (.slice none 0 0)).setCell ⟨w.heap.size, 10, none⟩ (.slice none 0 0)) = W9 at *
      have hzk := blk_kept (o := .deferred none) hz3 hK3
      obtain ⟨k0, k1, k2, k3, k4, k5, k6, k7, k8, k9, k10, y0, y1, y2, y3, y4, y5, y6, y7, y8, y9, y10⟩ := mk_facts hzk
      have hbb := hb3.trans (belowK_b (w := w) (Nat.le_refl _) _ D _ (.deferred none) (by omega) hK3 rfl rfl)
      refine ⟨.tuple #[.agg #[.int .i64 0, .int .i64 0, .string ⟨#[]⟩, .int .i64 0, .string ⟨#[]⟩, .string ⟨#[]⟩, .string ⟨#[]⟩, .string ⟨#[]⟩, .string ⟨#[]⟩, .slice none 0 0, .slice none 0 0], .bool false], by simp [results, Tryz.results63, go_sem, k0, k1, k2, k3, k4, k5, k6, k7, k8, k9, k10], rd_none HF.out ⟨_, _, _, _, _, _, _, _, _, _, _, _, _, _, _, rfl⟩ hbb⟩
    have d1 : decide ((k : Int) < 1) = false := decide_eq_false (by omega)
    have d2 : decide (k < 1) = false := decide_eq_false q1
    have d3 : decide (k = 0) = false := decide_eq_false (by omega)
    by_cases q2 : 9 < k
    · have HF : Hid (R = none) := Lib.hid (by rw [HE.out, if_neg (by omega)])
      have d4 : decide (9 < (k : Int)) = true := decide_eq_true (by omega)
      have d5 : decide (9 < k) = true := decide_eq_true q2
      clear HE
      obtain ⟨k0, k1, k2, k3, k4, k5, k6, k7, k8, k9, k10, y0, y1, y2, y3, y4, y5, y6, y7, y8, y9, y10⟩ := ZM.facts hZ
      go_wp2_with fail
      have hz3 := blk11 hZ (.int .i64 0) (.int .i64 0) (.string ⟨#[]⟩) (.int .i64 0) (.string ⟨#[]⟩) (.string ⟨#[]⟩) (.string ⟨#[]⟩) (.string ⟨#[]⟩) (.string ⟨#[]⟩) (.slice none 0 0) (.slice none 0 0)
      have hK3 := ((((((((((((KeepsOthers.refl W).trans (KeepsOthers.setCell _ ⟨w.heap.size, 0, none⟩ (.int .i64 0))).trans (KeepsOthers.setCell _ ⟨w.heap.size, 1, none⟩ (.int .i64 0))).trans (KeepsOthers.setCell _ ⟨w.heap.size, 2, none⟩ (.string ⟨#[]⟩))).trans (KeepsOthers.setCell _ ⟨w.heap.size, 3, none⟩ (.int .i64 0))).trans (KeepsOthers.setCell _ ⟨w.heap.size, 4, none⟩ (.string ⟨#[]⟩))).trans (KeepsOthers.setCell _ ⟨w.heap.size, 5, none⟩ (.string ⟨#[]⟩))).trans (KeepsOthers.setCell _ ⟨w.heap.size, 6, none⟩ (.string ⟨#[]⟩))).trans (KeepsOthers.setCell _ ⟨w.heap.size, 7, none⟩ (.string ⟨#[]⟩))).trans (KeepsOthers.setCell _ ⟨w.heap.size, 8, none⟩ (.string ⟨#[]⟩))).trans (KeepsOthers.setCell _ ⟨w.heap.size, 9, none⟩ (.slice none 0 0))).trans (KeepsOthers.setCell _ ⟨w.heap.size, 10, none⟩ (.slice none 0 0))).same D _ hK rfl
      have hb3 := below11 hB (Nat.le_refl _) (.int .i64 0) (.int .i64 0) (.string ⟨#[]⟩) (.int .i64 0) (.string ⟨#[]⟩) (.string ⟨#[]⟩) (.string ⟨#[]⟩) (.string ⟨#[]⟩) (.string ⟨#[]⟩) (.slice none 0 0) (.slice none 0 0)
      clear n1 v1 hZ hN hV hK k0 k1 k2 k3 k4 k5 k6 k7 k8 k9 k10 y0 y1 y2 y3 y4 y5 y6 y7 y8 y9 y10
      refine ⟨by simp, .inl ⟨_, _, rfl, run_takeDeferred hK3, ?_⟩⟩
      generalize (((((((((((W.setCell ⟨w.heap.size, 0, none⟩ (.int .i64 0)).setCell ⟨w.heap.size, 1, none⟩ (.int .i64 0)).setCell ⟨w.heap.size, 2, none⟩ (.string ⟨#[]⟩)).setCell ⟨w.heap.size, 3, none⟩ (.int .i64 0)).setCell ⟨w.heap.size, 4, none⟩ (.string ⟨#[]⟩)).setCell ⟨w.heap.size, 5, none⟩ (.string ⟨#[]⟩)).setCell ⟨w.heap.size, 6, none⟩ (.string ⟨#[]⟩)).setCell ⟨w.heap.size, 7, none⟩ (.string ⟨#[]⟩)).setCell ⟨w.heap.size, 8, none⟩ (.string ⟨#[]⟩)).setCell ⟨w.heap.size, 9, none⟩ (.slice none 0 0)).setCell ⟨w.heap.size, 10, none⟩ (.slice none 0 0)) = W9 at *
      have hzk := blk_kept (o := .deferred none) hz3 hK3
      obtain ⟨k0, k1, k2, k3, k4, k5, k6, k7, k8, k9, k10, y0, y1, y2, y3, y4, y5, y6, y7, y8, y9, y10⟩ := mk_facts hzk
      have hbb := hb3.trans (belowK_b (w := w) (Nat.le_refl _) _ D _ (.deferred none) (by omega) hK3 rfl rfl)
      refine ⟨.tuple #[.agg #[.int .i64 0, .int .i64 0, .string ⟨#[]⟩, .int .i64 0, .string ⟨#[]⟩, .string ⟨#[]⟩, .string ⟨#[]⟩, .string ⟨#[]⟩, .string ⟨#[]⟩, .slice none 0 0, .slice none 0 0], .bool false], by simp [results, Tryz.results63, go_sem, k0, k1, k2, k3, k4, k5, k6, k7, k8, k9, k10], rd_none HF.out ⟨_, _, _, _, _, _, _, _, _, _, _, _, _, _, _, rfl⟩ hbb⟩
    have d4 : decide (9 < (k : Int)) = false := decide_eq_false (by omega)
    have d5 : decide (9 < k) = false := decide_eq_false q2
    by_cases q3 : k = c.size
    · have HF : Hid (R = none) := Lib.hid (by rw [HE.out, if_neg (by omega)])
      have d6 : (k == c.size) = true := by rw [beq_iff_eq]; exact q3
      have d7 : ((k : Int) == (c.size : Int)) = true := by rw [beq_iff_eq]; omega
      clear HE q3
      obtain ⟨k0, k1, k2, k3, k4, k5, k6, k7, k8, k9, k10, y0, y1, y2, y3, y4, y5, y6, y7, y8, y9, y10⟩ := ZM.facts hZ
      go_wp2_with fail
      have hz3 := blk11 hZ (.int .i64 0) (.int .i64 0) (.string ⟨#[]⟩) (.int .i64 0) (.string ⟨#[]⟩) (.string ⟨#[]⟩) (.string ⟨#[]⟩) (.string ⟨#[]⟩) (.string ⟨#[]⟩) (.slice none 0 0) (.slice none 0 0)
      have hK3 := ((((((((((((KeepsOthers.refl W).trans (KeepsOthers.setCell _ ⟨w.heap.size, 0, none⟩ (.int .i64 0))).trans (KeepsOthers.setCell _ ⟨w.heap.size, 1, none⟩ (.int .i64 0))).trans (KeepsOthers.setCell _ ⟨w.heap.size, 2, none⟩ (.string ⟨#[]⟩))).trans (KeepsOthers.setCell _ ⟨w.heap.size, 3, none⟩ (.int .i64 0))).trans (KeepsOthers.setCell _ ⟨w.heap.size, 4, none⟩ (.string ⟨#[]⟩))).trans (KeepsOthers.setCell _ ⟨w.heap.size, 5, none⟩ (.string ⟨#[]⟩))).trans (KeepsOthers.setCell _ ⟨w.heap.size, 6, none⟩ (.string ⟨#[]⟩))).trans (KeepsOthers.setCell _ ⟨w.heap.size, 7, none⟩ (.string ⟨#[]⟩))).trans (KeepsOthers.setCell _ ⟨w.heap.size, 8, none⟩ (.string ⟨#[]⟩))).trans (KeepsOthers.setCell _ ⟨w.heap.size, 9, none⟩ (.slice none 0 0))).trans (KeepsOthers.setCell _ ⟨w.heap.size, 10, none⟩ (.slice none 0 0))).same D _ hK rfl
      have hb3 := below11 hB (Nat.le_refl _) (.int .i64 0) (.int .i64 0) (.string ⟨#[]⟩) (.int .i64 0) (.string ⟨#[]⟩) (.string ⟨#[]⟩) (.string ⟨#[]⟩) (.string ⟨#[]⟩) (.string ⟨#[]⟩) (.slice none 0 0) (.slice none 0 0)
      clear n1 v1 hZ hN hV hK k0 k1 k2 k3 k4 k5 k6 k7 k8 k9 k10 y0 y1 y2 y3 y4 y5 y6 y7 y8 y9 y10
      refine ⟨by simp, .inl ⟨_, _, rfl, run_takeDeferred hK3, ?_⟩⟩
      generalize (((((((((((W.setCell ⟨w.heap.size, 0, none⟩ (.int .i64 0)).setCell ⟨w.heap.size, 1, none⟩ (.int .i64 0)).setCell ⟨w.heap.size, 2, none⟩ (.string ⟨#[]⟩)).setCell ⟨w.heap.size, 3, none⟩ (.int .i64 0)).setCell ⟨w.heap.size, 4, none⟩ (.string ⟨#[]⟩)).setCell ⟨w.heap.size, 5, none⟩ (.string ⟨#[]⟩)).setCell ⟨w.heap.size, 6, none⟩ (.string ⟨#[]⟩)).setCell ⟨w.heap.size, 7, none⟩ (.string ⟨#[]⟩)).setCell ⟨w.heap.size, 8, none⟩ (.string ⟨#[]⟩)).setCell ⟨w.heap.size, 9, none⟩ (.slice none 0 0)).setCell ⟨w.heap.size, 10, none⟩ (.slice none 0 0)) = W9 at *
      have hzk := blk_kept (o := .deferred none) hz3 hK3
      obtain ⟨k0, k1, k2, k3, k4, k5, k6, k7, k8, k9, k10, y0, y1, y2, y3, y4, y5, y6, y7, y8, y9, y10⟩ := mk_facts hzk
      have hbb := hb3.trans (belowK_b (w := w) (Nat.le_refl _) _ D _ (.deferred none) (by omega) hK3 rfl rfl)
      refine ⟨.tuple #[.agg #[.int .i64 0, .int .i64 0, .string ⟨#[]⟩, .int .i64 0, .string ⟨#[]⟩, .string ⟨#[]⟩, .string ⟨#[]⟩, .string ⟨#[]⟩, .string ⟨#[]⟩, .slice none 0 0, .slice none 0 0], .bool false], by simp [results, Tryz.results63, go_sem, k0, k1, k2, k3, k4, k5, k6, k7, k8, k9, k10], rd_none HF.out ⟨_, _, _, _, _, _, _, _, _, _, _, _, _, _, _, rfl⟩ hbb⟩
    have d6 : (k == c.size) = false := by rw [beq_eq_false_iff_ne]; exact q3
    have d7 : ((k : Int) == (c.size : Int)) = false := by rw [beq_eq_false_iff_ne]; omega
    have hkc : k < c.size := by omega
    have hgk := get_bt c k hkc
    by_cases q4 : bt c k = 46 ∨ bt c k = 41
    case neg =>
      have HF : Hid (R = none) := Lib.hid (by rw [HE.out, if_neg (fun h => q4 h.2)])
      have d8 : (((bt c k : Nat) : Int) != 46) = true := by rw [bne_iff_ne]; omega
      have d9 : (((bt c k : Nat) : Int) != 41) = true := by rw [bne_iff_ne]; omega
      clear HE q3 q4
      obtain ⟨k0, k1, k2, k3, k4, k5, k6, k7, k8, k9, k10, y0, y1, y2, y3, y4, y5, y6, y7, y8, y9, y10⟩ := ZM.facts hZ
      go_wp2_with fail
      have hz3 := blk11 hZ (.int .i64 0) (.int .i64 0) (.string ⟨#[]⟩) (.int .i64 0) (.string ⟨#[]⟩) (.string ⟨#[]⟩) (.string ⟨#[]⟩) (.string ⟨#[]⟩) (.string ⟨#[]⟩) (.slice none 0 0) (.slice none 0 0)
      have hK3 := ((((((((((((KeepsOthers.refl W).trans (KeepsOthers.setCell _ ⟨w.heap.size, 0, none⟩ (.int .i64 0))).trans (KeepsOthers.setCell _ ⟨w.heap.size, 1, none⟩ (.int .i64 0))).trans (KeepsOthers.setCell _ ⟨w.heap.size, 2, none⟩ (.string ⟨#[]⟩))).trans (KeepsOthers.setCell _ ⟨w.heap.size, 3, none⟩ (.int .i64 0))).trans (KeepsOthers.setCell _ ⟨w.heap.size, 4, none⟩ (.string ⟨#[]⟩))).trans (KeepsOthers.setCell _ ⟨w.heap.size, 5, none⟩ (.string ⟨#[]⟩))).trans (KeepsOthers.setCell _ ⟨w.heap.size, 6, none⟩ (.string ⟨#[]⟩))).trans (KeepsOthers.setCell _ ⟨w.heap.size, 7, none⟩ (.string ⟨#[]⟩))).trans (KeepsOthers.setCell _ ⟨w.heap.size, 8, none⟩ (.string ⟨#[]⟩))).trans (KeepsOthers.setCell _ ⟨w.heap.size, 9, none⟩ (.slice none 0 0))).trans (KeepsOthers.setCell _ ⟨w.heap.size, 10, none⟩ (.slice none 0 0))).same D _ hK rfl
      have hb3 := below11 hB (Nat.le_refl _) (.int .i64 0) (.int .i64 0) (.string ⟨#[]⟩) (.int .i64 0) (.string ⟨#[]⟩) (.string ⟨#[]⟩) (.string ⟨#[]⟩) (.string ⟨#[]⟩) (.string ⟨#[]⟩) (.slice none 0 0) (.slice none 0 0)
      clear n1 v1 hZ hN hV hK k0 k1 k2 k3 k4 k5 k6 k7 k8 k9 k10 y0 y1 y2 y3 y4 y5 y6 y7 y8 y9 y10
      refine ⟨by simp, .inl ⟨_, _, rfl, run_takeDeferred hK3, ?_⟩⟩
      generalize (((((((((((W.setCell ⟨w.heap.size, 0, none⟩ (.int .i64 0)).setCell ⟨w.heap.size, 1, none⟩ (.int .i64 0)).setCell ⟨w.heap.size, 2, none⟩ (.string ⟨#[]⟩)).setCell ⟨w.heap.size, 3, none⟩ (.int .i64 0)).setCell ⟨w.heap.size, 4, none⟩ (.string ⟨#[]⟩)).setCell ⟨w.heap.size, 5, none⟩ (.string ⟨#[]⟩)).setCell ⟨w.heap.size, 6, none⟩ (.string ⟨#[]⟩)).setCell ⟨w.heap.size, 7, none⟩ (.string ⟨#[]⟩)).setCell ⟨w.heap.size, 8, none⟩ (.string ⟨#[]⟩)).setCell ⟨w.heap.size, 9, none⟩ (.slice none 0 0)).setCell ⟨w.heap.size, 10, none⟩ (.slice none 0 0)) = W9 at *
      have hzk := blk_kept (o := .deferred none) hz3 hK3
      obtain ⟨k0, k1, k2, k3, k4, k5, k6, k7, k8, k9, k10, y0, y1, y2, y3, y4, y5, y6, y7, y8, y9, y10⟩ := mk_facts hzk
      have hbb := hb3.trans (belowK_b (w := w) (Nat.le_refl _) _ D _ (.deferred none) (by omega) hK3 rfl rfl)
      refine ⟨.tuple #[.agg #[.int .i64 0, .int .i64 0, .string ⟨#[]⟩, .int .i64 0, .string ⟨#[]⟩, .string ⟨#[]⟩, .string ⟨#[]⟩, .string ⟨#[]⟩, .string ⟨#[]⟩, .slice none 0 0, .slice none 0 0], .bool false], by simp [results, Tryz.results63, go_sem, k0, k1, k2, k3, k4, k5, k6, k7, k8, k9, k10], rd_none HF.out ⟨_, _, _, _, _, _, _, _, _, _, _, _, _, _, _, rfl⟩ hbb⟩
    have HF : Hid (R = if spB (c.extract (k + 1) c.size) = true then some { kind := 6, n := v, ch := c.extract k (k + 1), off := ind + k + 2, info := c.extract 0 k, rest := tl1 (c.extract (k + 1) c.size) } else none) := Lib.hid (by rw [HE.out, if_pos ⟨by omega, q4⟩])
    clear HE
    have hxs : (c.extract (k + 1) c.size).size ≤ 1000000 := by rw [ByteArray.size_extract]; omega
    have HAf := Lib.hid fun W => m_after (c.extract (k + 1) c.size) W hxs
    generalize tl1 (c.extract (k + 1) c.size) = Y at *
    generalize spB (c.extract (k + 1) c.size) = q at *
    have hdd : (((bt c k : Nat) : Int) != 46) = false ∨ ((((bt c k : Nat) : Int) != 46) = true ∧ (((bt c k : Nat) : Int) != 41) = false) := by
      rcases q4 with h | h
      · left; rw [h]; rfl
      · right; rw [h]; exact ⟨rfl, rfl⟩
    clear q3 q4
    rcases hdd with d8 | ⟨d8, d9⟩
    all_goals
      go_wp2_with fail
      ((with_reducible refine (HAf.out _).mono ?_))
      rintro e W1 ⟨rfl, b1⟩
      have hDl : D < W.heap.size := by
        rcases Nat.lt_or_ge D W.heap.size with h | h
        · exact h
        · rw [Array.getElem?_eq_none h] at hK; cases hK
      replace hK := (b1.block D hDl).trans hK
      replace hZ := Blk.below hZ b1 hZ.lt
      replace hN := (b1.block _ hN.lt).trans hN
      replace hV := (b1.block _ hV.lt).trans hV
      replace hB := hB.trans (b1.mono hB.size)
      clear n1 v1 b1 hDl
      have hN' : Boxed W1 (w.heap.size + 1) 3 (.int .i64 (k : Nat)) := hN
      have hV' : Boxed W1 (w.heap.size + 1 + 1) 3 (.int .i64 (v : Nat)) := hV
      have n1 := hN'.cell
      have v1 := hV'.cell
      clear hN' hV'
      obtain ⟨k0, k1, k2, k3, k4, k5, k6, k7, k8, k9, k10, y0, y1, y2, y3, y4, y5, y6, y7, y8, y9, y10⟩ := ZM.facts hZ
      go_wp2_with fail
      have hw1 : IntKind.i64.wrap ((k : Int) + 1) = (k : Int) + 1 := IntWalk.i64_in _ (by omega)
      have hw2 : IntKind.i64.wrap ((ind : Int) + (k : Int)) = (ind : Int) + (k : Int) := IntWalk.i64_in _ (by omega)
      have hw3 : IntKind.i64.wrap ((ind : Int) + (k : Int) + 2) = (ind : Int) + (k : Int) + 2 := IntWalk.i64_in _ (by omega)
      have hw4 : ((k : Int) + 1).toNat = k + 1 := by omega
      have hw5 : (k : Int) ≤ (c.size : Int) := by omega
      have hw6 : (k : Int) + 1 ≤ (c.size : Int) := by omega
      have hw7 : (k : Int) ≤ (k : Int) + 1 := by omega
      have hw8 : (0 : Int) ≤ (k : Int) + 1 := by omega
      have hw9 : ¬ w.heap.size = w.heap.size + 1 + 1 := by omega
      go_region_held3 (fun w' => w'.cell? ⟨w.heap.size + 1, 0, none⟩ = some (.int .i64 (k : Nat)) ∧ w'.cell? ⟨w.heap.size + 1 + 1, 0, none⟩ = some (.int .i64 (v : Nat))) (go_keep) (fail)
      clear hw1 hw2 hw3 hw4 hw5 hw6 hw7 hw8 hw9
      go_wp2_with fail
      have hz3 := Blk.drew (blk11 hZ (.int .i64 6) (.int .i64 (v : Nat)) (.string (c.extract k (k + 1))) (.int .i64 ((ind : Int) + (k : Int) + 2)) (.string (c.extract 0 k)) (.string Y) (.string ⟨#[]⟩) (.string ⟨#[]⟩) (.string ⟨#[]⟩) (.slice none 0 0) (.slice none 0 0))
      have hK3 := (((((((((((((KeepsOthers.refl W1).trans (KeepsOthers.setCell _ ⟨w.heap.size, 0, none⟩ (.int .i64 6))).trans (KeepsOthers.setCell _ ⟨w.heap.size, 1, none⟩ (.int .i64 (v : Nat)))).trans (KeepsOthers.setCell _ ⟨w.heap.size, 2, none⟩ (.string (c.extract k (k + 1))))).trans (KeepsOthers.setCell _ ⟨w.heap.size, 3, none⟩ (.int .i64 ((ind : Int) + (k : Int) + 2)))).trans (KeepsOthers.setCell _ ⟨w.heap.size, 4, none⟩ (.string (c.extract 0 k)))).trans (KeepsOthers.setCell _ ⟨w.heap.size, 5, none⟩ (.string Y))).trans (KeepsOthers.setCell _ ⟨w.heap.size, 6, none⟩ (.string ⟨#[]⟩))).trans (KeepsOthers.setCell _ ⟨w.heap.size, 7, none⟩ (.string ⟨#[]⟩))).trans (KeepsOthers.setCell _ ⟨w.heap.size, 8, none⟩ (.string ⟨#[]⟩))).trans (KeepsOthers.setCell _ ⟨w.heap.size, 9, none⟩ (.slice none 0 0))).trans (KeepsOthers.setCell _ ⟨w.heap.size, 10, none⟩ (.slice none 0 0))).trans (KeepsOthers.drew _)).same D _ hK rfl
      have hb3 := Below.drew (below11 hB (Nat.le_refl _) (.int .i64 6) (.int .i64 (v : Nat)) (.string (c.extract k (k + 1))) (.int .i64 ((ind : Int) + (k : Int) + 2)) (.string (c.extract 0 k)) (.string Y) (.string ⟨#[]⟩) (.string ⟨#[]⟩) (.string ⟨#[]⟩) (.slice none 0 0) (.slice none 0 0))
      clear n1 v1 hZ hN hV hK k0 k1 k2 k3 k4 k5 k6 k7 k8 k9 k10 y0 y1 y2 y3 y4 y5 y6 y7 y8 y9 y10
      refine ⟨by simp, .inl ⟨_, _, rfl, run_takeDeferred hK3, ?_⟩⟩
      generalize (((((((((((W1.setCell ⟨w.heap.size, 0, none⟩ (.int .i64 6)).setCell ⟨w.heap.size, 1, none⟩ (.int .i64 (v : Nat))).setCell ⟨w.heap.size, 2, none⟩ (.string (c.extract k (k + 1)))).setCell ⟨w.heap.size, 3, none⟩ (.int .i64 ((ind : Int) + (k : Int) + 2))).setCell ⟨w.heap.size, 4, none⟩ (.string (c.extract 0 k))).setCell ⟨w.heap.size, 5, none⟩ (.string Y)).setCell ⟨w.heap.size, 6, none⟩ (.string ⟨#[]⟩)).setCell ⟨w.heap.size, 7, none⟩ (.string ⟨#[]⟩)).setCell ⟨w.heap.size, 8, none⟩ (.string ⟨#[]⟩)).setCell ⟨w.heap.size, 9, none⟩ (.slice none 0 0)).setCell ⟨w.heap.size, 10, none⟩ (.slice none 0 0)).drew = W9 at *
      have hzk := blk_kept (o := .deferred none) hz3 hK3
      obtain ⟨k0, k1, k2, k3, k4, k5, k6, k7, k8, k9, k10, y0, y1, y2, y3, y4, y5, y6, y7, y8, y9, y10⟩ := mk_facts hzk
      have hbb := hb3.trans (belowK_b (w := w) (Nat.le_refl _) _ D _ (.deferred none) (by omega) hK3 rfl rfl)
      refine ⟨.tuple #[.agg #[.int .i64 6, .int .i64 (v : Nat), .string (c.extract k (k + 1)), .int .i64 ((ind : Int) + (k : Int) + 2), .string (c.extract 0 k), .string Y, .string ⟨#[]⟩, .string ⟨#[]⟩, .string ⟨#[]⟩, .slice none 0 0, .slice none 0 0], .bool q], by simp [results, Tryz.results63, go_sem, k0, k1, k2, k3, k4, k5, k6, k7, k8, k9, k10], rd_if HF.out (by have hm := mkVal_plain (m := { kind := 6, n := v, ch := c.extract k (k + 1), off := ind + k + 2, info := c.extract 0 k, rest := Y }) rfl hbb.size; simp only [MkL.cells] at hm; rw [show ((ind + k + 2 : Nat) : Int) = (ind : Int) + (k : Int) + 2 from by omega] at hm; exact hm) hbb⟩

end Go.Proofs.YtpoafhgbhnblmaaGreatDoor
