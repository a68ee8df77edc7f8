/-
  Texts of the proof, put together (what this law reaches): MkF.
-/
import Derived.Test.YtpoafhgbhnblmaaGreatDoorX14
import Derived.Test.YtpoafhgbhnblmaaGreatDoorX15
import Derived.StillTail
set_option linter.unusedVariables false
set_option linter.unusedSimpArgs false
namespace Go.Pub
open Go Go.RowKit
theorem blk_own {β : Type} (B : Nat) (t : TypeId) (f : β → Array Value) : Own (fun s W => Blk W B t (f s)) := fun s X Y row hs hg hrow =>
  Blk.grown hs hg (fun e' => by obtain ⟨o, ho, hc⟩ := hrow B e'.symm; rw [show X.heap[B]? = _ from hs] at ho; cases ho; cases hc)
theorem row_keep {X Y : World} {row : Option Nat} {n₀ size k : Nat} {e : TypeId} {v : Value} {xs : List Value} (hr : X.ownsRow n₀ e size v k xs) (hg : X.grownBy Y row) (hrow : ∀ r, row = some r → ∃ o : Obj, X.heap[r]? = some o ∧ o.isCells = false) : Y.ownsRow n₀ e size v k xs := by
  refine hr.kept hg ?_
  rcases hr.2 with ⟨rfl, _⟩ | ⟨g, cap, cur, rfl, _, hgb, _⟩
  · exact .inl rfl
  · refine .inr fun e' => ?_
    obtain ⟨o, ho, hc⟩ := hrow g (by simpa [Value.ownBlock] using e'.symm)
    rw [hgb] at ho; cases ho; cases hc
def lastG {n : Nat} (l : List (Fin n)) : Nat := match l.getLast? with | some x => x.1 | none => 0
theorem lastG_snoc {n : Nat} (l : List (Fin n)) (x : Fin n) : lastG (l ++ [x]) = x.1 := by unfold lastG; rw [List.getLast?_concat]
theorem agr_ext (s : ByteArray) (k : Nat) (hk : k ≤ s.size) : Agr s k (s.extract k s.size) 0 (s.size - k) := by
  refine ⟨sfx s k, [], [], by simp, ?_, sfx_len s k⟩
  rw [extract_drop]
  unfold sfx
  rw [bytesL_mk']
  simp
theorem Agr.symm {s s' : ByteArray} {i i' n : Nat} (h : Agr s i s' i' n) : Agr s' i' s i n := by
  obtain ⟨p, r, r', h1, h2, h3⟩ := h
  exact ⟨p, r', r, h2, h1, h3⟩
end Go.Pub
namespace Go.Proofs.YtpoafhgbhnblmaaGreatDoor
open Go.RowKit Go.Pub Go.Shelf
attribute [local go_sem] Oper.semAt_some
/-- Attributes begin at k and end with the string. -/
def attrOkB (s : ByteArray) (k : Nat) : Bool := decide (bt s k = 123) && (decide (k = 0) || decide (bt s (k - 1) = 32)) && (decide ((parseL s k).2.2 = 0) && decide ((parseL s k).2.1 = s.size))
def attrK (s : ByteArray) : Nat := (List.range s.size).findIdx (attrOkB s)
/-- The string without its attributes, and the attributes. -/
def attrEndR (s : ByteArray) : ByteArray × AttrL := if attrK s < s.size then (mk (trimS ((bytesL s).take (attrK s))), (parseL s (attrK s : Nat)).1) else (s, emptyA)
theorem attrK_eq (s : ByteArray) (k : Nat) (hk : k < s.size) (h1 : ∀ j, j < k → attrOkB s j = false) (h2 : attrOkB s k = true) : attrK s = k := by
  unfold attrK
  rw [List.findIdx_eq (by rw [List.length_range]; exact hk)]
  exact ⟨by rw [List.getElem_range]; exact h2, fun j hj => by rw [List.getElem_range]; exact h1 j hj⟩
theorem attrK_none (s : ByteArray) (h : ∀ j, j < s.size → attrOkB s j = false) : attrK s = s.size := by
  unfold attrK
  have : (List.range s.size).findIdx (attrOkB s) = (List.range s.size).length := List.findIdx_eq_length.2 fun x hx => h x (List.mem_range.1 hx)
  rw [this, List.length_range]
theorem attrEnd_some (s : ByteArray) (k : Nat) (hk : k < s.size) (h1 : ∀ j, j < k → attrOkB s j = false) (h2 : attrOkB s k = true) : attrEndR s = (mk (trimS ((bytesL s).take k)), (parseL s k).1) := by
  unfold attrEndR; rw [attrK_eq s k hk h1 h2, if_pos hk]
theorem attrEnd_none (s : ByteArray) (h : ∀ j, j < s.size → attrOkB s j = false) : attrEndR s = (s, emptyA) := by
  unfold attrEndR; rw [attrK_none s h, if_neg (Nat.lt_irrefl _)]
/-- Read from the rest of the string. -/
theorem parse_rest (s : ByteArray) (k : Nat) (hk : k < s.size) :
    ((parseL (s.extract k s.size) 0).2.2 = 0 ∧ (parseL (s.extract k s.size) 0).2.1 = s.size - k ↔ (parseL s k).2.2 = 0 ∧ (parseL s k).2.1 = s.size) ∧ ((parseL s k).2.2 = 0 ∧ (parseL s k).2.1 = s.size → (parseL (s.extract k s.size) 0).1 = (parseL s k).1) := by
  have ha := agr_ext s k (by omega)
  have fwd : (parseL s k).2.2 = 0 ∧ (parseL s k).2.1 = s.size → parseL (s.extract k s.size) (0 : Nat) = ((parseL s k).1, 0 + (s.size - k), 0) := fun ⟨h1, h2⟩ => by
    refine parse_move ha (A := (parseL s k).1) ?_
    rw [show k + (s.size - k) = s.size by omega, ← h1, ← h2]
  have bwd : (parseL (s.extract k s.size) 0).2.2 = 0 ∧ (parseL (s.extract k s.size) 0).2.1 = s.size - k → parseL s (k : Nat) = ((parseL (s.extract k s.size) 0).1, k + (s.size - k), 0) := fun ⟨h1, h2⟩ => by
    refine parse_move ha.symm (A := (parseL (s.extract k s.size) 0).1) ?_
    show parseL (s.extract k s.size) 0 = _
    rw [Nat.zero_add, ← h2, ← h1]
  refine ⟨⟨fun h => ?_, fun h => ?_⟩, fun h => ?_⟩
  · rw [bwd h]; exact ⟨rfl, by show k + (s.size - k) = s.size; omega⟩
  · have := fwd h
    rw [show ((0 : Nat) : Int) = 0 from rfl] at this
    rw [this]; exact ⟨rfl, by show 0 + (s.size - k) = s.size - k; omega⟩
  · have := fwd h
    rw [show ((0 : Nat) : Int) = 0 from rfl] at this
    rw [this]
theorem attrBlk_own {β : Type} (B base : Nat) (f : β → AttrL) : Own (fun s W => ∃ vC vP, Blk W B 43 #[.string (f s).id, vC, vP] ∧ OwnA W base (f s) vC vP) := by
  rintro s X Y row ⟨vC, vP, hb, ho⟩ hg hrow
  exact ⟨vC, vP, blk_own B _ (fun _ => #[.string (f s).id, vC, vP]) s X Y row hb hg hrow, row_keep ho.cls hg hrow, row_keep ho.prs hg hrow, Nat.le_trans ho.le hg.size, ho.c32, ho.p32⟩
def AEPost (r : ByteArray × AttrL) (w : World) (e : Ending) (w' : World) : Prop := ∃ vC vP, e = .returned (.tuple #[.string r.1, .agg #[.string r.2.id, vC, vP]]) ∧ OwnA w' w.heap.size r.2 vC vP ∧ Below w.heap.size w w'
set_option maxRecDepth 100000 in
set_option maxHeartbeats 8000000 in
theorem m_attrEnd (s : ByteArray) (w : World) (hs : s.size ≤ 1000000) : Calls Tryz.prog 104 #[.string s] w (AEPost (attrEndR s) w) := by
  have HP := Lib.hid fun W => characters_any s W
  have HN := Lib.hid (attrEnd_none s)
  have HSo := Lib.hid (attrEnd_some s)
  generalize attrEndR s = R at *
  refine (callsIn_wide (n := 5)).1 ?_
  refine callsIn_of_wp_marks Tryz.func104 rfl trivial ?_ rfl
  simp only [Tryz.ntmps104, List.size_toArray, List.length_cons, List.length_nil, Nat.reduceAdd, Nat.reduceSub, Array.replicate_succ, Array.replicate_zero, List.push_toArray, List.append_toArray, List.nil_append, List.cons_append]
  gi_wp2_with fail
  refine ⟨trivial, ?_⟩
  ((with_reducible refine (callsIn_wide.2 (HP.out _)).mono ?_))
  rintro e w' ⟨rfl, rfl⟩
  gi_wp2_with fail
  have bS := Boxed.new w 9 (.string s)
  have bR := Boxed.new (w.alloc (.cells #[.string s] 9)) 9 (.string ⟨#[]⟩)
  rw [World.size_alloc] at bR
  have bA : Blk (((w.alloc (.cells #[.string s] 9)).alloc (.cells #[.string ⟨#[]⟩] 9)).alloc (.cells #[.string ⟨#[]⟩, .slice none 0 0, .slice none 0 0] 43)) (w.heap.size + 1 + 1) 43 #[.string ⟨#[]⟩, .slice none 0 0, .slice none 0 0] := by
    have := Blk.new ((w.alloc (.cells #[.string s] 9)).alloc (.cells #[.string ⟨#[]⟩] 9)) 43 #[.string ⟨#[]⟩, .slice none 0 0, .slice none 0 0]
    rw [World.size_alloc, World.size_alloc] at this
    exact this
  have bC := Boxed.new (((w.alloc (.cells #[.string s] 9)).alloc (.cells #[.string ⟨#[]⟩] 9)).alloc (.cells #[.string ⟨#[]⟩, .slice none 0 0, .slice none 0 0] 43)) 9 (.string s)
  rw [World.size_alloc, World.size_alloc, World.size_alloc] at bC
  have hB0 : Below w.heap.size w ((((w.alloc (.cells #[.string s] 9)).alloc (.cells #[.string ⟨#[]⟩] 9)).alloc (.cells #[.string ⟨#[]⟩, .slice none 0 0, .slice none 0 0] 43)).alloc (.cells #[.string s] 9)) := ((((Below.refl _ w).alloc (Nat.le_refl _) _).alloc (by simp) _).alloc (by simp; omega) _).alloc (by simp; omega) _
  have bS' := ((bS.alloc (.cells #[.string ⟨#[]⟩] 9)).alloc (.cells #[.string ⟨#[]⟩, .slice none 0 0, .slice none 0 0] 43)).alloc (.cells #[.string s] 9)
  have bR' := (bR.alloc (.cells #[.string ⟨#[]⟩, .slice none 0 0, .slice none 0 0] 43)).alloc (.cells #[.string s] 9)
  have bA' := bA.alloc (.cells #[.string s] 9)
  have hzW : ((((w.alloc (.cells #[.string s] 9)).alloc (.cells #[.string ⟨#[]⟩] 9)).alloc (.cells #[.string ⟨#[]⟩, .slice none 0 0, .slice none 0 0] 43)).alloc (.cells #[.string s] 9)).heap.size = w.heap.size + 4 := by simp
  generalize ((((w.alloc (.cells #[.string s] 9)).alloc (.cells #[.string ⟨#[]⟩] 9)).alloc (.cells #[.string ⟨#[]⟩, .slice none 0 0, .slice none 0 0] 43)).alloc (.cells #[.string s] 9)) = W0 at *
  clear bS bR bA
  refine wpIn_rangeFunc_ownG rfl (by omega) (gf := 163) (lb := #[.pointer (some ⟨w.heap.size + 1 + 1 + 1, 0, none⟩)]) rfl trivial (enters_of Tryz.func163 (by kernel_rfl) rfl)
    (chars_stops 4 (by omega) (w.heap.size + 1 + 1 + 1) s hs _ bC) (Kp := KpB (w.heap.size + 1 + 1 + 1)) (fun h1 h2 => h2.trans h1) (fun W l o o' hl ho hc _ => World.putObj_heap_other (fun e => by omega)) (Below.refl _ _) (fun _ => rfl)
    (fun (pre : List (Fin s.size)) W => (Boxed W w.heap.size 9 (.string s) ∧ Boxed W (w.heap.size + 1 + 1 + 1) 9 (.string s)) ∧ (Boxed W (w.heap.size + 1) 9 (.string ⟨#[]⟩) ∧ Blk W (w.heap.size + 1 + 1) 43 #[.string ⟨#[]⟩, .slice none 0 0, .slice none 0 0]) ∧ (∀ j ∈ pre, attrOkB s j.1 = false) ∧ Below w.heap.size w W)
    (fun q (pre : List (Fin s.size)) W => (q = Code.ret ∧ ∃ pr x, pre = pr ++ [x] ∧ (∀ j ∈ pr, attrOkB s j.1 = false) ∧ attrOkB s x.1 = true) ∧ (Boxed W (w.heap.size + 1) 9 (.string (mk (trimS ((bytesL s).take (lastG pre))))) ∧ ∃ vC vP, Blk W (w.heap.size + 1 + 1) 43 #[.string (parseL s (lastG pre : Nat)).1.id, vC, vP] ∧ OwnA W w.heap.size (parseL s (lastG pre : Nat)).1 vC vP) ∧ Below w.heap.size w W)
    (OwnFrom.and (OwnFrom.and (Own.from (boxed_own _ _ (fun _ => .string s)) _) (Own.from (boxed_own _ _ (fun _ => .string s)) _)) (OwnFrom.and (OwnFrom.and (Own.from (boxed_own _ _ (fun _ => .string ⟨#[]⟩)) _) (Own.from (blk_own _ _ (fun _ => #[.string ⟨#[]⟩, .slice none 0 0, .slice none 0 0])) _)) (OwnFrom.and (ownFrom_pure _ _) (ownFrom_below (Nat.le_refl _) (by omega)))))
    (fun q => OwnFrom.and (ownFrom_pure _ _) (OwnFrom.and (OwnFrom.and (Own.from (boxed_own _ _ (fun (pre : List (Fin s.size)) => .string (mk (trimS ((bytesL s).take (lastG pre)))))) _) (Own.from (attrBlk_own _ _ (fun (pre : List (Fin s.size)) => (parseL s (lastG pre : Nat)).1)) _)) (ownFrom_below (Nat.le_refl _) (by omega))))
    ⟨⟨bS', bC⟩, ⟨bR', bA'⟩, fun j h => absurd h (by simp), hB0⟩
    (fun (x : Fin s.size) => { tmps := #[.string s, .pointer (some ⟨w.heap.size, 0, none⟩), .pointer (some ⟨w.heap.size + 1, 0, none⟩), .pointer (some ⟨w.heap.size + 1 + 1, 0, none⟩), .int .i64 (x.1 : Nat), .int .u8 (bt s x.1), undef, undef, undef, .string s, .func (.func 163) #[] #[.pointer (some ⟨w.heap.size + 1 + 1 + 1, 0, none⟩)], .int .i64 (x.1 : Nat), .int .u8 (bt s x.1), undef, undef, undef, undef, undef, undef, undef, undef, undef, undef, undef, undef, undef, undef, undef, undef, undef, undef, undef, undef, undef, undef, undef, undef, undef, undef, undef, undef, undef, undef, undef, undef, undef, undef, undef, undef, undef, undef], defers := [] }) ?assign ?body ?done ?stop
  case assign =>
    intro l x W K hK
    gi_wp2_with fail
    exact hK
  case body =>
    rintro l pre ⟨k, hk⟩ W ⟨⟨hS, hC⟩, ⟨hR, hA⟩, hg, hB⟩ hlt
    have HG := Lib.hid hg
    clear hg
    have kS := hS.cell
    simp only
    have hmx : Tryz.prog.follows .mixedOrders = true := by kernel_rfl
    have NX : attrOkB s k = false → ∀ j ∈ pre ++ [(⟨k, hk⟩ : Fin s.size)], attrOkB s j.1 = false := fun h j hj => by
      rcases List.mem_append.1 hj with hj | hj
      · exact HG.out j hj
      · rw [List.mem_singleton] at hj; rw [hj]; exact h
    have hcase : ((((bt s k : Nat) : Int) != 123) = true ∧ Hid (attrOkB s k = false)) ∨ ((((bt s k : Nat) : Int) != 123) = false ∧ Hid (bt s k = 123)) := by
      by_cases h : bt s k = 123
      · right; exact ⟨by rw [h]; rfl, Lib.hid h⟩
      · left; exact ⟨by rw [bne_iff_ne]; omega, Lib.hid (by unfold attrOkB; rw [decide_eq_false h]; rfl)⟩
    rcases hcase with ⟨d1, hf⟩ | ⟨d1, h123⟩
    · have HN' := Lib.hid (NX hf.out)
      clear NX hf
      gi_wp2_with fail
      exact ⟨(KeepsOthers.refl _).from _, rfl, ⟨hS, hC⟩, ⟨hR, hA⟩, HN'.out, hB⟩
    have hcase2 : (decide (0 < k) = false ∧ Hid (k = 0)) ∨ (∃ y, ∃ hy : y < s.size, (k : Int) - 1 = (y : Int) ∧ decide (0 < k) = true ∧ Hid (k - 1 = y) ∧ Hid (k ≠ 0)) := by
      by_cases h : k = 0
      · left; exact ⟨decide_eq_false (by omega), Lib.hid h⟩
      · right; exact ⟨k - 1, by omega, by omega, decide_eq_true (by omega), Lib.hid rfl, Lib.hid h⟩
    have hgo : (decide (0 < k) = false ∧ Hid (bt s k = 123 ∧ (k = 0 ∨ bt s (k - 1) = 32))) ∨ (∃ y, ∃ hy : y < s.size, (k : Int) - 1 = (y : Int) ∧ decide (0 < k) = true ∧ s[y].toNat = bt s y ∧ (((bt s y : Nat) : Int) != 32) = false ∧ Hid (bt s k = 123 ∧ (k = 0 ∨ bt s (k - 1) = 32))) ∨ (∃ y, ∃ hy : y < s.size, (k : Int) - 1 = (y : Int) ∧ decide (0 < k) = true ∧ s[y].toNat = bt s y ∧ (((bt s y : Nat) : Int) != 32) = true ∧ Hid (attrOkB s k = false)) := by
      rcases hcase2 with ⟨h1, h2⟩ | ⟨y, hy, h1, h2, h3, h4⟩
      · left; exact ⟨h1, Lib.hid ⟨h123.out, Or.inl h2.out⟩⟩
      · right
        by_cases h : bt s y = 32
        · left; exact ⟨y, hy, h1, h2, get_bt s y hy, by rw [h]; rfl, Lib.hid ⟨h123.out, Or.inr (by rw [h3.out]; exact h)⟩⟩
        · right; exact ⟨y, hy, h1, h2, get_bt s y hy, by rw [bne_iff_ne]; omega, Lib.hid (by unfold attrOkB; rw [decide_eq_false h4.out, h3.out, decide_eq_false h]; simp)⟩
    clear hcase2 h123
    have hlc : ∀ y, bt s y < 256 := bt_lt s
    clear hlc
    have HPa : Hid (∀ W1, CallsIn (Fence.wide.inRound l) (5 - 1 - 1 - 1) Tryz.prog 148 #[.string (s.extract k s.size), .int .i64 0] W1 (ParsePost (parseL (s.extract k s.size) 0) W1)) := Lib.hid fun W1 => CallsIn.inRound l ((callsIn_wide (n := 5 - 1 - 1 - 1)).2 (parse_any W1 (s.extract k s.size) 0 (by rw [ByteArray.size_extract]; omega)))
    obtain ⟨hp1, hp2⟩ := parse_rest s k hk
    have HP1 := Lib.hid hp1
    have HP2 := Lib.hid hp2
    clear hp1 hp2
    have HT : Hid (∀ W, Calls Tryz.prog 105 #[.string (s.extract 0 k)] W fun e w' => e = .returned (.string (mk (trimS ((bytesL s).take k)))) ∧ w' = W) := Lib.hid fun W => by
      have h := (t_trim (s.extract 0 k) W (by rw [ByteArray.size_extract]; omega)).mono fun e w' h => (⟨h.1, h.2.symm⟩ : _ ∧ w' = W)
      rw [extract_take, bytesL_mk'] at h
      rw [extract_take]
      exact h
    generalize parseL (s.extract k s.size) 0 = pr at *
    obtain ⟨a, t, n⟩ := pr
    simp only at HP1 HP2
    have hki : (k : Int) ≤ (s.size : Int) := by omega
    have hsub : (s.size : Int) - (k : Int) = ((s.size - k : Nat) : Int) := by omega
    obtain ⟨m, hm⟩ : ∃ m, m = s.size - k := ⟨_, rfl⟩
    rw [← hm] at hsub HP1
    clear hm
    have htest : (Hid (attrOkB s k = false ∨ ¬ (bt s k = 123 ∧ (k = 0 ∨ bt s (k - 1) = 32))) ∧ (((n : Int) == 0) = false ∨ (((n : Int) == 0) = true ∧ (t == m) = false ∧ ((t : Int) == (m : Int)) = false))) ∨ (Hid ((attrOkB s k = true ∨ ¬ (bt s k = 123 ∧ (k = 0 ∨ bt s (k - 1) = 32))) ∧ a = (parseL s k).1) ∧ ((n : Int) == 0) = true ∧ (t == m) = true ∧ ((t : Int) == (m : Int)) = true) := by
      by_cases hb : bt s k = 123 ∧ (k = 0 ∨ bt s (k - 1) = 32)
      · have e0 : attrOkB s k = (decide ((parseL s k).2.2 = 0) && decide ((parseL s k).2.1 = s.size)) := by
          unfold attrOkB
          rw [decide_eq_true hb.1]
          rcases hb.2 with h | h
          · rw [decide_eq_true h]; simp
          · rw [decide_eq_true h]; simp
        by_cases hh : n = 0 ∧ t = m
        · right
          have := HP1.out.1 hh
          refine ⟨Lib.hid ⟨Or.inl (by rw [e0, decide_eq_true this.1, decide_eq_true this.2]; rfl), HP2.out this⟩, by rw [beq_iff_eq]; omega, by rw [beq_iff_eq]; exact hh.2, by rw [beq_iff_eq]; omega⟩
        · left
          refine ⟨Lib.hid (Or.inl ?_), ?_⟩
          · rw [e0, Bool.and_eq_false_iff, decide_eq_false_iff_not, decide_eq_false_iff_not]
            by_cases h1 : (parseL s k).2.2 = 0
            · right; intro h2; exact hh (HP1.out.2 ⟨h1, h2⟩)
            · left; exact h1
          · by_cases h0 : n = 0
            · right; exact ⟨by rw [beq_iff_eq]; omega, by rw [beq_eq_false_iff_ne]; exact fun e => hh ⟨h0, e⟩, by rw [beq_eq_false_iff_ne]; intro e; exact hh ⟨h0, by omega⟩⟩
            · left; rw [beq_eq_false_iff_ne]; omega
      · by_cases hh : n = 0 ∧ t = m
        · right
          have := HP1.out.1 hh
          exact ⟨Lib.hid ⟨Or.inr hb, HP2.out this⟩, by rw [beq_iff_eq]; omega, by rw [beq_iff_eq]; exact hh.2, by rw [beq_iff_eq]; omega⟩
        · left
          refine ⟨Lib.hid (Or.inr hb), ?_⟩
          by_cases h0 : n = 0
          · right; exact ⟨by rw [beq_iff_eq]; omega, by rw [beq_eq_false_iff_ne]; exact fun e => hh ⟨h0, e⟩, by rw [beq_eq_false_iff_ne]; intro e; exact hh ⟨h0, by omega⟩⟩
          · left; rw [beq_eq_false_iff_ne]; omega
    clear HP1 HP2
    have NX' := Lib.hid NX
    clear NX
    rcases hgo with ⟨d2, hok⟩ | ⟨y, hy, d0, d2, d4, d3, hok⟩ | ⟨y, hy, d0, d2, d4, d3, hf⟩
    case inr.inr =>
      have HN' := Lib.hid (NX'.out hf.out)
      clear htest hf
      gi_wp2_with fail
      exact ⟨(KeepsOthers.refl _).from _, rfl, ⟨hS, hC⟩, ⟨hR, hA⟩, HN'.out, hB⟩
    all_goals
      gi_wp2_with fail
      refine ⟨trivial, ?_⟩
      ((with_reducible refine (HPa.out _).mono ?_))
      rintro e W1 ⟨v, rfl, ⟨⟨vC, vP, rfl, hC1, hP1⟩, hc32, hp32⟩, b1⟩
      obtain ⟨qA, qc, rfl⟩ := own_slice hC1
      obtain ⟨qD, qd, rfl⟩ := own_slice hP1
      have gS : Boxed W1 w.heap.size 9 (.string s) := (b1.block _ hS.lt).trans hS
      have gC : Boxed W1 (w.heap.size + 1 + 1 + 1) 9 (.string s) := (b1.block _ hC.lt).trans hC
      have gR : Boxed W1 (w.heap.size + 1) 9 (.string ⟨#[]⟩) := (b1.block _ hR.lt).trans hR
      have gA : Blk W1 (w.heap.size + 1 + 1) 43 #[.string ⟨#[]⟩, .slice none 0 0, .slice none 0 0] := hA.below b1 hA.lt
      have kS1 := gS.cell
      have gS' := gS.alloc (.cells #[.string a.id, (.slice qA a.cl.length qc), (.slice qD a.pr.length qd)] 43)
      have gC' := gC.alloc (.cells #[.string a.id, (.slice qA a.cl.length qc), (.slice qD a.pr.length qd)] 43)
      have gR' := gR.alloc (.cells #[.string a.id, (.slice qA a.cl.length qc), (.slice qD a.pr.length qd)] 43)
      have gA' := Blk.alloc gA (.cells #[.string a.id, (.slice qA a.cl.length qc), (.slice qD a.pr.length qd)] 43)
      have kS2 := gS'.cell
      have bN := Blk.new W1 43 #[.string a.id, (.slice qA a.cl.length qc), (.slice qD a.pr.length qd)]
      have hBw : Below w.heap.size w (W1.alloc (.cells #[.string a.id, (.slice qA a.cl.length qc), (.slice qD a.pr.length qd)] 43)) := (hB.trans (b1.mono hB.size)).alloc (Nat.le_trans hB.size b1.size) _
      have hkp : KeepsOthers W (W1.alloc (.cells #[.string a.id, (.slice qA a.cl.length qc), (.slice qD a.pr.length qd)] 43)) := (keeps_of_below b1).trans (KeepsOthers.alloc _ _)
      rcases htest with ⟨hno, t1 | ⟨t1, t2, t3⟩⟩ | ⟨hyes, t1, t2, t3⟩
      case inl.inl =>
        have HN' := Lib.hid (NX'.out (hno.out.resolve_right fun h => h hok.out))
        clear hno
        gi_wp2_with fail
        exact ⟨hkp.from _, gC'.trans hC.symm, ⟨gS', gC'⟩, ⟨gR', gA'⟩, HN'.out, hBw⟩
      case inl.inr =>
        have HN' := Lib.hid (NX'.out (hno.out.resolve_right fun h => h hok.out))
        clear hno
        gi_wp2_with fail
        exact ⟨hkp.from _, gC'.trans hC.symm, ⟨gS', gC'⟩, ⟨gR', gA'⟩, HN'.out, hBw⟩
      case inr =>
        obtain ⟨hy1, hy2⟩ := hyes.out
        have HY := Lib.hid (hy1.resolve_right fun h => h hok.out)
        clear hyes hy1
        have HOA : Hid (OwnA (W1.alloc (.cells #[.string a.id, (.slice qA a.cl.length qc), (.slice qD a.pr.length qd)] 43)) w.heap.size a (.slice qA a.cl.length qc) (.slice qD a.pr.length qd)) := Lib.hid ⟨own_below (own_base hC1 hB.size) ((Below.refl _ _).alloc (Nat.le_refl _) _), own_below (own_base hP1 hB.size) ((Below.refl _ _).alloc (Nat.le_refl _) _), hBw.size, hc32, hp32⟩
        have e0 := bN.cell 0
        have e1 := bN.cell 1
        have e2 := bN.cell 2
        have r0 := gR'.cell
        have r1 := gR'.frozen
        have a0 := gA'.cell 0
        have a1 := gA'.cell 1
        have a2 := gA'.cell 2
        have f0 := gA'.frozen 0
        have f1 := gA'.frozen 1
        have f2 := gA'.frozen 2
        have HY2 := Lib.hid hy2
        clear hy2
        have hzz : (W1.alloc (.cells #[.string a.id, (.slice qA a.cl.length qc), (.slice qD a.pr.length qd)] 43)).heap.size = W1.heap.size + 1 := by simp
        gi_wp2_with fail
        generalize W1.alloc (.cells #[.string a.id, (.slice qA a.cl.length qc), (.slice qD a.pr.length qd)] 43) = W2 at *
        have hlow : w.heap.size + 4 ≤ W1.heap.size := by have h1 := hC.lt; have h2 := b1.size; omega
        have HSt : Hid (∀ W' : World, (W'.cell? ⟨w.heap.size, 0, none⟩ = some (.string s) ∧ W'.cell? ⟨W1.heap.size, 0, none⟩ = some (.string a.id) ∧ W'.cell? ⟨W1.heap.size, 1, none⟩ = some (.slice qA a.cl.length qc) ∧ W'.cell? ⟨W1.heap.size, 2, none⟩ = some (.slice qD a.pr.length qd)) → ∀ (o : Nat) (u : Value) (b : Nat), (b = w.heap.size + 1 ∨ b = w.heap.size + 1 + 1) → ((W'.setCell ⟨b, o, none⟩ u).cell? ⟨w.heap.size, 0, none⟩ = some (.string s) ∧ (W'.setCell ⟨b, o, none⟩ u).cell? ⟨W1.heap.size, 0, none⟩ = some (.string a.id) ∧ (W'.setCell ⟨b, o, none⟩ u).cell? ⟨W1.heap.size, 1, none⟩ = some (.slice qA a.cl.length qc) ∧ (W'.setCell ⟨b, o, none⟩ u).cell? ⟨W1.heap.size, 2, none⟩ = some (.slice qD a.pr.length qd))) := Lib.hid fun W' ⟨h1, h2, h3, h4⟩ o u b hb => by
          have g1 : b ≠ w.heap.size := by omega
          have g2 : b ≠ W1.heap.size := by omega
          exact ⟨(World.cell?_setCell_far _ _ _ _ g1).trans h1, (World.cell?_setCell_far _ _ _ _ g2).trans h2, (World.cell?_setCell_far _ _ _ _ g2).trans h3, (World.cell?_setCell_far _ _ _ _ g2).trans h4⟩
        refine regionIn_held (S := fun W' => W'.cell? ⟨w.heap.size, 0, none⟩ = some (.string s) ∧ W'.cell? ⟨W1.heap.size, 0, none⟩ = some (.string a.id) ∧ W'.cell? ⟨W1.heap.size, 1, none⟩ = some (.slice qA a.cl.length qc) ∧ W'.cell? ⟨W1.heap.size, 2, none⟩ = some (.slice qD a.pr.length qd)) hmx (by kernel_rfl) (fun ⟨_, _, h⟩ => h) ⟨kS2, e0, e1, e2⟩ (fun hHeld => ?_)
        refine tk 0 (.string s) rfl hHeld (fun W' hSw => ?_) ?_
        · obtain ⟨h1, h2, h3, h4⟩ := hSw
          go_simp
        refine tk 4 (.agg #[.string a.id, .slice qA a.cl.length qc, .slice qD a.pr.length qd]) rfl hHeld (fun W' hSw => ?_) ?_
        · obtain ⟨h1, h2, h3, h4⟩ := hSw
          go_simp
        refine tk 1 (.int .i64 (k : Nat)) rfl hHeld (fun W' hSw => ?_) ?_
        · go_simp
        refine tk 2 (.string (s.extract 0 k)) rfl hHeld (fun W' hSw => ?_) ?_
        · go_simp
        refine rd1 3 rfl (fun K hK => ?_)
        go_simp
        ((with_reducible refine (HT.out _).mono ?_))
        rintro e w' ⟨rfl, rfl⟩
        refine hK.out _ _ hHeld (fun _ => ?_)
        clear hK K
        refine rd1 5 rfl (fun K hK => ?_)
        go_simp
        refine hK.out _ _ (HSt.out _ hHeld 0 _ _ (Or.inl rfl)) (fun hHeld2 => ?_)
        clear hK K
        refine rd1 6 rfl (fun K hK => ?_)
        go_simp
        refine hK.out _ _ (HSt.out _ (HSt.out _ (HSt.out _ hHeld2 0 _ _ (Or.inr rfl)) 1 _ _ (Or.inr rfl)) 2 _ _ (Or.inr rfl)) (fun _ => ?_)
        clear hK K
        refine wpAnyH_done (by kernel_rfl) ?_ _
        gi_wp2_with fail
        have hB3 : w.heap.size + 3 < W.heap.size := hC.lt
        have far : ∀ (g : Nat) (v : Value) (kk : Nat), (g = w.heap.size + 1 ∨ g = w.heap.size + 1 + 1) → some g ≠ v.ownBlock → v.ownBlock = some kk → g ≠ kk := fun g v kk _ h1 h2 e => h1 (by rw [h2, e])
        have o1 : some (w.heap.size + 1) ≠ (Value.slice qA a.cl.length qc).ownBlock := own_far hC1 (by omega)
        have o2 : some (w.heap.size + 1 + 1) ≠ (Value.slice qA a.cl.length qc).ownBlock := own_far hC1 (by omega)
        have o3 : some (w.heap.size + 1) ≠ (Value.slice qD a.pr.length qd).ownBlock := own_far hP1 (by omega)
        have o4 : some (w.heap.size + 1 + 1) ≠ (Value.slice qD a.pr.length qd).ownBlock := own_far hP1 (by omega)
        refine ⟨(((((hkp.trans (KeepsOthers.setCell _ ⟨w.heap.size + 1, 0, none⟩ _)).trans (KeepsOthers.setCell _ ⟨w.heap.size + 1 + 1, 0, none⟩ _)).trans (KeepsOthers.setCell _ ⟨w.heap.size + 1 + 1, 1, none⟩ _)).trans (KeepsOthers.setCell _ ⟨w.heap.size + 1 + 1, 2, none⟩ _)).trans (KeepsOthers.drew _)).from _, ⟨rfl, pre, ⟨k, hk⟩, rfl, HG.out, HY.out⟩, ⟨?_, .slice qA a.cl.length qc, .slice qD a.pr.length qd, ?_, ?_⟩, ?_⟩
        · rw [lastG_snoc]
          exact Blk.far (Blk.far (Blk.far (gR'.set _) (by simp) _) (by simp) _) (by simp) _
        · rw [lastG_snoc, ← HY2.out]
          exact blk3 (Blk.far gA' (by simp) _) rfl _ _ _
        · rw [lastG_snoc, ← HY2.out]
          have h4 := (((HOA.out.setCell (p := ⟨w.heap.size + 1, 0, none⟩) (fun kk e => far _ _ kk (Or.inl rfl) o1 e) (fun kk e => far _ _ kk (Or.inl rfl) o3 e) (.string (mk (trimS ((bytesL s).take k))))).setCell (p := ⟨w.heap.size + 1 + 1, 0, none⟩) (fun kk e => far _ _ kk (Or.inr rfl) o2 e) (fun kk e => far _ _ kk (Or.inr rfl) o4 e) (.string a.id)).setCell (p := ⟨w.heap.size + 1 + 1, 1, none⟩) (fun kk e => far _ _ kk (Or.inr rfl) o2 e) (fun kk e => far _ _ kk (Or.inr rfl) o4 e) (.slice qA a.cl.length qc)).setCell (p := ⟨w.heap.size + 1 + 1, 2, none⟩) (fun kk e => far _ _ kk (Or.inr rfl) o2 e) (fun kk e => far _ _ kk (Or.inr rfl) o4 e) (.slice qD a.pr.length qd)
          exact ⟨h4.cls, h4.prs, h4.le, h4.c32, h4.p32⟩
        · exact (below3 (hBw.setCell (p := ⟨w.heap.size + 1, 0, none⟩) (by show w.heap.size ≤ w.heap.size + 1; omega) _) (by omega) _ _ _).drew
  case done =>
    rintro D ys W hD hys ⟨⟨hS, hC⟩, ⟨hR, hA⟩, hg, hB⟩ hK
    have HE := Lib.hid (HN.out fun j hj => by
      have : j ∈ ys.map Fin.val := by rw [hys]; exact List.mem_range.2 hj
      obtain ⟨y, hy, rfl⟩ := List.mem_map.1 this
      exact hg y hy)
    clear hg hys
    have kS := hS.cell
    have r0 := hR.cell
    have r1 := hR.frozen
    have a0 := hA.cell 0
    have a1 := hA.cell 1
    have a2 := hA.cell 2
    have f0 := hA.frozen 0
    have f1 := hA.frozen 1
    have f2 := hA.frozen 2
    have HX : Hid (Blk ((((W.setCell ⟨w.heap.size + 1, 0, none⟩ (.string s)).setCell ⟨w.heap.size + 1 + 1, 0, none⟩ (.string ⟨#[]⟩)).setCell ⟨w.heap.size + 1 + 1, 1, none⟩ (.slice none 0 0)).setCell ⟨w.heap.size + 1 + 1, 2, none⟩ (.slice none 0 0)) (w.heap.size + 1 + 1) 43 #[.string ⟨#[]⟩, .slice none 0 0, .slice none 0 0]) := Lib.hid (blk3 (Blk.far hA (by simp) _) rfl _ _ _)
    have HRR : Hid (Boxed ((((W.setCell ⟨w.heap.size + 1, 0, none⟩ (.string s)).setCell ⟨w.heap.size + 1 + 1, 0, none⟩ (.string ⟨#[]⟩)).setCell ⟨w.heap.size + 1 + 1, 1, none⟩ (.slice none 0 0)).setCell ⟨w.heap.size + 1 + 1, 2, none⟩ (.slice none 0 0)) (w.heap.size + 1) 9 (.string s)) := Lib.hid (Blk.far (Blk.far (Blk.far (hR.set _) (by simp) _) (by simp) _) (by simp) _)
    have HBB : Hid (Below w.heap.size w ((((W.setCell ⟨w.heap.size + 1, 0, none⟩ (.string s)).setCell ⟨w.heap.size + 1 + 1, 0, none⟩ (.string ⟨#[]⟩)).setCell ⟨w.heap.size + 1 + 1, 1, none⟩ (.slice none 0 0)).setCell ⟨w.heap.size + 1 + 1, 2, none⟩ (.slice none 0 0))) := Lib.hid (below3 (hB.setCell (p := ⟨w.heap.size + 1, 0, none⟩) (by show w.heap.size ≤ w.heap.size + 1; omega) _) (by omega) _ _ _)
    have HKK : Hid ((((((W.setCell ⟨w.heap.size + 1, 0, none⟩ (.string s)).setCell ⟨w.heap.size + 1 + 1, 0, none⟩ (.string ⟨#[]⟩)).setCell ⟨w.heap.size + 1 + 1, 1, none⟩ (.slice none 0 0)).setCell ⟨w.heap.size + 1 + 1, 2, none⟩ (.slice none 0 0))).heap[D]? = some (.deferred (some []))) := Lib.hid (((((KeepsOthers.setCell W ⟨w.heap.size + 1, 0, none⟩ (.string s)).trans (KeepsOthers.setCell _ ⟨w.heap.size + 1 + 1, 0, none⟩ (.string ⟨#[]⟩))).trans (KeepsOthers.setCell _ ⟨w.heap.size + 1 + 1, 1, none⟩ (.slice none 0 0))).trans (KeepsOthers.setCell _ ⟨w.heap.size + 1 + 1, 2, none⟩ (.slice none 0 0))).same D _ hK rfl)
    gi_wp2_with fail
    refine ⟨by simp, .inl ⟨_, _, rfl, run_takeDeferred HKK.out, ?_⟩⟩
    generalize ((((W.setCell ⟨w.heap.size + 1, 0, none⟩ (.string s)).setCell ⟨w.heap.size + 1 + 1, 0, none⟩ (.string ⟨#[]⟩)).setCell ⟨w.heap.size + 1 + 1, 1, none⟩ (.slice none 0 0)).setCell ⟨w.heap.size + 1 + 1, 2, none⟩ (.slice none 0 0)) = WW at *
    have c0 := cell_kept HRR.out.cell (grownBy_putObj' _ D (.deferred none)) (fun r e => by cases e; exact ⟨_, HKK.out, rfl⟩)
    have c1 := cell_kept (HX.out.cell 0) (grownBy_putObj' _ D (.deferred none)) (fun r e => by cases e; exact ⟨_, HKK.out, rfl⟩)
    have c2 := cell_kept (HX.out.cell 1) (grownBy_putObj' _ D (.deferred none)) (fun r e => by cases e; exact ⟨_, HKK.out, rfl⟩)
    have c3 := cell_kept (HX.out.cell 2) (grownBy_putObj' _ D (.deferred none)) (fun r e => by cases e; exact ⟨_, HKK.out, rfl⟩)
    have hR' := HE.out
    subst hR'
    refine ⟨.tuple #[.string s, .agg #[.string ⟨#[]⟩, .slice none 0 0, .slice none 0 0]], by simp [results, Tryz.results104, go_sem, c0, c1, c2, c3], ⟨_, _, rfl, ownA_empty _ _ (Nat.le_trans HBB.out.size (grownBy_putObj' _ D _).size), ?_⟩⟩
    exact HBB.out.trans (belowK_b (w := w) (Nat.le_refl _) _ D _ _ (by omega) HKK.out rfl rfl)
  case stop =>
    rintro D q pre W hD hpre ⟨⟨rfl, pr, x, rfl, hg, hx⟩, ⟨hR, vC, vP, hA, hO⟩, hB⟩ hK
    rw [List.map_append] at hpre
    obtain ⟨hp1, hp2⟩ := pre_snoc hpre
    have HE := Lib.hid (HSo.out x.1 hp2 (fun j hj => by
      have : j ∈ pr.map Fin.val := by rw [hp1]; exact List.mem_range.2 hj
      obtain ⟨y, hy, rfl⟩ := List.mem_map.1 this
      exact hg y hy) hx)
    rw [lastG_snoc] at hR hA hO
    clear hg hx hpre hp1
    generalize mk (trimS ((bytesL s).take x.1)) = T at *
    generalize (parseL s (x.1 : Nat)).1 = a at *
    gi_wp2_with fail
    refine ⟨by simp, .inl ⟨_, _, rfl, run_takeDeferred hK, ?_⟩⟩
    have c0 := cell_kept hR.cell (grownBy_putObj' _ D (.deferred none)) (fun r e => by cases e; exact ⟨_, hK, rfl⟩)
    have c1 := cell_kept (hA.cell 0) (grownBy_putObj' _ D (.deferred none)) (fun r e => by cases e; exact ⟨_, hK, rfl⟩)
    have c2 := cell_kept (hA.cell 1) (grownBy_putObj' _ D (.deferred none)) (fun r e => by cases e; exact ⟨_, hK, rfl⟩)
    have c3 := cell_kept (hA.cell 2) (grownBy_putObj' _ D (.deferred none)) (fun r e => by cases e; exact ⟨_, hK, rfl⟩)
    have hR' := HE.out
    subst hR'
    refine ⟨.tuple #[.string T, .agg #[.string a.id, vC, vP]], by simp [results, Tryz.results104, go_sem, c0, c1, c2, c3], ⟨vC, vP, rfl, ⟨ownsRow_putObj hO.cls (.deferred none) hK rfl, ownsRow_putObj hO.prs (.deferred none) hK rfl, ?_, hO.c32, hO.p32⟩, ?_⟩⟩
    · exact Nat.le_trans hO.le (grownBy_putObj' W D _).size
    · exact hB.trans (belowK_b (w := w) (Nat.le_refl _) _ D _ _ (by omega) hK rfl rfl)

end Go.Proofs.YtpoafhgbhnblmaaGreatDoor
