/-
  Texts of the proof, put together (what this law reaches): MkK, MkL, MkM.
-/
import Derived.Test.YtpoafhgbhnblmaaGreatDoorX19
import Derived.Test.YtpoafhgbhnblmaaGreatDoorX18
import Derived.Test.YtpoafhgbhnblmaaGreatDoorX21
set_option linter.unusedVariables false
set_option linter.unusedSimpArgs false
namespace Go.Proofs.YtpoafhgbhnblmaaGreatDoor
open Go.RowKit Go.Pub Go.Shelf
attribute [local go_sem] Oper.semAt_some
theorem partN_iff (b : Nat) : partN b = true ↔ (97 ≤ b ∧ b ≤ 122) ∨ (65 ≤ b ∧ b ≤ 90) ∨ (48 ≤ b ∧ b ≤ 57) ∨ b = 45 ∨ b = 95 ∨ b = 46 ∨ b = 58 := by
  unfold partN letterN
  simp only [Bool.or_eq_true, Bool.and_eq_true, decide_eq_true_eq, beq_iff_eq]
  omega
def nameN (s : ByteArray) : Nat := firstN s (fun b => !partN b)
set_option maxRecDepth 100000 in
set_option maxHeartbeats 8000000 in
theorem m_nameEnd (s : ByteArray) (w : World) (hs : s.size ≤ 1000000) : Calls Tryz.prog 109 #[.string s] w fun e w' => e = .returned (.int .i64 (nameN s)) ∧ Below w.heap.size w w' := by
  have HP := Lib.hid fun W => characters_any s W
  have HNM : Hid (nameN s = firstN s (fun b => !partN b)) := Lib.hid rfl
  generalize nameN s = nm at *
  refine (callsIn_wide (n := 5)).1 ?_
  refine callsIn_of_wp_marks Tryz.func109 rfl trivial ?_ rfl
  simp only [Tryz.ntmps109, List.size_toArray, List.length_cons, List.length_nil, Nat.reduceAdd, Nat.reduceSub, Array.replicate_succ, Array.replicate_zero, List.push_toArray, List.append_toArray, List.nil_append, List.cons_append]
  gi_wp2_with fail
  refine ⟨trivial, ?_⟩
  ((with_reducible refine (callsIn_wide.2 (HP.out _)).mono ?_))
  rintro e w' ⟨rfl, rfl⟩
  gi_wp2_with fail
  have bR := Boxed.new w 3 (.int .i64 0)
  have bS := Boxed.new (w.alloc (.cells #[.int .i64 0] 3)) 9 (.string s)
  rw [World.size_alloc] at bS
  have hB0 : Below w.heap.size w ((w.alloc (.cells #[.int .i64 0] 3)).alloc (.cells #[.string s] 9)) := ((Below.refl _ w).alloc (Nat.le_refl _) _).alloc (by simp) _
  have bR' := bR.alloc (.cells #[.string s] 9)
  have hzW : ((w.alloc (.cells #[.int .i64 0] 3)).alloc (.cells #[.string s] 9)).heap.size = w.heap.size + 2 := by simp
  generalize ((w.alloc (.cells #[.int .i64 0] 3)).alloc (.cells #[.string s] 9)) = W0 at *
  clear bR
  refine wpIn_rangeFunc_ownG rfl (by omega) (gf := 163) (lb := #[.pointer (some ⟨w.heap.size + 1, 0, none⟩)]) rfl trivial (enters_of Tryz.func163 (by kernel_rfl) rfl)
    (chars_stops 4 (by omega) (w.heap.size + 1) s hs _ bS) (Kp := KpB (w.heap.size + 1)) (fun h1 h2 => h2.trans h1) (fun W l o o' hl ho hc _ => World.putObj_heap_other (fun e => by omega)) (Below.refl _ _) (fun _ => rfl)
    (fun (pre : List (Fin s.size)) W => Boxed W (w.heap.size + 1) 9 (.string s) ∧ Boxed W w.heap.size 3 (.int .i64 0) ∧ (∀ j ∈ pre, partN (bt s j.1) = true) ∧ Below w.heap.size w W)
    (fun q (pre : List (Fin s.size)) W => (q = Code.ret ∧ ∃ pr x, pre = pr ++ [x] ∧ (∀ j ∈ pr, partN (bt s j.1) = true) ∧ partN (bt s x.1) = false) ∧ Boxed W w.heap.size 3 (.int .i64 (lastF pre)) ∧ Below w.heap.size w W)
    (OwnFrom.and (Own.from (boxed_own _ _ (fun _ => .string s)) _) (OwnFrom.and (Own.from (boxed_own _ _ (fun _ => .int .i64 0)) _) (OwnFrom.and (ownFrom_pure _ _) (ownFrom_below (Nat.le_refl _) (by omega)))))
    (fun q => OwnFrom.and (ownFrom_pure _ _) (OwnFrom.and (Own.from (boxed_own _ _ (fun pre => .int .i64 (lastF pre))) _) (ownFrom_below (Nat.le_refl _) (by omega))))
    ⟨bS, bR', fun j h => absurd h (by simp), hB0⟩
    (fun (x : Fin s.size) => { tmps := #[.string s, undef, .pointer (some ⟨w.heap.size, 0, none⟩), .int .i64 (x.1 : Nat), .int .u8 (bt s x.1), undef, .string s, .func (.func 163) #[] #[.pointer (some ⟨w.heap.size + 1, 0, none⟩)], .int .i64 (x.1 : Nat), .int .u8 (bt s x.1), undef, undef, undef, undef, undef, undef, undef, undef, undef, undef, undef, undef, undef, undef, undef, undef, undef, undef, undef, undef, undef, undef, undef, undef, undef, undef, undef, undef, undef, undef, undef, undef, undef, undef, undef, undef, undef, undef, undef, undef, undef, undef, undef], defers := [] }) ?assign ?body ?done ?stop
  case assign =>
    intro l x W K hK
    gi_wp2_with fail
    exact hK
  case body =>
    rintro l pre x W ⟨hsB, hR, hg, hB⟩ hlt
    have HG := Lib.hid hg
    clear hg
    have k2 := hR.cell
    have k3 := hR.frozen
    have hb := bt_lt s x.1
    have NX : partN (bt s x.1) = true → ∀ j ∈ pre ++ [x], partN (bt s j.1) = true := fun hx j hj => by
      rcases List.mem_append.1 hj with hj | hj
      · exact HG.out j hj
      · rw [List.mem_singleton] at hj; rw [hj]; exact hx
    have hcl : (97 ≤ bt s x.1 ∧ bt s x.1 ≤ 122) ∨ (65 ≤ bt s x.1 ∧ bt s x.1 ≤ 90) ∨ (48 ≤ bt s x.1 ∧ bt s x.1 ≤ 57) ∨ (45 ≤ bt s x.1 ∧ bt s x.1 ≤ 45) ∨ (95 ≤ bt s x.1 ∧ bt s x.1 ≤ 95) ∨ (46 ≤ bt s x.1 ∧ bt s x.1 ≤ 46) ∨ (58 ≤ bt s x.1 ∧ bt s x.1 ≤ 58) ∨ (0 ≤ bt s x.1 ∧ bt s x.1 ≤ 44) ∨ (47 ≤ bt s x.1 ∧ bt s x.1 ≤ 47) ∨ (59 ≤ bt s x.1 ∧ bt s x.1 ≤ 64) ∨ (91 ≤ bt s x.1 ∧ bt s x.1 ≤ 94) ∨ (96 ≤ bt s x.1 ∧ bt s x.1 ≤ 96) ∨ (123 ≤ bt s x.1 ∧ bt s x.1 ≤ 255) := by omega
    rcases hcl with h | h | h | h | h | h | h | h | h | h | h | h | h
    case inl =>
      have e0 : decide ((97 : Int) ≤ ((bt s x.1 : Nat) : Int)) = true := decide_eq_true (by omega)
      have e1 : decide (((bt s x.1 : Nat) : Int) ≤ 122) = true := decide_eq_true (by omega)
      have e2 : decide ((65 : Int) ≤ ((bt s x.1 : Nat) : Int)) = true := decide_eq_true (by omega)
      have e3 : decide (((bt s x.1 : Nat) : Int) ≤ 90) = false := decide_eq_false (by omega)
      have e4 : decide (((bt s x.1 : Nat) : Int) < 48) = false := decide_eq_false (by omega)
      have e5 : decide ((57 : Int) < ((bt s x.1 : Nat) : Int)) = true := decide_eq_true (by omega)
      have n45 : (((bt s x.1 : Nat) : Int) != 45) = true := by rw [bne_iff_ne]; omega
      have n95 : (((bt s x.1 : Nat) : Int) != 95) = true := by rw [bne_iff_ne]; omega
      have n46 : (((bt s x.1 : Nat) : Int) != 46) = true := by rw [bne_iff_ne]; omega
      have n58 : (((bt s x.1 : Nat) : Int) != 58) = true := by rw [bne_iff_ne]; omega
      have HN' := Lib.hid (NX ((partN_iff _).2 (by omega)))
      clear NX h
      gi_wp2_with fail
      exact ⟨(KeepsOthers.refl _).from _, rfl, hsB, hR, HN'.out, hB⟩
    case inr.inl =>
      have e0 : decide ((97 : Int) ≤ ((bt s x.1 : Nat) : Int)) = false := decide_eq_false (by omega)
      have e1 : decide (((bt s x.1 : Nat) : Int) ≤ 122) = true := decide_eq_true (by omega)
      have e2 : decide ((65 : Int) ≤ ((bt s x.1 : Nat) : Int)) = true := decide_eq_true (by omega)
      have e3 : decide (((bt s x.1 : Nat) : Int) ≤ 90) = true := decide_eq_true (by omega)
      have e4 : decide (((bt s x.1 : Nat) : Int) < 48) = false := decide_eq_false (by omega)
      have e5 : decide ((57 : Int) < ((bt s x.1 : Nat) : Int)) = true := decide_eq_true (by omega)
      have n45 : (((bt s x.1 : Nat) : Int) != 45) = true := by rw [bne_iff_ne]; omega
      have n95 : (((bt s x.1 : Nat) : Int) != 95) = true := by rw [bne_iff_ne]; omega
      have n46 : (((bt s x.1 : Nat) : Int) != 46) = true := by rw [bne_iff_ne]; omega
      have n58 : (((bt s x.1 : Nat) : Int) != 58) = true := by rw [bne_iff_ne]; omega
      have HN' := Lib.hid (NX ((partN_iff _).2 (by omega)))
      clear NX h
      gi_wp2_with fail
      exact ⟨(KeepsOthers.refl _).from _, rfl, hsB, hR, HN'.out, hB⟩
    case inr.inr.inl =>
      have e0 : decide ((97 : Int) ≤ ((bt s x.1 : Nat) : Int)) = false := decide_eq_false (by omega)
      have e1 : decide (((bt s x.1 : Nat) : Int) ≤ 122) = true := decide_eq_true (by omega)
      have e2 : decide ((65 : Int) ≤ ((bt s x.1 : Nat) : Int)) = false := decide_eq_false (by omega)
      have e3 : decide (((bt s x.1 : Nat) : Int) ≤ 90) = true := decide_eq_true (by omega)
      have e4 : decide (((bt s x.1 : Nat) : Int) < 48) = false := decide_eq_false (by omega)
      have e5 : decide ((57 : Int) < ((bt s x.1 : Nat) : Int)) = false := decide_eq_false (by omega)
      have n45 : (((bt s x.1 : Nat) : Int) != 45) = true := by rw [bne_iff_ne]; omega
      have n95 : (((bt s x.1 : Nat) : Int) != 95) = true := by rw [bne_iff_ne]; omega
      have n46 : (((bt s x.1 : Nat) : Int) != 46) = true := by rw [bne_iff_ne]; omega
      have n58 : (((bt s x.1 : Nat) : Int) != 58) = true := by rw [bne_iff_ne]; omega
      have HN' := Lib.hid (NX ((partN_iff _).2 (by omega)))
      clear NX h
      gi_wp2_with fail
      exact ⟨(KeepsOthers.refl _).from _, rfl, hsB, hR, HN'.out, hB⟩
    case inr.inr.inr.inl =>
      have e0 : decide ((97 : Int) ≤ ((bt s x.1 : Nat) : Int)) = false := decide_eq_false (by omega)
      have e1 : decide (((bt s x.1 : Nat) : Int) ≤ 122) = true := decide_eq_true (by omega)
      have e2 : decide ((65 : Int) ≤ ((bt s x.1 : Nat) : Int)) = false := decide_eq_false (by omega)
      have e3 : decide (((bt s x.1 : Nat) : Int) ≤ 90) = true := decide_eq_true (by omega)
      have e4 : decide (((bt s x.1 : Nat) : Int) < 48) = true := decide_eq_true (by omega)
      have e5 : decide ((57 : Int) < ((bt s x.1 : Nat) : Int)) = false := decide_eq_false (by omega)
      have n45 : (((bt s x.1 : Nat) : Int) != 45) = false := by rw [bne_eq_false_iff_eq]; omega
      have n95 : (((bt s x.1 : Nat) : Int) != 95) = true := by rw [bne_iff_ne]; omega
      have n46 : (((bt s x.1 : Nat) : Int) != 46) = true := by rw [bne_iff_ne]; omega
      have n58 : (((bt s x.1 : Nat) : Int) != 58) = true := by rw [bne_iff_ne]; omega
      have HN' := Lib.hid (NX ((partN_iff _).2 (by omega)))
      clear NX h
      gi_wp2_with fail
      exact ⟨(KeepsOthers.refl _).from _, rfl, hsB, hR, HN'.out, hB⟩
    case inr.inr.inr.inr.inl =>
      have e0 : decide ((97 : Int) ≤ ((bt s x.1 : Nat) : Int)) = false := decide_eq_false (by omega)
      have e1 : decide (((bt s x.1 : Nat) : Int) ≤ 122) = true := decide_eq_true (by omega)
      have e2 : decide ((65 : Int) ≤ ((bt s x.1 : Nat) : Int)) = true := decide_eq_true (by omega)
      have e3 : decide (((bt s x.1 : Nat) : Int) ≤ 90) = false := decide_eq_false (by omega)
      have e4 : decide (((bt s x.1 : Nat) : Int) < 48) = false := decide_eq_false (by omega)
      have e5 : decide ((57 : Int) < ((bt s x.1 : Nat) : Int)) = true := decide_eq_true (by omega)
      have n45 : (((bt s x.1 : Nat) : Int) != 45) = true := by rw [bne_iff_ne]; omega
      have n95 : (((bt s x.1 : Nat) : Int) != 95) = false := by rw [bne_eq_false_iff_eq]; omega
      have n46 : (((bt s x.1 : Nat) : Int) != 46) = true := by rw [bne_iff_ne]; omega
      have n58 : (((bt s x.1 : Nat) : Int) != 58) = true := by rw [bne_iff_ne]; omega
      have HN' := Lib.hid (NX ((partN_iff _).2 (by omega)))
      clear NX h
      gi_wp2_with fail
      exact ⟨(KeepsOthers.refl _).from _, rfl, hsB, hR, HN'.out, hB⟩
    case inr.inr.inr.inr.inr.inl =>
      have e0 : decide ((97 : Int) ≤ ((bt s x.1 : Nat) : Int)) = false := decide_eq_false (by omega)
      have e1 : decide (((bt s x.1 : Nat) : Int) ≤ 122) = true := decide_eq_true (by omega)
      have e2 : decide ((65 : Int) ≤ ((bt s x.1 : Nat) : Int)) = false := decide_eq_false (by omega)
      have e3 : decide (((bt s x.1 : Nat) : Int) ≤ 90) = true := decide_eq_true (by omega)
      have e4 : decide (((bt s x.1 : Nat) : Int) < 48) = true := decide_eq_true (by omega)
      have e5 : decide ((57 : Int) < ((bt s x.1 : Nat) : Int)) = false := decide_eq_false (by omega)
      have n45 : (((bt s x.1 : Nat) : Int) != 45) = true := by rw [bne_iff_ne]; omega
      have n95 : (((bt s x.1 : Nat) : Int) != 95) = true := by rw [bne_iff_ne]; omega
      have n46 : (((bt s x.1 : Nat) : Int) != 46) = false := by rw [bne_eq_false_iff_eq]; omega
      have n58 : (((bt s x.1 : Nat) : Int) != 58) = true := by rw [bne_iff_ne]; omega
      have HN' := Lib.hid (NX ((partN_iff _).2 (by omega)))
      clear NX h
      gi_wp2_with fail
      exact ⟨(KeepsOthers.refl _).from _, rfl, hsB, hR, HN'.out, hB⟩
    case inr.inr.inr.inr.inr.inr.inl =>
      have e0 : decide ((97 : Int) ≤ ((bt s x.1 : Nat) : Int)) = false := decide_eq_false (by omega)
      have e1 : decide (((bt s x.1 : Nat) : Int) ≤ 122) = true := decide_eq_true (by omega)
      have e2 : decide ((65 : Int) ≤ ((bt s x.1 : Nat) : Int)) = false := decide_eq_false (by omega)
      have e3 : decide (((bt s x.1 : Nat) : Int) ≤ 90) = true := decide_eq_true (by omega)
      have e4 : decide (((bt s x.1 : Nat) : Int) < 48) = false := decide_eq_false (by omega)
      have e5 : decide ((57 : Int) < ((bt s x.1 : Nat) : Int)) = true := decide_eq_true (by omega)
      have n45 : (((bt s x.1 : Nat) : Int) != 45) = true := by rw [bne_iff_ne]; omega
      have n95 : (((bt s x.1 : Nat) : Int) != 95) = true := by rw [bne_iff_ne]; omega
      have n46 : (((bt s x.1 : Nat) : Int) != 46) = true := by rw [bne_iff_ne]; omega
      have n58 : (((bt s x.1 : Nat) : Int) != 58) = false := by rw [bne_eq_false_iff_eq]; omega
      have HN' := Lib.hid (NX ((partN_iff _).2 (by omega)))
      clear NX h
      gi_wp2_with fail
      exact ⟨(KeepsOthers.refl _).from _, rfl, hsB, hR, HN'.out, hB⟩
    case inr.inr.inr.inr.inr.inr.inr.inl =>
      have e0 : decide ((97 : Int) ≤ ((bt s x.1 : Nat) : Int)) = false := decide_eq_false (by omega)
      have e1 : decide (((bt s x.1 : Nat) : Int) ≤ 122) = true := decide_eq_true (by omega)
      have e2 : decide ((65 : Int) ≤ ((bt s x.1 : Nat) : Int)) = false := decide_eq_false (by omega)
      have e3 : decide (((bt s x.1 : Nat) : Int) ≤ 90) = true := decide_eq_true (by omega)
      have e4 : decide (((bt s x.1 : Nat) : Int) < 48) = true := decide_eq_true (by omega)
      have e5 : decide ((57 : Int) < ((bt s x.1 : Nat) : Int)) = false := decide_eq_false (by omega)
      have n45 : (((bt s x.1 : Nat) : Int) != 45) = true := by rw [bne_iff_ne]; omega
      have n95 : (((bt s x.1 : Nat) : Int) != 95) = true := by rw [bne_iff_ne]; omega
      have n46 : (((bt s x.1 : Nat) : Int) != 46) = true := by rw [bne_iff_ne]; omega
      have n58 : (((bt s x.1 : Nat) : Int) != 58) = true := by rw [bne_iff_ne]; omega
      have HX : Hid (partN (bt s x.1) = false) := Lib.hid (by rw [Bool.eq_false_iff]; intro hh; have := (partN_iff _).1 hh; omega)
      clear NX h
      gi_wp2_with fail
      exact ⟨(KeepsOthers.setCell _ _ _).from _, ⟨rfl, pre, x, rfl, HG.out, HX.out⟩, by rw [lastF_snoc]; exact hR.set _, hB.setCell (p := ⟨w.heap.size, 0, none⟩) (Nat.le_refl _) _⟩
    case inr.inr.inr.inr.inr.inr.inr.inr.inl =>
      have e0 : decide ((97 : Int) ≤ ((bt s x.1 : Nat) : Int)) = false := decide_eq_false (by omega)
      have e1 : decide (((bt s x.1 : Nat) : Int) ≤ 122) = true := decide_eq_true (by omega)
      have e2 : decide ((65 : Int) ≤ ((bt s x.1 : Nat) : Int)) = false := decide_eq_false (by omega)
      have e3 : decide (((bt s x.1 : Nat) : Int) ≤ 90) = true := decide_eq_true (by omega)
      have e4 : decide (((bt s x.1 : Nat) : Int) < 48) = true := decide_eq_true (by omega)
      have e5 : decide ((57 : Int) < ((bt s x.1 : Nat) : Int)) = false := decide_eq_false (by omega)
      have n45 : (((bt s x.1 : Nat) : Int) != 45) = true := by rw [bne_iff_ne]; omega
      have n95 : (((bt s x.1 : Nat) : Int) != 95) = true := by rw [bne_iff_ne]; omega
      have n46 : (((bt s x.1 : Nat) : Int) != 46) = true := by rw [bne_iff_ne]; omega
      have n58 : (((bt s x.1 : Nat) : Int) != 58) = true := by rw [bne_iff_ne]; omega
      have HX : Hid (partN (bt s x.1) = false) := Lib.hid (by rw [Bool.eq_false_iff]; intro hh; have := (partN_iff _).1 hh; omega)
      clear NX h
      gi_wp2_with fail
      exact ⟨(KeepsOthers.setCell _ _ _).from _, ⟨rfl, pre, x, rfl, HG.out, HX.out⟩, by rw [lastF_snoc]; exact hR.set _, hB.setCell (p := ⟨w.heap.size, 0, none⟩) (Nat.le_refl _) _⟩
    case inr.inr.inr.inr.inr.inr.inr.inr.inr.inl =>
      have e0 : decide ((97 : Int) ≤ ((bt s x.1 : Nat) : Int)) = false := decide_eq_false (by omega)
      have e1 : decide (((bt s x.1 : Nat) : Int) ≤ 122) = true := decide_eq_true (by omega)
      have e2 : decide ((65 : Int) ≤ ((bt s x.1 : Nat) : Int)) = false := decide_eq_false (by omega)
      have e3 : decide (((bt s x.1 : Nat) : Int) ≤ 90) = true := decide_eq_true (by omega)
      have e4 : decide (((bt s x.1 : Nat) : Int) < 48) = false := decide_eq_false (by omega)
      have e5 : decide ((57 : Int) < ((bt s x.1 : Nat) : Int)) = true := decide_eq_true (by omega)
      have n45 : (((bt s x.1 : Nat) : Int) != 45) = true := by rw [bne_iff_ne]; omega
      have n95 : (((bt s x.1 : Nat) : Int) != 95) = true := by rw [bne_iff_ne]; omega
      have n46 : (((bt s x.1 : Nat) : Int) != 46) = true := by rw [bne_iff_ne]; omega
      have n58 : (((bt s x.1 : Nat) : Int) != 58) = true := by rw [bne_iff_ne]; omega
      have HX : Hid (partN (bt s x.1) = false) := Lib.hid (by rw [Bool.eq_false_iff]; intro hh; have := (partN_iff _).1 hh; omega)
      clear NX h
      gi_wp2_with fail
      exact ⟨(KeepsOthers.setCell _ _ _).from _, ⟨rfl, pre, x, rfl, HG.out, HX.out⟩, by rw [lastF_snoc]; exact hR.set _, hB.setCell (p := ⟨w.heap.size, 0, none⟩) (Nat.le_refl _) _⟩
    case inr.inr.inr.inr.inr.inr.inr.inr.inr.inr.inl =>
      have e0 : decide ((97 : Int) ≤ ((bt s x.1 : Nat) : Int)) = false := decide_eq_false (by omega)
      have e1 : decide (((bt s x.1 : Nat) : Int) ≤ 122) = true := decide_eq_true (by omega)
      have e2 : decide ((65 : Int) ≤ ((bt s x.1 : Nat) : Int)) = true := decide_eq_true (by omega)
      have e3 : decide (((bt s x.1 : Nat) : Int) ≤ 90) = false := decide_eq_false (by omega)
      have e4 : decide (((bt s x.1 : Nat) : Int) < 48) = false := decide_eq_false (by omega)
      have e5 : decide ((57 : Int) < ((bt s x.1 : Nat) : Int)) = true := decide_eq_true (by omega)
      have n45 : (((bt s x.1 : Nat) : Int) != 45) = true := by rw [bne_iff_ne]; omega
      have n95 : (((bt s x.1 : Nat) : Int) != 95) = true := by rw [bne_iff_ne]; omega
      have n46 : (((bt s x.1 : Nat) : Int) != 46) = true := by rw [bne_iff_ne]; omega
      have n58 : (((bt s x.1 : Nat) : Int) != 58) = true := by rw [bne_iff_ne]; omega
      have HX : Hid (partN (bt s x.1) = false) := Lib.hid (by rw [Bool.eq_false_iff]; intro hh; have := (partN_iff _).1 hh; omega)
      clear NX h
      gi_wp2_with fail
      exact ⟨(KeepsOthers.setCell _ _ _).from _, ⟨rfl, pre, x, rfl, HG.out, HX.out⟩, by rw [lastF_snoc]; exact hR.set _, hB.setCell (p := ⟨w.heap.size, 0, none⟩) (Nat.le_refl _) _⟩
    case inr.inr.inr.inr.inr.inr.inr.inr.inr.inr.inr.inl =>
      have e0 : decide ((97 : Int) ≤ ((bt s x.1 : Nat) : Int)) = false := decide_eq_false (by omega)
      have e1 : decide (((bt s x.1 : Nat) : Int) ≤ 122) = true := decide_eq_true (by omega)
      have e2 : decide ((65 : Int) ≤ ((bt s x.1 : Nat) : Int)) = true := decide_eq_true (by omega)
      have e3 : decide (((bt s x.1 : Nat) : Int) ≤ 90) = false := decide_eq_false (by omega)
      have e4 : decide (((bt s x.1 : Nat) : Int) < 48) = false := decide_eq_false (by omega)
      have e5 : decide ((57 : Int) < ((bt s x.1 : Nat) : Int)) = true := decide_eq_true (by omega)
      have n45 : (((bt s x.1 : Nat) : Int) != 45) = true := by rw [bne_iff_ne]; omega
      have n95 : (((bt s x.1 : Nat) : Int) != 95) = true := by rw [bne_iff_ne]; omega
      have n46 : (((bt s x.1 : Nat) : Int) != 46) = true := by rw [bne_iff_ne]; omega
      have n58 : (((bt s x.1 : Nat) : Int) != 58) = true := by rw [bne_iff_ne]; omega
      have HX : Hid (partN (bt s x.1) = false) := Lib.hid (by rw [Bool.eq_false_iff]; intro hh; have := (partN_iff _).1 hh; omega)
      clear NX h
      gi_wp2_with fail
      exact ⟨(KeepsOthers.setCell _ _ _).from _, ⟨rfl, pre, x, rfl, HG.out, HX.out⟩, by rw [lastF_snoc]; exact hR.set _, hB.setCell (p := ⟨w.heap.size, 0, none⟩) (Nat.le_refl _) _⟩
    case inr.inr.inr.inr.inr.inr.inr.inr.inr.inr.inr.inr =>
      have e0 : decide ((97 : Int) ≤ ((bt s x.1 : Nat) : Int)) = true := decide_eq_true (by omega)
      have e1 : decide (((bt s x.1 : Nat) : Int) ≤ 122) = false := decide_eq_false (by omega)
      have e2 : decide ((65 : Int) ≤ ((bt s x.1 : Nat) : Int)) = true := decide_eq_true (by omega)
      have e3 : decide (((bt s x.1 : Nat) : Int) ≤ 90) = false := decide_eq_false (by omega)
      have e4 : decide (((bt s x.1 : Nat) : Int) < 48) = false := decide_eq_false (by omega)
      have e5 : decide ((57 : Int) < ((bt s x.1 : Nat) : Int)) = true := decide_eq_true (by omega)
      have n45 : (((bt s x.1 : Nat) : Int) != 45) = true := by rw [bne_iff_ne]; omega
      have n95 : (((bt s x.1 : Nat) : Int) != 95) = true := by rw [bne_iff_ne]; omega
      have n46 : (((bt s x.1 : Nat) : Int) != 46) = true := by rw [bne_iff_ne]; omega
      have n58 : (((bt s x.1 : Nat) : Int) != 58) = true := by rw [bne_iff_ne]; omega
      have HX : Hid (partN (bt s x.1) = false) := Lib.hid (by rw [Bool.eq_false_iff]; intro hh; have := (partN_iff _).1 hh; omega)
      clear NX h
      gi_wp2_with fail
      exact ⟨(KeepsOthers.setCell _ _ _).from _, ⟨rfl, pre, x, rfl, HG.out, HX.out⟩, by rw [lastF_snoc]; exact hR.set _, hB.setCell (p := ⟨w.heap.size, 0, none⟩) (Nat.le_refl _) _⟩
  case done =>
    rintro D ys W hD hys ⟨hsB, hR, hg, hB⟩ hK
    have HE : Hid (nm = s.size) := Lib.hid (by
      rw [HNM.out]
      exact firstN_eq s _ _ (Nat.le_refl _) (fun j hj => by
        have : j ∈ ys.map Fin.val := by rw [hys]; exact List.mem_range.2 hj
        obtain ⟨y, hy, rfl⟩ := List.mem_map.1 this
        rw [hg y hy]; rfl) (fun h => absurd h (by omega)))
    clear hg hys
    have k2 := hR.cell
    have k3 := hR.frozen
    have q1 := hR.set (.int .i64 s.size)
    have q3 : Below w.heap.size w (W.setCell ⟨w.heap.size, 0, none⟩ (.int .i64 s.size)) := hB.setCell (p := ⟨w.heap.size, 0, none⟩) (Nat.le_refl _) _
    have hK' := (KeepsOthers.setCell W ⟨w.heap.size, 0, none⟩ (.int .i64 s.size)).same D _ hK rfl
    gi_wp2_with fail
    refine ⟨by simp, .inl ⟨_, _, rfl, run_takeDeferred hK', ?_⟩⟩
    have c1 := cell_kept q1.cell (grownBy_putObj' _ D (.deferred none)) (fun r e => by cases e; exact ⟨_, hK', rfl⟩)
    refine ⟨.int .i64 s.size, by simp [results, Tryz.results109, go_sem, c1], ?_, q3.trans (belowK_b (w := w) (Nat.le_refl _) _ D _ _ (by omega) hK' rfl rfl)⟩
    rw [HE.out]
  case stop =>
    rintro D q pre W hD hpre ⟨⟨rfl, pr, x, rfl, hg, hx⟩, hR, hB⟩ hK
    rw [List.map_append] at hpre
    obtain ⟨hp1, hp2⟩ := pre_snoc hpre
    have HE : Hid (nm = x.1) := Lib.hid (by
      rw [HNM.out]
      exact firstN_eq s _ _ (Nat.le_of_lt hp2) (fun j hj => by
        have : j ∈ pr.map Fin.val := by rw [hp1]; exact List.mem_range.2 hj
        obtain ⟨y, hy, rfl⟩ := List.mem_map.1 this
        rw [hg y hy]; rfl) (fun _ => by rw [hx]; rfl))
    rw [lastF_snoc] at hR
    clear hg hx hpre hp1
    gi_wp2_with fail
    refine ⟨by simp, .inl ⟨_, _, rfl, run_takeDeferred hK, ?_⟩⟩
    have c1 := cell_kept hR.cell (grownBy_putObj' _ D (.deferred none)) (fun r e => by cases e; exact ⟨_, hK, rfl⟩)
    refine ⟨.int .i64 x.1, by simp [results, Tryz.results109, go_sem, c1], ?_, hB.trans (belowK_b (w := w) (Nat.le_refl _) _ D _ _ (by omega) hK rfl rfl)⟩
    rw [HE.out]

end Go.Proofs.YtpoafhgbhnblmaaGreatDoor
namespace Go.Proofs.YtpoafhgbhnblmaaGreatDoor
open Go.RowKit Go.Pub
/-- What stands behind the first bracket. -/
def cutRest (s : ByteArray) : ByteArray := if brk (bytesL s) < s.size then s.extract (brk (bytesL s) + 1) s.size else ⟨#[]⟩
def cutHead (s : ByteArray) : ByteArray := mk ((bytesL s).take (brk (bytesL s)))
def cutB (s : ByteArray) : Bool := decide (brk (bytesL s) < s.size)
def Cut3Post (s : ByteArray) (w : World) (e : Ending) (w' : World) : Prop := e = .returned (.tuple #[.string (cutHead s), .string (cutRest s), .bool (cutB s)]) ∧ Below w.heap.size w w'
set_option maxRecDepth 100000 in
set_option maxHeartbeats 1000000 in
theorem cut_two (s : ByteArray) (w : World) (hs : s.size ≤ 1000000) : Calls Tryz.prog 165 #[.string s, .string ⟨#[93]⟩] w (Cut3Post s w) := by
  have HI : Hid (∀ W, Calls Tryz.prog 210 #[.string s, .string ⟨#[93]⟩] W fun e w' => e = .returned (.int .i64 (if brk (bytesL s) < s.size then (brk (bytesL s) : Int) else -1)) ∧ W = w') := Lib.hid fun W => by
    refine (Tryz.stringslite_Index_one s 93 W).mono ?_
    rintro e w' ⟨rfl, rfl⟩
    have := brk_index (bytesL s)
    rw [bytesL_length] at this
    exact ⟨ret_int this, rfl⟩
  have HL := brk_le (bytesL s)
  rw [bytesL_length] at HL
  have HX := Lib.hid (extract_take s (brk (bytesL s)))
  have HY : Hid ((bytesL s).take s.size = bytesL s) := Lib.hid (List.take_of_length_le (by rw [bytesL_length]; exact Nat.le_refl _))
  have HP : Hid (∀ a v p w', a = cutHead s → v = cutRest s → p = cutB s → Below w.heap.size w w' → Cut3Post s w (.returned (.tuple #[.string a, .string v, .bool p])) w') := Lib.hid fun a v p w' h1 h2 h3 hb => ⟨by rw [h1, h2, h3], hb⟩
  have H1 : Hid (cutHead s = mk ((bytesL s).take (brk (bytesL s)))) := Lib.hid rfl
  have H2 : Hid (cutRest s = if brk (bytesL s) < s.size then s.extract (brk (bytesL s) + 1) s.size else ⟨#[]⟩) := Lib.hid rfl
  have H3 : Hid (cutB s = decide (brk (bytesL s) < s.size)) := Lib.hid rfl
  generalize cutHead s = q1 at *
  generalize cutRest s = q2 at *
  generalize cutB s = q3 at *
  generalize brk (bytesL s) = k at *
  by_cases hk : k < s.size
  · rw [if_pos hk] at HI H2
    rw [decide_eq_true hk] at H3
    go_enter Tryz.func165, Tryz.ntmps165
    go_wp2_with fail
    ((with_reducible refine (HI.out _).mono ?_))
    rintro e w' ⟨rfl, rfl⟩
    go_wp2
    go_quiet (fail)
    go_wp2
    go_ret3
    exact HP.out _ _ _ _ (by rw [H1.out]; exact HX.out) H2.out.symm H3.out.symm (below_drewN (Below.refl _ _) _)
  · rw [if_neg hk] at HI H2
    rw [decide_eq_false hk] at H3
    obtain rfl : k = s.size := by omega
    have hm : Hid (mk ((bytesL s).take s.size) = s) := Lib.hid (by rw [HY.out, mk_bytesL])
    go_enter Tryz.func165, Tryz.ntmps165
    go_wp2_with fail
    ((with_reducible refine (HI.out _).mono ?_))
    rintro e w' ⟨rfl, rfl⟩
    go_wp2
    go_ret3
    exact HP.out _ _ _ _ (by rw [H1.out]; exact hm.out.symm) H2.out.symm H3.out.symm (Below.refl _ _)

theorem cut_all (s : ByteArray) (w : World) (hs : s.size ≤ 1000000) : Calls Tryz.prog 111 #[.string s, .string ⟨#[93]⟩] w (Cut3Post s w) := by
  have HC := Lib.hid fun W => cut_two s W hs
  have HP : Hid (∀ a v p w', a = cutHead s → v = cutRest s → p = cutB s → Below w.heap.size w w' → Cut3Post s w (.returned (.tuple #[.string a, .string v, .bool p])) w') := Lib.hid fun a v p w' h1 h2 h3 hb => ⟨by rw [h1, h2, h3], hb⟩
  unfold Cut3Post at HC
  generalize cutHead s = q1 at *
  generalize cutRest s = q2 at *
  generalize cutB s = q3 at *
  go_enter Tryz.func111, Tryz.ntmps111
  go_wp2_with fail
  ((with_reducible refine (HC.out _).mono ?_))
  rintro e w' ⟨rfl, b0⟩
  go_wp2
  go_ret3
  exact HP.out _ _ _ _ rfl rfl rfl b0
/-- Attributes alone, with spaces around them, or nothing. -/
def onlyR (s : ByteArray) : Option AttrL :=
  if (mk (trimS (bytesL s))).size = 0 then some emptyA else if (parseL (mk (trimS (bytesL s))) 0).2.2 = 0 ∧ (parseL (mk (trimS (bytesL s))) 0).2.1 = (mk (trimS (bytesL s))).size then some (parseL (mk (trimS (bytesL s))) 0).1 else none
def OAPost (r : Option AttrL) (w : World) (e : Ending) (w' : World) : Prop :=
  (∃ (a : AttrL) (vC vP : Value) (b : Bool), e = .returned (.tuple #[.agg #[.string a.id, vC, vP], .bool b]) ∧ OwnA w' w.heap.size a vC vP ∧ (r = if b = true then some a else none) ∧ (b = false → a = emptyA)) ∧ Below w.heap.size w w'
theorem only_ret {W : World} {g : Nat} {x y z u : Value} {P : Ending → World → Prop} {act : Act} (hr : Blk W g 43 #[x, y, z]) (h4 : act.tmps.getD 2 undef = .pointer (some ⟨g, 0, none⟩))
    (h5 : act.tmps.getD 3 undef = u) (hd : act.defers = []) (hP : P (.returned (.tuple #[.agg #[x, y, z], u])) W) : bodyPost Tryz.prog Tryz.f110 P Exit.ret act W := by
  have c0 : W.cell? ⟨g, 0, none⟩ = some x := hr.cell 0
  have c1 : W.cell? ⟨g, 1, none⟩ = some y := hr.cell 1
  have c2 : W.cell? ⟨g, 2, none⟩ = some z := hr.cell 2
  refine bodyPost_ret (v := .tuple #[.agg #[x, y, z], u]) ?_ hd hP
  rw [Array.getD_eq_getD_getElem?] at h4 h5
  simp [results, Tryz.results110, go_sem, h4, h5, c0, c1, c2]
theorem grown3 (W : World) (g : Nat) (x y z : Value) : W.grownBy (((W.setCell ⟨g, 0, none⟩ x).setCell ⟨g, 1, none⟩ y).setCell ⟨g, 2, none⟩ z) (some g) := only_store (only_store (only_store (only_refl W (some g)) 0 x) 1 y) 2 z
set_option maxRecDepth 100000 in
set_option maxHeartbeats 2000000 in
theorem m_only (s : ByteArray) (w : World) (hs : s.size ≤ 1000000) : Calls Tryz.prog 110 #[.string s] w (OAPost (onlyR s) w) := by
  have HT := Lib.hid fun W => t_trim s W hs
  have htz : (mk (trimS (bytesL s))).size ≤ 1000000 := by rw [mk_size]; have := trimS_len (bytesL s); rw [bytesL_length] at this; omega
  have HR : Hid (onlyR s = if (mk (trimS (bytesL s))).size = 0 then some emptyA else if (parseL (mk (trimS (bytesL s))) 0).2.2 = 0 ∧ (parseL (mk (trimS (bytesL s))) 0).2.1 = (mk (trimS (bytesL s))).size then some (parseL (mk (trimS (bytesL s))) 0).1 else none) := Lib.hid rfl
  generalize onlyR s = R at *
  generalize mk (trimS (bytesL s)) = T at *
  by_cases h0 : T.size = 0
  · have HF : Hid (R = if true = true then some emptyA else none) := Lib.hid (by rw [HR.out, if_pos h0]; rfl)
    obtain ⟨x1, x2⟩ := nil_list T ((size_nil T).1 h0)
    have e0 : T = ⟨#[]⟩ := by rw [← mk_bytesL T, (size_nil T).1 h0]; rfl
    clear HR x1 x2 h0
    subst e0
    go_enter Tryz.func110, Tryz.ntmps110
    go_wp2_with fail
    ((with_reducible refine (HT.out _).mono ?_))
    rintro e w' ⟨rfl, rfl⟩
    go_wp2_with fail
    exact only_ret (Blk.new w _ _) rfl rfl rfl ⟨⟨emptyA, _, _, true, rfl, ownA_empty _ _ ((Below.refl _ w).alloc (Nat.le_refl _) _).size, HF.out, fun h => by cases h⟩, (Below.refl _ w).alloc (Nat.le_refl _) _⟩
  · rw [if_neg h0] at HR
    obtain ⟨x1, x2⟩ := cons_list T (fun e => h0 ((size_nil T).2 e))
    have HPa := Lib.hid fun W => parse_any W T 0 htz
    generalize parseL T 0 = pr at *
    obtain ⟨a, t, n⟩ := pr
    simp only at HR
    have hW : ∀ W1, Below (w.alloc (.cells #[.string ⟨#[]⟩, .slice none 0 0, .slice none 0 0] 43)).heap.size (w.alloc (.cells #[.string ⟨#[]⟩, .slice none 0 0, .slice none 0 0] 43)) W1 → Blk W1 w.heap.size 43 #[.string ⟨#[]⟩, .slice none 0 0, .slice none 0 0] ∧ Below w.heap.size w W1 ∧ w.heap.size < W1.heap.size := fun W1 hb => by
      have h1 := (Blk.new w 43 #[.string ⟨#[]⟩, .slice none 0 0, .slice none 0 0])
      have h2 := ((Below.refl _ w).alloc (Nat.le_refl _) (.cells #[.string ⟨#[]⟩, .slice none 0 0, .slice none 0 0] 43))
      exact ⟨Blk.below h1 hb h1.lt, h2.trans (hb.mono h2.size), Nat.lt_of_lt_of_le h1.lt hb.size⟩
    have HW := Lib.hid hW
    clear hW h0
    have htest : (((n : Int) != 0) = true ∧ Hid (R = none)) ∨ (((n : Int) != 0) = false ∧ (t != T.size) = true ∧ ((t : Int) != (T.size : Int)) = true ∧ Hid (R = none)) ∨ (((n : Int) != 0) = false ∧ (t != T.size) = false ∧ ((t : Int) != (T.size : Int)) = false ∧ Hid (R = some a)) := by
      by_cases h1 : n = 0
      · by_cases h2 : t = T.size
        · right; right; exact ⟨by rw [bne_eq_false_iff_eq]; omega, by rw [bne_eq_false_iff_eq]; exact h2, by rw [bne_eq_false_iff_eq]; omega, Lib.hid (by rw [HR.out, if_pos ⟨h1, h2⟩])⟩
        · right; left; exact ⟨by rw [bne_eq_false_iff_eq]; omega, by rw [bne_iff_ne]; exact h2, by rw [bne_iff_ne]; omega, Lib.hid (by rw [HR.out, if_neg (fun h => h2 h.2)])⟩
      · left; exact ⟨by rw [bne_iff_ne]; omega, Lib.hid (by rw [HR.out, if_neg (fun h => h1 h.1)])⟩
    clear HR
    rcases htest with ⟨d1, HF⟩ | ⟨d1, d2, d3, HF⟩ | ⟨d1, d2, d3, HF⟩
    all_goals
      go_enter Tryz.func110, Tryz.ntmps110
      go_wp2_with fail
      ((with_reducible refine (HT.out _).mono ?_))
      rintro e w' ⟨rfl, rfl⟩
      go_wp2_with fail
      ((with_reducible refine (HPa.out _).mono ?_))
      rintro e W1 ⟨v, rfl, ⟨⟨vC, vP, rfl, hC1, hP1⟩, hc32, hp32⟩, b1⟩
      obtain ⟨qA, qc, rfl⟩ := own_slice hC1
      obtain ⟨qD, qd, rfl⟩ := own_slice hP1
      obtain ⟨hb0, hb1, hb2⟩ := HW.out W1 b1
      have hO : Hid (OwnA (W1.alloc (.cells #[.string a.id, .slice qA a.cl.length qc, .slice qD a.pr.length qd] 43)) (w.heap.size + 1) a (.slice qA a.cl.length qc) (.slice qD a.pr.length qd)) := Lib.hid (by
        have : OwnA W1 (w.heap.size + 1) a (.slice qA a.cl.length qc) (.slice qD a.pr.length qd) := ⟨by simpa using hC1, by simpa using hP1, hb2, hc32, hp32⟩
        exact this.below ((Below.refl _ _).alloc (Nat.le_refl _) _))
      have hz := Blk.alloc hb0 (.cells #[.string a.id, .slice qA a.cl.length qc, .slice qD a.pr.length qd] 43)
      have hbel := hb1.alloc hb1.size (.cells #[.string a.id, .slice qA a.cl.length qc, .slice qD a.pr.length qd] 43)
      have hn := Blk.new W1 43 #[.string a.id, .slice qA a.cl.length qc, .slice qD a.pr.length qd]
      have e0 := hn.cell 0
      have e1 := hn.cell 1
      have e2 := hn.cell 2
      have a0 := hz.cell 0
      have a1 := hz.cell 1
      have a2 := hz.cell 2
      have f0 := hz.frozen 0
      have f1 := hz.frozen 1
      have f2 := hz.frozen 2
      have HB2 := Lib.hid hb2
      clear b1 hb0 hC1 hP1 hb2
      go_wp2_with fail
      have hb2 := HB2.out
      first
      | exact only_ret (blk3 hz rfl _ _ _) rfl rfl rfl ⟨⟨a, _, _, true, rfl, ownA_low (ownA_far hO.out (grown3 _ _ _ _ _) (Nat.lt_succ_self _)) (Nat.le_succ _), by rw [HF.out]; rfl, fun h => by cases h⟩, below3 hbel (Nat.le_refl _) _ _ _⟩
      | exact only_ret (blk3 hz rfl _ _ _) rfl rfl rfl ⟨⟨emptyA, _, _, false, rfl, ownA_empty _ _ (below3 hbel (Nat.le_refl _) _ _ _).size, by rw [HF.out]; rfl, fun _ => rfl⟩, below3 hbel (Nat.le_refl _) _ _ _⟩

end Go.Proofs.YtpoafhgbhnblmaaGreatDoor
namespace Go.Proofs.YtpoafhgbhnblmaaGreatDoor
open Go.RowKit Go.Pub
def divT (T : ByteArray) (n : Nat) : Option MkL :=
  if nameB (T.extract 0 (nameN T)) = true then (onlyR (T.extract (nameN T) T.size)).map fun a => { kind := 9, n := n, info := T.extract 0 (nameN T), att := a } else none
def divM (c : ByteArray) : Option MkL := if 3 ≤ firstN c (· != 58) then divT (mk (trimS (sfx c (firstN c (· != 58))))) (firstN c (· != 58)) else none
theorem nameN_le (s : ByteArray) : nameN s ≤ s.size := firstN_le _ _
set_option maxRecDepth 100000 in
set_option maxHeartbeats 2000000 in
theorem m_directive (c : ByteArray) (ind : Nat) (w : World) (hs : c.size ≤ 1000000) (h0 : 0 < c.size) : Calls Tryz.prog 66 #[.string c, .int .i64 ind] w (RdPost (divM c) w) := by
  have hnl := firstN_le c (· != 58)
  have HRn : Hid (∀ W, Calls Tryz.prog 102 #[.string c, .int .u8 58] W fun e w' => e = .returned (.int .i64 (firstN c (· != 58))) ∧ Below W.heap.size W w') := Lib.hid fun W => m_run c 58 (by omega) W hs
  have HR : Hid (divM c = if 3 ≤ firstN c (· != 58) then divT (mk (trimS (sfx c (firstN c (· != 58))))) (firstN c (· != 58)) else none) := Lib.hid rfl
  generalize divM c = R at *
  generalize firstN c (· != 58) = n at *
  by_cases h1 : n < 3
  · have HF : Hid (R = none) := Lib.hid (by rw [HR.out, if_neg (by omega)])
    have d1 : decide ((n : Int) < 3) = true := decide_eq_true (by omega)
    have d2 : decide (n < 3) = true := decide_eq_true h1
    clear HR
    go_enter Tryz.func66, Tryz.ntmps66
    go_wp2_with fail
    ((with_reducible refine (HRn.out _).mono ?_))
    rintro e w' ⟨rfl, b1⟩
    obtain ⟨HZ, HB⟩ := zw_after b1
    obtain ⟨k0, k1, k2, k3, k4, k5, k6, k7, k8, k9, k10, y0, y1, y2, y3, y4, y5, y6, y7, y8, y9, y10⟩ := ZM.facts HZ
    go_wp2_with fail
    exact directive_ret (blk11 HZ _ _ _ _ _ _ _ _ _ _ _) rfl rfl rfl (rd_none HF.out ⟨_, _, _, _, _, _, _, _, _, _, _, _, _, _, _, rfl⟩ (below11 HB (Nat.le_refl _) _ _ _ _ _ _ _ _ _ _ _))
  have d1 : decide ((n : Int) < 3) = false := decide_eq_false (by omega)
  have d2 : decide (n < 3) = false := decide_eq_false h1
  have hxs : (c.extract n c.size).size ≤ 1000000 := by rw [ByteArray.size_extract]; omega
  have HX := Lib.hid (extract_drop c n)
  have HTr : Hid (∀ W, Calls Tryz.prog 105 #[.string (c.extract n c.size)] W fun e w' => e = .returned (.string (mk (trimS (sfx c n)))) ∧ W = w') := Lib.hid fun W => by
    have h := t_trim (c.extract n c.size) W hxs
    rw [HX.out, bytesL_mk', ← HX.out] at h
    exact h
  have htz : (mk (trimS (sfx c n))).size ≤ 1000000 := by rw [mk_size]; have := trimS_len (sfx c n); rw [sfx_len] at this; omega
  have HR2 : Hid (R = divT (mk (trimS (sfx c n))) n) := Lib.hid (by rw [HR.out, if_pos (by omega)])
  clear HX HR h1
  generalize mk (trimS (sfx c n)) = T at *
  have HNm := Lib.hid fun W => m_nameEnd T W htz
  have hkl := nameN_le T
  have HR3 : Hid (R = if nameB (T.extract 0 (nameN T)) = true then (onlyR (T.extract (nameN T) T.size)).map fun a => { kind := 9, n := n, info := T.extract 0 (nameN T), att := a } else none) := HR2
  clear HR2
  generalize nameN T = k at *
  have hNz : (T.extract 0 k).size = k := by rw [ByteArray.size_extract]; omega
  have hys : (T.extract k T.size).size ≤ 1000000 := by rw [ByteArray.size_extract]; omega
  have HOn := Lib.hid fun W => m_only (T.extract k T.size) W hys
  generalize hN : T.extract 0 k = N at *
  have HNa := Lib.hid fun W => name_any N W (by omega)
  generalize onlyR (T.extract k T.size) = OR at *
  cases hnb : nameB N
  · have HF : Hid (R = none) := Lib.hid (by rw [HR3.out, hnb]; rfl)
    rw [hnb] at HNa
    clear HR3 hnb
    go_enter Tryz.func66, Tryz.ntmps66
    go_wp2_with fail
    ((with_reducible refine (HRn.out _).mono ?_))
    rintro e w' ⟨rfl, b1⟩
    obtain ⟨HZ1, HB1⟩ := zw_after b1
    clear b1
    go_wp2_with fail
    ((with_reducible refine (HTr.out _).mono ?_))
    rintro e w0 ⟨rfl, rfl⟩
    go_wp2_with fail
    ((with_reducible refine (HNm.out _).mono ?_))
    rintro e w2 ⟨rfl, b2⟩
    have HZ := ZM.below HZ1 b2
    have HB := HB1.trans (b2.mono HB1.size)
    clear HZ1 HB1 b2
    go_wp2_with fail
    ((with_reducible refine (HNa.out _).mono ?_))
    rintro e w0 ⟨rfl, rfl⟩
    obtain ⟨k0, k1, k2, k3, k4, k5, k6, k7, k8, k9, k10, y0, y1, y2, y3, y4, y5, y6, y7, y8, y9, y10⟩ := ZM.facts HZ
    go_wp2_with fail
    exact directive_ret (blk11 HZ _ _ _ _ _ _ _ _ _ _ _) rfl rfl rfl (rd_none HF.out ⟨_, _, _, _, _, _, _, _, _, _, _, _, _, _, _, rfl⟩ (below11 HB (Nat.le_refl _) _ _ _ _ _ _ _ _ _ _ _))
  · have HF : Hid (R = OR.map fun a => { kind := 9, n := n, info := N, att := a }) := Lib.hid (by rw [HR3.out, hnb]; rfl)
    rw [hnb] at HNa
    clear HR3 hnb
    go_enter Tryz.func66, Tryz.ntmps66
    go_wp2_with fail
    ((with_reducible refine (HRn.out _).mono ?_))
    rintro e w' ⟨rfl, b1⟩
    obtain ⟨HZ1, HB1⟩ := zw_after b1
    clear b1
    go_wp2_with fail
    ((with_reducible refine (HTr.out _).mono ?_))
    rintro e w0 ⟨rfl, rfl⟩
    go_wp2_with fail
    ((with_reducible refine (HNm.out _).mono ?_))
    rintro e w2 ⟨rfl, b2⟩
    have HZ2 := ZM.below HZ1 b2
    have HB2 := HB1.trans (b2.mono HB1.size)
    clear HZ1 HB1 b2
    go_wp2_with fail
    ((with_reducible refine (HNa.out _).mono ?_))
    rintro e w0 ⟨rfl, rfl⟩
    go_wp2_with fail
    ((with_reducible refine (HOn.out _).mono ?_))
    rintro e w3 ⟨⟨ea, vC, vP, b, rfl, hO, hor, -⟩, b3⟩
    obtain ⟨qA, qc, rfl⟩ := own_slice hO.cls
    obtain ⟨qD, qd, rfl⟩ := own_slice hO.prs
    have HF2 : Hid (R = if b = true then some { kind := 9, n := n, info := N, att := ea } else none) := Lib.hid (by rw [HF.out, hor]; cases b <;> rfl)
    have HZ3 : ZM (w3.alloc (.cells #[.string ea.id, .slice qA ea.cl.length qc, .slice qD ea.pr.length qd] 43)) w.heap.size := Blk.alloc (ZM.below HZ2 b3) _
    have HB3 := (HB2.trans (b3.mono HB2.size)).alloc (Nat.le_trans HB2.size b3.size) (.cells #[.string ea.id, .slice qA ea.cl.length qc, .slice qD ea.pr.length qd] 43)
    have HO3 : Hid (OwnA (w3.alloc (.cells #[.string ea.id, .slice qA ea.cl.length qc, .slice qD ea.pr.length qd] 43)) w2.heap.size ea (.slice qA ea.cl.length qc) (.slice qD ea.pr.length qd)) := Lib.hid (hO.below ((Below.refl _ _).alloc (Nat.le_refl _) _))
    have hlt := Lib.hid (show w.heap.size < w2.heap.size from HZ2.lt)
    have HBn := Blk.new w3 43 #[.string ea.id, .slice qA ea.cl.length qc, .slice qD ea.pr.length qd]
    have e0 := HBn.cell 0
    have e1 := HBn.cell 1
    have e2 := HBn.cell 2
    clear HZ2 hO b3 HBn hor HF
    obtain ⟨k0, k1, k2, k3, k4, k5, k6, k7, k8, k9, k10, y0, y1, y2, y3, y4, y5, y6, y7, y8, y9, y10⟩ := ZM.facts HZ3
    go_wp2_with fail
    refine directive_ret (blk11 HZ3 _ _ _ _ _ _ _ _ _ _ _) rfl rfl rfl (rd_if HF2.out (mkVal_own (m := { kind := 9, n := n, info := N, att := ea }) ?_) (below11 HB3 (Nat.le_refl _) _ _ _ _ _ _ _ _ _ _ _))
    exact ownA_low (ownA_far HO3.out (grown11 _ _ _ _ _ _ _ _ _ _ _ _ _) hlt.out) HB2.size

def noteX (X : ByteArray) : Option MkL := if cutB X = true ∧ nameB (cutHead X) = true ∧ Lib.hasPrefix (bytesL (cutRest X)) [58] = true then some { kind := 10, info := cutHead X, off := 4, rest := stripB (tl1 (cutRest X)) 1 } else none
def noteM (c : ByteArray) : Option MkL := if Lib.hasPrefix (bytesL c) [91, 94] = true then noteX (c.extract 2 c.size) else none
theorem pre_len {s : ByteArray} {p : List UInt8} (h : Lib.hasPrefix (bytesL s) p = true) : p.length ≤ s.size := by
  have : p <+: bytesL s := by simpa [Lib.hasPrefix] using h
  have := this.length_le
  rwa [bytesL_length] at this
theorem cutHead_size (X : ByteArray) : (cutHead X).size ≤ X.size := by
  unfold cutHead
  rw [mk_size, List.length_take, bytesL_length]; omega
theorem cutRest_size (X : ByteArray) : (cutRest X).size ≤ X.size := by
  unfold cutRest
  split
  · rw [ByteArray.size_extract]; omega
  · exact Nat.zero_le _
set_option maxRecDepth 100000 in
set_option maxHeartbeats 2000000 in
theorem m_note (c : ByteArray) (ind : Nat) (w : World) (hs : c.size ≤ 1000000) (h0 : 0 < c.size) : Calls Tryz.prog 67 #[.string c, .int .i64 ind] w (RdPost (noteM c) w) := by
  have HP : Hid (∀ W, Calls Tryz.prog 108 #[.string c, .string ⟨#[91, 94]⟩] W fun e w' => e = .returned (.bool (Lib.hasPrefix (bytesL c) [91, 94])) ∧ W = w') := Lib.hid fun W => (Tryz.strings_HasPrefix c ⟨#[91, 94]⟩ W).mono fun e w' ⟨h, h'⟩ => ⟨h, h'.symm⟩
  have HR : Hid (noteM c = if Lib.hasPrefix (bytesL c) [91, 94] = true then noteX (c.extract 2 c.size) else none) := Lib.hid rfl
  have hl : Lib.hasPrefix (bytesL c) [91, 94] = true → 2 ≤ c.size := fun h => pre_len h
  generalize noteM c = R at *
  cases hp : Lib.hasPrefix (bytesL c) [91, 94]
  · have HF : Hid (R = none) := Lib.hid (by rw [HR.out, hp]; rfl)
    rw [hp] at HP
    clear HR hp hl
    go_enter Tryz.func67, Tryz.ntmps67
    go_wp2_with fail
    ((with_reducible refine (HP.out _).mono ?_))
    rintro e w' ⟨rfl, rfl⟩
    go_wp2_with fail
    exact note_ret (Blk.new w _ _) rfl rfl rfl (rd_none HF.out ⟨_, _, _, _, _, _, _, _, _, _, _, _, _, _, _, rfl⟩ ((Below.refl _ w).alloc (Nat.le_refl _) _))
  have h2 := hl hp
  have HR2 : Hid (R = noteX (c.extract 2 c.size)) := Lib.hid (by rw [HR.out, hp]; rfl)
  rw [hp] at HP
  clear HR hp hl
  have hxs : (c.extract 2 c.size).size ≤ 1000000 := by rw [ByteArray.size_extract]; omega
  generalize hX : c.extract 2 c.size = X at *
  have HC := Lib.hid fun W => cut_all X W hxs
  have hcz := cutHead_size X
  have hrz := cutRest_size X
  have HR3 : Hid (R = if cutB X = true ∧ nameB (cutHead X) = true ∧ Lib.hasPrefix (bytesL (cutRest X)) [58] = true then some { kind := 10, info := cutHead X, off := 4, rest := stripB (tl1 (cutRest X)) 1 } else none) := HR2
  clear HR2
  unfold Cut3Post at HC
  generalize cutB X = cb at *
  generalize cutHead X = N at *
  generalize cutRest X = Y at *
  have HNa := Lib.hid fun W => name_any N W (by omega)
  have HP2 : Hid (∀ W, Calls Tryz.prog 108 #[.string Y, .string ⟨#[58]⟩] W fun e w' => e = .returned (.bool (Lib.hasPrefix (bytesL Y) [58])) ∧ W = w') := Lib.hid fun W => (Tryz.strings_HasPrefix Y ⟨#[58]⟩ W).mono fun e w' ⟨h, h'⟩ => ⟨h, h'.symm⟩
  have hyl : Lib.hasPrefix (bytesL Y) [58] = true → 1 ≤ Y.size := fun h => pre_len h
  have hty := tl1_size Y
  have HTy : Hid (tl1 Y = Y.extract 1 Y.size) := Lib.hid rfl
  have HS : Hid (∀ W, Calls Tryz.prog 107 #[.string (tl1 Y), .int .i64 1] W fun e w' => e = .returned (.string (stripB (tl1 Y) 1)) ∧ W = w') := Lib.hid fun W => t_strip (tl1 Y) 1 W (by omega) (by omega)
  generalize stripB (tl1 Y) 1 = S at *
  rw [HTy.out] at HS
  clear HTy hty
  generalize Lib.hasPrefix (bytesL Y) [58] = pb at *
  cases cb
  · have HF : Hid (R = none) := Lib.hid (by rw [HR3.out]; simp)
    clear HR3
    go_enter Tryz.func67, Tryz.ntmps67
    go_wp2_with fail
    ((with_reducible refine (HP.out _).mono ?_))
    rintro e w' ⟨rfl, rfl⟩
    go_wp2_with fail
    ((with_reducible refine (HC.out _).mono ?_))
    rintro e w' ⟨rfl, b1⟩
    obtain ⟨HZ, HB⟩ := zw_after b1
    obtain ⟨k0, k1, k2, k3, k4, k5, k6, k7, k8, k9, k10, y0, y1, y2, y3, y4, y5, y6, y7, y8, y9, y10⟩ := ZM.facts HZ
    go_wp2_with fail
    exact note_ret (blk11 HZ _ _ _ _ _ _ _ _ _ _ _) rfl rfl rfl (rd_none HF.out ⟨_, _, _, _, _, _, _, _, _, _, _, _, _, _, _, rfl⟩ (below11 HB (Nat.le_refl _) _ _ _ _ _ _ _ _ _ _ _))
  cases hnb : nameB N
  · have HF : Hid (R = none) := Lib.hid (by rw [HR3.out, hnb]; simp)
    rw [hnb] at HNa
    clear HR3 hnb
    go_enter Tryz.func67, Tryz.ntmps67
    go_wp2_with fail
    ((with_reducible refine (HP.out _).mono ?_))
    rintro e w' ⟨rfl, rfl⟩
    go_wp2_with fail
    ((with_reducible refine (HC.out _).mono ?_))
    rintro e w' ⟨rfl, b1⟩
    obtain ⟨HZ, HB⟩ := zw_after b1
    clear b1
    go_wp2_with fail
    ((with_reducible refine (HNa.out _).mono ?_))
    rintro e w0 ⟨rfl, rfl⟩
    obtain ⟨k0, k1, k2, k3, k4, k5, k6, k7, k8, k9, k10, y0, y1, y2, y3, y4, y5, y6, y7, y8, y9, y10⟩ := ZM.facts HZ
    go_wp2_with fail
    exact note_ret (blk11 HZ _ _ _ _ _ _ _ _ _ _ _) rfl rfl rfl (rd_none HF.out ⟨_, _, _, _, _, _, _, _, _, _, _, _, _, _, _, rfl⟩ (below11 HB (Nat.le_refl _) _ _ _ _ _ _ _ _ _ _ _))
  rw [hnb] at HNa
  cases pb
  · have HF : Hid (R = none) := Lib.hid (by rw [HR3.out]; simp)
    clear HR3 hnb
    go_enter Tryz.func67, Tryz.ntmps67
    go_wp2_with fail
    ((with_reducible refine (HP.out _).mono ?_))
    rintro e w' ⟨rfl, rfl⟩
    go_wp2_with fail
    ((with_reducible refine (HC.out _).mono ?_))
    rintro e w' ⟨rfl, b1⟩
    obtain ⟨HZ, HB⟩ := zw_after b1
    clear b1
    go_wp2_with fail
    ((with_reducible refine (HNa.out _).mono ?_))
    rintro e w0 ⟨rfl, rfl⟩
    go_wp2_with fail
    ((with_reducible refine (HP2.out _).mono ?_))
    rintro e w0 ⟨rfl, rfl⟩
    obtain ⟨k0, k1, k2, k3, k4, k5, k6, k7, k8, k9, k10, y0, y1, y2, y3, y4, y5, y6, y7, y8, y9, y10⟩ := ZM.facts HZ
    go_wp2_with fail
    exact note_ret (blk11 HZ _ _ _ _ _ _ _ _ _ _ _) rfl rfl rfl (rd_none HF.out ⟨_, _, _, _, _, _, _, _, _, _, _, _, _, _, _, rfl⟩ (below11 HB (Nat.le_refl _) _ _ _ _ _ _ _ _ _ _ _))
  · have HF : Hid (R = some { kind := 10, info := N, off := 4, rest := S }) := Lib.hid (by rw [HR3.out, hnb]; simp)
    have hy1 := hyl rfl
    clear HR3 hnb hyl
    go_enter Tryz.func67, Tryz.ntmps67
    go_wp2_with fail
    ((with_reducible refine (HP.out _).mono ?_))
    rintro e w' ⟨rfl, rfl⟩
    go_wp2_with fail
    ((with_reducible refine (HC.out _).mono ?_))
    rintro e w' ⟨rfl, b1⟩
    obtain ⟨HZ, HB⟩ := zw_after b1
    clear b1
    go_wp2_with fail
    ((with_reducible refine (HNa.out _).mono ?_))
    rintro e w0 ⟨rfl, rfl⟩
    go_wp2_with fail
    ((with_reducible refine (HP2.out _).mono ?_))
    rintro e w0 ⟨rfl, rfl⟩
    go_wp2_with fail
    ((with_reducible refine (HS.out _).mono ?_))
    rintro e w0 ⟨rfl, rfl⟩
    obtain ⟨k0, k1, k2, k3, k4, k5, k6, k7, k8, k9, k10, y0, y1, y2, y3, y4, y5, y6, y7, y8, y9, y10⟩ := ZM.facts HZ
    go_wp2_with fail
    exact note_ret (blk11 HZ _ _ _ _ _ _ _ _ _ _ _) rfl rfl rfl (rd_some HF.out (mkVal_plain (m := { kind := 10, info := N, off := 4, rest := S }) rfl (below11 HB (Nat.le_refl _) _ _ _ _ _ _ _ _ _ _ _).size) (below11 HB (Nat.le_refl _) _ _ _ _ _ _ _ _ _ _ _))

end Go.Proofs.YtpoafhgbhnblmaaGreatDoor
