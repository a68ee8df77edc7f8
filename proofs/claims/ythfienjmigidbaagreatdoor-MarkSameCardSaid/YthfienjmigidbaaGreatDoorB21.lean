/-
  Texts of the proof, put together: MkK, LinkF, MkL, MkR, SetMap, AttrL, AttrM.
-/
import Derived.Test.YthfienjmigidbaaGreatDoorB14
import Derived.Test.YthfienjmigidbaaGreatDoorB20
import Derived.Test.YthfienjmigidbaaGreatDoorB07
import Derived.Test.YthfienjmigidbaaGreatDoorB11
import Derived.Maps.Own
import Derived.Test.YthfienjmigidbaaGreatDoorB12
import Derived.Deep.QuietTactic
import Derived.BigQuiet
set_option linter.unusedVariables false
set_option linter.unusedSimpArgs false
namespace Go.Proofs.YthfienjmigidbaaGreatDoor
open Go.RowKit Go.Pub Go.Shelf
attribute [local go_sem] Oper.semAt_some

theorem partN_iff (b : Nat) : partN b = true ↔ (97 ≤ b ∧ b ≤ 122) ∨ (65 ≤ b ∧ b ≤ 90) ∨ (48 ≤ b ∧ b ≤ 57) ∨ b = 45 ∨ b = 95 ∨ b = 46 ∨ b = 58 := by
  unfold partN letterN
  simp only [Bool.or_eq_true, Bool.and_eq_true, decide_eq_true_eq, beq_iff_eq]
  omega
def nameN (s : ByteArray) : Nat := firstN s (fun b => !partN b)

set_option maxRecDepth 100000 in
set_option maxHeartbeats 8000000 in
theorem m_nameEnd (s : ByteArray) (w : World) (hs : s.size ≤ 1000000) : Calls Tryz.prog 84 #[.string s] w fun e w' => e = .returned (.int .i64 (nameN s)) ∧ Below w.heap.size w w' := by
  have HP := Lib.hid fun W => characters_any s W
  have HNM : Hid (nameN s = firstN s (fun b => !partN b)) := Lib.hid rfl
  generalize nameN s = nm at *
  refine (callsIn_wide (n := 5)).1 ?_
  refine callsIn_of_wp_marks Tryz.func84 rfl trivial ?_ rfl
  simp only [Tryz.ntmps84, List.size_toArray, List.length_cons, List.length_nil, Nat.reduceAdd, Nat.reduceSub, Array.replicate_succ, Array.replicate_zero, List.push_toArray, List.append_toArray, List.nil_append, List.cons_append]
  gi_wp2_with fail
  refine ⟨trivial, ?_⟩
  ((with_reducible refine (callsIn_wide.2 (HP.out _)).mono ?_))
  rintro e w' ⟨rfl, rfl⟩
  gi_wp2_with fail
  have bR := Boxed.new w 3 (.int .i64 0)
  have bS := Boxed.new (w.alloc (.cells #[.int .i64 0] 3)) 9 (.string s)
  rw [World.size_alloc] at bS
  have hB0 : Below w.heap.size w ((w.alloc (.cells #[.int .i64 0] 3)).alloc (.cells #[.string s] 9)) := ((Below.refl _ w).alloc (Nat.le_refl _) _).alloc (by simp) _
  have bR' := bR.alloc (.cells #[.string s] 9)
  have hzW : ((w.alloc (.cells #[.int .i64 0] 3)).alloc (.cells #[.string s] 9)).heap.size = w.heap.size + 2 := by simp
  generalize ((w.alloc (.cells #[.int .i64 0] 3)).alloc (.cells #[.string s] 9)) = W0 at *
  clear bR
  refine wpIn_rangeFunc_ownG rfl (by omega) (gf := 115) (lb := #[.pointer (some ⟨w.heap.size + 1, 0, none⟩)]) rfl trivial (enters_of Tryz.func115 (by kernel_rfl) rfl)
    (chars_stops 4 (by omega) (w.heap.size + 1) s hs _ bS) (Kp := KpB (w.heap.size + 1)) (fun h1 h2 => h2.trans h1) (fun W l o o' hl ho hc _ => World.putObj_heap_other (fun e => by omega)) (Below.refl _ _) (fun _ => rfl)
    (fun (pre : List (Fin s.size)) W => Boxed W (w.heap.size + 1) 9 (.string s) ∧ Boxed W w.heap.size 3 (.int .i64 0) ∧ (∀ j ∈ pre, partN (bt s j.1) = true) ∧ Below w.heap.size w W)
    (fun q (pre : List (Fin s.size)) W => (q = Code.ret ∧ ∃ pr x, pre = pr ++ [x] ∧ (∀ j ∈ pr, partN (bt s j.1) = true) ∧ partN (bt s x.1) = false) ∧ Boxed W w.heap.size 3 (.int .i64 (lastF pre)) ∧ Below w.heap.size w W)
    (OwnFrom.and (Own.from (boxed_own _ _ (fun _ => .string s)) _) (OwnFrom.and (Own.from (boxed_own _ _ (fun _ => .int .i64 0)) _) (OwnFrom.and (ownFrom_pure _ _) (ownFrom_below (Nat.le_refl _) (by omega)))))
    (fun q => OwnFrom.and (ownFrom_pure _ _) (OwnFrom.and (Own.from (boxed_own _ _ (fun pre => .int .i64 (lastF pre))) _) (ownFrom_below (Nat.le_refl _) (by omega))))
    ⟨bS, bR', fun j h => absurd h (by simp), hB0⟩
    (fun (x : Fin s.size) => { tmps := #[.string s, undef, .pointer (some ⟨w.heap.size, 0, none⟩), .int .i64 (x.1 : Nat), .int .u8 (bt s x.1), undef, .string s, .func (.func 115) #[] #[.pointer (some ⟨w.heap.size + 1, 0, none⟩)], .int .i64 (x.1 : Nat), .int .u8 (bt s x.1), undef, undef, undef, undef, undef, undef, undef, undef, undef, undef, undef, undef, undef, undef, undef, undef, undef, undef, undef, undef, undef, undef, undef, undef, undef, undef, undef, undef, undef, undef, undef, undef, undef, undef, undef, undef, undef, undef, undef, undef, undef, undef, undef], defers := [] }) ?assign ?body ?done ?stop
  case assign =>
    intro l x W K hK
    gi_wp2_with fail
    exact hK
  case body =>
    rintro l pre x W ⟨hsB, hR, hg, hB⟩ hlt
    have HG := Lib.hid hg
    clear hg
    have k2 := hR.cell
    have k3 := hR.frozen
    have hb := bt_lt s x.1
    have NX : partN (bt s x.1) = true → ∀ j ∈ pre ++ [x], partN (bt s j.1) = true := fun hx j hj => by
      rcases List.mem_append.1 hj with hj | hj
      · exact HG.out j hj
      · rw [List.mem_singleton] at hj; rw [hj]; exact hx
    have hcl : (97 ≤ bt s x.1 ∧ bt s x.1 ≤ 122) ∨ (65 ≤ bt s x.1 ∧ bt s x.1 ≤ 90) ∨ (48 ≤ bt s x.1 ∧ bt s x.1 ≤ 57) ∨ (45 ≤ bt s x.1 ∧ bt s x.1 ≤ 45) ∨ (95 ≤ bt s x.1 ∧ bt s x.1 ≤ 95) ∨ (46 ≤ bt s x.1 ∧ bt s x.1 ≤ 46) ∨ (58 ≤ bt s x.1 ∧ bt s x.1 ≤ 58) ∨ (0 ≤ bt s x.1 ∧ bt s x.1 ≤ 44) ∨ (47 ≤ bt s x.1 ∧ bt s x.1 ≤ 47) ∨ (59 ≤ bt s x.1 ∧ bt s x.1 ≤ 64) ∨ (91 ≤ bt s x.1 ∧ bt s x.1 ≤ 94) ∨ (96 ≤ bt s x.1 ∧ bt s x.1 ≤ 96) ∨ (123 ≤ bt s x.1 ∧ bt s x.1 ≤ 255) := by omega
    rcases hcl with h | h | h | h | h | h | h | h | h | h | h | h | h
    case inl =>
      have e0 : decide ((97 : Int) ≤ ((bt s x.1 : Nat) : Int)) = true := decide_eq_true (by omega)
      have e1 : decide (((bt s x.1 : Nat) : Int) ≤ 122) = true := decide_eq_true (by omega)
      have e2 : decide ((65 : Int) ≤ ((bt s x.1 : Nat) : Int)) = true := decide_eq_true (by omega)
      have e3 : decide (((bt s x.1 : Nat) : Int) ≤ 90) = false := decide_eq_false (by omega)
      have e4 : decide (((bt s x.1 : Nat) : Int) < 48) = false := decide_eq_false (by omega)
      have e5 : decide ((57 : Int) < ((bt s x.1 : Nat) : Int)) = true := decide_eq_true (by omega)
      have n45 : (((bt s x.1 : Nat) : Int) != 45) = true := by rw [bne_iff_ne]; omega
      have n95 : (((bt s x.1 : Nat) : Int) != 95) = true := by rw [bne_iff_ne]; omega
      have n46 : (((bt s x.1 : Nat) : Int) != 46) = true := by rw [bne_iff_ne]; omega
      have n58 : (((bt s x.1 : Nat) : Int) != 58) = true := by rw [bne_iff_ne]; omega
      have HN' := Lib.hid (NX ((partN_iff _).2 (by omega)))
      clear NX h
      gi_wp2_with fail
      exact ⟨(KeepsOthers.refl _).from _, rfl, hsB, hR, HN'.out, hB⟩
    case inr.inl =>
      have e0 : decide ((97 : Int) ≤ ((bt s x.1 : Nat) : Int)) = false := decide_eq_false (by omega)
      have e1 : decide (((bt s x.1 : Nat) : Int) ≤ 122) = true := decide_eq_true (by omega)
      have e2 : decide ((65 : Int) ≤ ((bt s x.1 : Nat) : Int)) = true := decide_eq_true (by omega)
      have e3 : decide (((bt s x.1 : Nat) : Int) ≤ 90) = true := decide_eq_true (by omega)
      have e4 : decide (((bt s x.1 : Nat) : Int) < 48) = false := decide_eq_false (by omega)
      have e5 : decide ((57 : Int) < ((bt s x.1 : Nat) : Int)) = true := decide_eq_true (by omega)
      have n45 : (((bt s x.1 : Nat) : Int) != 45) = true := by rw [bne_iff_ne]; omega
      have n95 : (((bt s x.1 : Nat) : Int) != 95) = true := by rw [bne_iff_ne]; omega
      have n46 : (((bt s x.1 : Nat) : Int) != 46) = true := by rw [bne_iff_ne]; omega
      have n58 : (((bt s x.1 : Nat) : Int) != 58) = true := by rw [bne_iff_ne]; omega
      have HN' := Lib.hid (NX ((partN_iff _).2 (by omega)))
      clear NX h
      gi_wp2_with fail
      exact ⟨(KeepsOthers.refl _).from _, rfl, hsB, hR, HN'.out, hB⟩
    case inr.inr.inl =>
      have e0 : decide ((97 : Int) ≤ ((bt s x.1 : Nat) : Int)) = false := decide_eq_false (by omega)
      have e1 : decide (((bt s x.1 : Nat) : Int) ≤ 122) = true := decide_eq_true (by omega)
      have e2 : decide ((65 : Int) ≤ ((bt s x.1 : Nat) : Int)) = false := decide_eq_false (by omega)
      have e3 : decide (((bt s x.1 : Nat) : Int) ≤ 90) = true := decide_eq_true (by omega)
      have e4 : decide (((bt s x.1 : Nat) : Int) < 48) = false := decide_eq_false (by omega)
      have e5 : decide ((57 : Int) < ((bt s x.1 : Nat) : Int)) = false := decide_eq_false (by omega)
      have n45 : (((bt s x.1 : Nat) : Int) != 45) = true := by rw [bne_iff_ne]; omega
      have n95 : (((bt s x.1 : Nat) : Int) != 95) = true := by rw [bne_iff_ne]; omega
      have n46 : (((bt s x.1 : Nat) : Int) != 46) = true := by rw [bne_iff_ne]; omega
      have n58 : (((bt s x.1 : Nat) : Int) != 58) = true := by rw [bne_iff_ne]; omega
      have HN' := Lib.hid (NX ((partN_iff _).2 (by omega)))
      clear NX h
      gi_wp2_with fail
      exact ⟨(KeepsOthers.refl _).from _, rfl, hsB, hR, HN'.out, hB⟩
    case inr.inr.inr.inl =>
      have e0 : decide ((97 : Int) ≤ ((bt s x.1 : Nat) : Int)) = false := decide_eq_false (by omega)
      have e1 : decide (((bt s x.1 : Nat) : Int) ≤ 122) = true := decide_eq_true (by omega)
      have e2 : decide ((65 : Int) ≤ ((bt s x.1 : Nat) : Int)) = false := decide_eq_false (by omega)
      have e3 : decide (((bt s x.1 : Nat) : Int) ≤ 90) = true := decide_eq_true (by omega)
      have e4 : decide (((bt s x.1 : Nat) : Int) < 48) = true := decide_eq_true (by omega)
      have e5 : decide ((57 : Int) < ((bt s x.1 : Nat) : Int)) = false := decide_eq_false (by omega)
      have n45 : (((bt s x.1 : Nat) : Int) != 45) = false := by rw [bne_eq_false_iff_eq]; omega
      have n95 : (((bt s x.1 : Nat) : Int) != 95) = true := by rw [bne_iff_ne]; omega
      have n46 : (((bt s x.1 : Nat) : Int) != 46) = true := by rw [bne_iff_ne]; omega
      have n58 : (((bt s x.1 : Nat) : Int) != 58) = true := by rw [bne_iff_ne]; omega
      have HN' := Lib.hid (NX ((partN_iff _).2 (by omega)))
      clear NX h
      gi_wp2_with fail
      exact ⟨(KeepsOthers.refl _).from _, rfl, hsB, hR, HN'.out, hB⟩
    case inr.inr.inr.inr.inl =>
      have e0 : decide ((97 : Int) ≤ ((bt s x.1 : Nat) : Int)) = false := decide_eq_false (by omega)
      have e1 : decide (((bt s x.1 : Nat) : Int) ≤ 122) = true := decide_eq_true (by omega)
      have e2 : decide ((65 : Int) ≤ ((bt s x.1 : Nat) : Int)) = true := decide_eq_true (by omega)
      have e3 : decide (((bt s x.1 : Nat) : Int) ≤ 90) = false := decide_eq_false (by omega)
      have e4 : decide (((bt s x.1 : Nat) : Int) < 48) = false := decide_eq_false (by omega)
      have e5 : decide ((57 : Int) < ((bt s x.1 : Nat) : Int)) = true := decide_eq_true (by omega)
      have n45 : (((bt s x.1 : Nat) : Int) != 45) = true := by rw [bne_iff_ne]; omega
      have n95 : (((bt s x.1 : Nat) : Int) != 95) = false := by rw [bne_eq_false_iff_eq]; omega
      have n46 : (((bt s x.1 : Nat) : Int) != 46) = true := by rw [bne_iff_ne]; omega
      have n58 : (((bt s x.1 : Nat) : Int) != 58) = true := by rw [bne_iff_ne]; omega
      have HN' := Lib.hid (NX ((partN_iff _).2 (by omega)))
      clear NX h
      gi_wp2_with fail
      exact ⟨(KeepsOthers.refl _).from _, rfl, hsB, hR, HN'.out, hB⟩
    case inr.inr.inr.inr.inr.inl =>
      have e0 : decide ((97 : Int) ≤ ((bt s x.1 : Nat) : Int)) = false := decide_eq_false (by omega)
      have e1 : decide (((bt s x.1 : Nat) : Int) ≤ 122) = true := decide_eq_true (by omega)
      have e2 : decide ((65 : Int) ≤ ((bt s x.1 : Nat) : Int)) = false := decide_eq_false (by omega)
      have e3 : decide (((bt s x.1 : Nat) : Int) ≤ 90) = true := decide_eq_true (by omega)
      have e4 : decide (((bt s x.1 : Nat) : Int) < 48) = true := decide_eq_true (by omega)
      have e5 : decide ((57 : Int) < ((bt s x.1 : Nat) : Int)) = false := decide_eq_false (by omega)
      have n45 : (((bt s x.1 : Nat) : Int) != 45) = true := by rw [bne_iff_ne]; omega
      have n95 : (((bt s x.1 : Nat) : Int) != 95) = true := by rw [bne_iff_ne]; omega
      have n46 : (((bt s x.1 : Nat) : Int) != 46) = false := by rw [bne_eq_false_iff_eq]; omega
      have n58 : (((bt s x.1 : Nat) : Int) != 58) = true := by rw [bne_iff_ne]; omega
      have HN' := Lib.hid (NX ((partN_iff _).2 (by omega)))
      clear NX h
      gi_wp2_with fail
      exact ⟨(KeepsOthers.refl _).from _, rfl, hsB, hR, HN'.out, hB⟩
    case inr.inr.inr.inr.inr.inr.inl =>
      have e0 : decide ((97 : Int) ≤ ((bt s x.1 : Nat) : Int)) = false := decide_eq_false (by omega)
      have e1 : decide (((bt s x.1 : Nat) : Int) ≤ 122) = true := decide_eq_true (by omega)
      have e2 : decide ((65 : Int) ≤ ((bt s x.1 : Nat) : Int)) = false := decide_eq_false (by omega)
      have e3 : decide (((bt s x.1 : Nat) : Int) ≤ 90) = true := decide_eq_true (by omega)
      have e4 : decide (((bt s x.1 : Nat) : Int) < 48) = false := decide_eq_false (by omega)
      have e5 : decide ((57 : Int) < ((bt s x.1 : Nat) : Int)) = true := decide_eq_true (by omega)
      have n45 : (((bt s x.1 : Nat) : Int) != 45) = true := by rw [bne_iff_ne]; omega
      have n95 : (((bt s x.1 : Nat) : Int) != 95) = true := by rw [bne_iff_ne]; omega
      have n46 : (((bt s x.1 : Nat) : Int) != 46) = true := by rw [bne_iff_ne]; omega
      have n58 : (((bt s x.1 : Nat) : Int) != 58) = false := by rw [bne_eq_false_iff_eq]; omega
      have HN' := Lib.hid (NX ((partN_iff _).2 (by omega)))
      clear NX h
      gi_wp2_with fail
      exact ⟨(KeepsOthers.refl _).from _, rfl, hsB, hR, HN'.out, hB⟩
    case inr.inr.inr.inr.inr.inr.inr.inl =>
      have e0 : decide ((97 : Int) ≤ ((bt s x.1 : Nat) : Int)) = false := decide_eq_false (by omega)
      have e1 : decide (((bt s x.1 : Nat) : Int) ≤ 122) = true := decide_eq_true (by omega)
      have e2 : decide ((65 : Int) ≤ ((bt s x.1 : Nat) : Int)) = false := decide_eq_false (by omega)
      have e3 : decide (((bt s x.1 : Nat) : Int) ≤ 90) = true := decide_eq_true (by omega)
      have e4 : decide (((bt s x.1 : Nat) : Int) < 48) = true := decide_eq_true (by omega)
      have e5 : decide ((57 : Int) < ((bt s x.1 : Nat) : Int)) = false := decide_eq_false (by omega)
      have n45 : (((bt s x.1 : Nat) : Int) != 45) = true := by rw [bne_iff_ne]; omega
      have n95 : (((bt s x.1 : Nat) : Int) != 95) = true := by rw [bne_iff_ne]; omega
      have n46 : (((bt s x.1 : Nat) : Int) != 46) = true := by rw [bne_iff_ne]; omega
      have n58 : (((bt s x.1 : Nat) : Int) != 58) = true := by rw [bne_iff_ne]; omega
      have HX : Hid (partN (bt s x.1) = false) := Lib.hid (by rw [Bool.eq_false_iff]; intro hh; have := (partN_iff _).1 hh; omega)
      clear NX h
      gi_wp2_with fail
      exact ⟨(KeepsOthers.setCell _ _ _).from _, ⟨rfl, pre, x, rfl, HG.out, HX.out⟩, by rw [lastF_snoc]; exact hR.set _, hB.setCell (p := ⟨w.heap.size, 0, none⟩) (Nat.le_refl _) _⟩
    case inr.inr.inr.inr.inr.inr.inr.inr.inl =>
      have e0 : decide ((97 : Int) ≤ ((bt s x.1 : Nat) : Int)) = false := decide_eq_false (by omega)
      have e1 : decide (((bt s x.1 : Nat) : Int) ≤ 122) = true := decide_eq_true (by omega)
      have e2 : decide ((65 : Int) ≤ ((bt s x.1 : Nat) : Int)) = false := decide_eq_false (by omega)
      have e3 : decide (((bt s x.1 : Nat) : Int) ≤ 90) = true := decide_eq_true (by omega)
      have e4 : decide (((bt s x.1 : Nat) : Int) < 48) = true := decide_eq_true (by omega)
      have e5 : decide ((57 : Int) < ((bt s x.1 : Nat) : Int)) = false := decide_eq_false (by omega)
      have n45 : (((bt s x.1 : Nat) : Int) != 45) = true := by rw [bne_iff_ne]; omega
      have n95 : (((bt s x.1 : Nat) : Int) != 95) = true := by rw [bne_iff_ne]; omega
      have n46 : (((bt s x.1 : Nat) : Int) != 46) = true := by rw [bne_iff_ne]; omega
      have n58 : (((bt s x.1 : Nat) : Int) != 58) = true := by rw [bne_iff_ne]; omega
      have HX : Hid (partN (bt s x.1) = false) := Lib.hid (by rw [Bool.eq_false_iff]; intro hh; have := (partN_iff _).1 hh; omega)
      clear NX h
      gi_wp2_with fail
      exact ⟨(KeepsOthers.setCell _ _ _).from _, ⟨rfl, pre, x, rfl, HG.out, HX.out⟩, by rw [lastF_snoc]; exact hR.set _, hB.setCell (p := ⟨w.heap.size, 0, none⟩) (Nat.le_refl _) _⟩
    case inr.inr.inr.inr.inr.inr.inr.inr.inr.inl =>
      have e0 : decide ((97 : Int) ≤ ((bt s x.1 : Nat) : Int)) = false := decide_eq_false (by omega)
      have e1 : decide (((bt s x.1 : Nat) : Int) ≤ 122) = true := decide_eq_true (by omega)
      have e2 : decide ((65 : Int) ≤ ((bt s x.1 : Nat) : Int)) = false := decide_eq_false (by omega)
      have e3 : decide (((bt s x.1 : Nat) : Int) ≤ 90) = true := decide_eq_true (by omega)
      have e4 : decide (((bt s x.1 : Nat) : Int) < 48) = false := decide_eq_false (by omega)
      have e5 : decide ((57 : Int) < ((bt s x.1 : Nat) : Int)) = true := decide_eq_true (by omega)
      have n45 : (((bt s x.1 : Nat) : Int) != 45) = true := by rw [bne_iff_ne]; omega
      have n95 : (((bt s x.1 : Nat) : Int) != 95) = true := by rw [bne_iff_ne]; omega
      have n46 : (((bt s x.1 : Nat) : Int) != 46) = true := by rw [bne_iff_ne]; omega
      have n58 : (((bt s x.1 : Nat) : Int) != 58) = true := by rw [bne_iff_ne]; omega
      have HX : Hid (partN (bt s x.1) = false) := Lib.hid (by rw [Bool.eq_false_iff]; intro hh; have := (partN_iff _).1 hh; omega)
      clear NX h
      gi_wp2_with fail
      exact ⟨(KeepsOthers.setCell _ _ _).from _, ⟨rfl, pre, x, rfl, HG.out, HX.out⟩, by rw [lastF_snoc]; exact hR.set _, hB.setCell (p := ⟨w.heap.size, 0, none⟩) (Nat.le_refl _) _⟩
    case inr.inr.inr.inr.inr.inr.inr.inr.inr.inr.inl =>
      have e0 : decide ((97 : Int) ≤ ((bt s x.1 : Nat) : Int)) = false := decide_eq_false (by omega)
      have e1 : decide (((bt s x.1 : Nat) : Int) ≤ 122) = true := decide_eq_true (by omega)
      have e2 : decide ((65 : Int) ≤ ((bt s x.1 : Nat) : Int)) = true := decide_eq_true (by omega)
      have e3 : decide (((bt s x.1 : Nat) : Int) ≤ 90) = false := decide_eq_false (by omega)
      have e4 : decide (((bt s x.1 : Nat) : Int) < 48) = false := decide_eq_false (by omega)
      have e5 : decide ((57 : Int) < ((bt s x.1 : Nat) : Int)) = true := decide_eq_true (by omega)
      have n45 : (((bt s x.1 : Nat) : Int) != 45) = true := by rw [bne_iff_ne]; omega
      have n95 : (((bt s x.1 : Nat) : Int) != 95) = true := by rw [bne_iff_ne]; omega
      have n46 : (((bt s x.1 : Nat) : Int) != 46) = true := by rw [bne_iff_ne]; omega
      have n58 : (((bt s x.1 : Nat) : Int) != 58) = true := by rw [bne_iff_ne]; omega
      have HX : Hid (partN (bt s x.1) = false) := Lib.hid (by rw [Bool.eq_false_iff]; intro hh; have := (partN_iff _).1 hh; omega)
      clear NX h
      gi_wp2_with fail
      exact ⟨(KeepsOthers.setCell _ _ _).from _, ⟨rfl, pre, x, rfl, HG.out, HX.out⟩, by rw [lastF_snoc]; exact hR.set _, hB.setCell (p := ⟨w.heap.size, 0, none⟩) (Nat.le_refl _) _⟩
    case inr.inr.inr.inr.inr.inr.inr.inr.inr.inr.inr.inl =>
      have e0 : decide ((97 : Int) ≤ ((bt s x.1 : Nat) : Int)) = false := decide_eq_false (by omega)
      have e1 : decide (((bt s x.1 : Nat) : Int) ≤ 122) = true := decide_eq_true (by omega)
      have e2 : decide ((65 : Int) ≤ ((bt s x.1 : Nat) : Int)) = true := decide_eq_true (by omega)
      have e3 : decide (((bt s x.1 : Nat) : Int) ≤ 90) = false := decide_eq_false (by omega)
      have e4 : decide (((bt s x.1 : Nat) : Int) < 48) = false := decide_eq_false (by omega)
      have e5 : decide ((57 : Int) < ((bt s x.1 : Nat) : Int)) = true := decide_eq_true (by omega)
      have n45 : (((bt s x.1 : Nat) : Int) != 45) = true := by rw [bne_iff_ne]; omega
      have n95 : (((bt s x.1 : Nat) : Int) != 95) = true := by rw [bne_iff_ne]; omega
      have n46 : (((bt s x.1 : Nat) : Int) != 46) = true := by rw [bne_iff_ne]; omega
      have n58 : (((bt s x.1 : Nat) : Int) != 58) = true := by rw [bne_iff_ne]; omega
      have HX : Hid (partN (bt s x.1) = false) := Lib.hid (by rw [Bool.eq_false_iff]; intro hh; have := (partN_iff _).1 hh; omega)
      clear NX h
      gi_wp2_with fail
      exact ⟨(KeepsOthers.setCell _ _ _).from _, ⟨rfl, pre, x, rfl, HG.out, HX.out⟩, by rw [lastF_snoc]; exact hR.set _, hB.setCell (p := ⟨w.heap.size, 0, none⟩) (Nat.le_refl _) _⟩
    case inr.inr.inr.inr.inr.inr.inr.inr.inr.inr.inr.inr =>
      have e0 : decide ((97 : Int) ≤ ((bt s x.1 : Nat) : Int)) = true := decide_eq_true (by omega)
      have e1 : decide (((bt s x.1 : Nat) : Int) ≤ 122) = false := decide_eq_false (by omega)
      have e2 : decide ((65 : Int) ≤ ((bt s x.1 : Nat) : Int)) = true := decide_eq_true (by omega)
      have e3 : decide (((bt s x.1 : Nat) : Int) ≤ 90) = false := decide_eq_false (by omega)
      have e4 : decide (((bt s x.1 : Nat) : Int) < 48) = false := decide_eq_false (by omega)
      have e5 : decide ((57 : Int) < ((bt s x.1 : Nat) : Int)) = true := decide_eq_true (by omega)
      have n45 : (((bt s x.1 : Nat) : Int) != 45) = true := by rw [bne_iff_ne]; omega
      have n95 : (((bt s x.1 : Nat) : Int) != 95) = true := by rw [bne_iff_ne]; omega
      have n46 : (((bt s x.1 : Nat) : Int) != 46) = true := by rw [bne_iff_ne]; omega
      have n58 : (((bt s x.1 : Nat) : Int) != 58) = true := by rw [bne_iff_ne]; omega
      have HX : Hid (partN (bt s x.1) = false) := Lib.hid (by rw [Bool.eq_false_iff]; intro hh; have := (partN_iff _).1 hh; omega)
      clear NX h
      gi_wp2_with fail
      exact ⟨(KeepsOthers.setCell _ _ _).from _, ⟨rfl, pre, x, rfl, HG.out, HX.out⟩, by rw [lastF_snoc]; exact hR.set _, hB.setCell (p := ⟨w.heap.size, 0, none⟩) (Nat.le_refl _) _⟩
  case done =>
    rintro D ys W hD hys ⟨hsB, hR, hg, hB⟩ hK
    have HE : Hid (nm = s.size) := Lib.hid (by
      rw [HNM.out]
      exact firstN_eq s _ _ (Nat.le_refl _) (fun j hj => by
        have : j ∈ ys.map Fin.val := by rw [hys]; exact List.mem_range.2 hj
        obtain ⟨y, hy, rfl⟩ := List.mem_map.1 this
        rw [hg y hy]; rfl) (fun h => absurd h (by omega)))
    clear hg hys
    have k2 := hR.cell
    have k3 := hR.frozen
    have q1 := hR.set (.int .i64 s.size)
    have q3 : Below w.heap.size w (W.setCell ⟨w.heap.size, 0, none⟩ (.int .i64 s.size)) := hB.setCell (p := ⟨w.heap.size, 0, none⟩) (Nat.le_refl _) _
    have hK' := (KeepsOthers.setCell W ⟨w.heap.size, 0, none⟩ (.int .i64 s.size)).same D _ hK rfl
    gi_wp2_with fail
    refine ⟨by simp, .inl ⟨_, _, rfl, run_takeDeferred hK', ?_⟩⟩
    have c1 := cell_kept q1.cell (grownBy_putObj' _ D (.deferred none)) (fun r e => by cases e; exact ⟨_, hK', rfl⟩)
    refine ⟨.int .i64 s.size, by simp [results, Tryz.results84, go_sem, c1], ?_, q3.trans (belowK_b (w := w) (Nat.le_refl _) _ D _ _ (by omega) hK' rfl rfl)⟩
    rw [HE.out]
  case stop =>
    rintro D q pre W hD hpre ⟨⟨rfl, pr, x, rfl, hg, hx⟩, hR, hB⟩ hK
    rw [List.map_append] at hpre
    obtain ⟨hp1, hp2⟩ := pre_snoc hpre
    have HE : Hid (nm = x.1) := Lib.hid (by
      rw [HNM.out]
      exact firstN_eq s _ _ (Nat.le_of_lt hp2) (fun j hj => by
        have : j ∈ pr.map Fin.val := by rw [hp1]; exact List.mem_range.2 hj
        obtain ⟨y, hy, rfl⟩ := List.mem_map.1 this
        rw [hg y hy]; rfl) (fun _ => by rw [hx]; rfl))
    rw [lastF_snoc] at hR
    clear hg hx hpre hp1
    gi_wp2_with fail
    refine ⟨by simp, .inl ⟨_, _, rfl, run_takeDeferred hK, ?_⟩⟩
    have c1 := cell_kept hR.cell (grownBy_putObj' _ D (.deferred none)) (fun r e => by cases e; exact ⟨_, hK, rfl⟩)
    refine ⟨.int .i64 x.1, by simp [results, Tryz.results84, go_sem, c1], ?_, hB.trans (belowK_b (w := w) (Nat.le_refl _) _ D _ _ (by omega) hK rfl rfl)⟩
    rw [HE.out]
end Go.Proofs.YthfienjmigidbaaGreatDoor
namespace Go.Pub
theorem brk_index (l : List UInt8) : Lib.indexByte l 93 = if brk l < l.length then (brk l : Int) else -1 := by
  induction l with
  | nil => rfl
  | cons b l ih =>
    unfold Lib.indexByte
    by_cases hb : b = 93
    · subst hb
      simp [brk, List.findIdx_cons]
    · have h1 : (b == 93) = false := by simpa using hb
      have h2 : brk (b :: l) = brk l + 1 := by simp [brk, List.findIdx_cons, h1]
      show (if (b == 93) = true then 0 else if (Lib.indexByte l 93 == -1) = true then -1 else Lib.indexByte l 93 + 1) = _
      rw [h1, h2, ih]
      simp only [Bool.false_eq_true, if_false, List.length_cons]
      by_cases hl : brk l < l.length
      · have e1 : (if brk l < l.length then (brk l : Int) else -1) = brk l := if_pos hl
        rw [e1, if_pos (show brk l + 1 < l.length + 1 by omega)]
        have : ((brk l : Int) == -1) = false := by rw [beq_eq_false_iff_ne]; omega
        simp [this]
      · have e1 : (if brk l < l.length then (brk l : Int) else -1) = -1 := if_neg hl
        rw [e1, if_neg (show ¬ brk l + 1 < l.length + 1 by omega)]; simp
theorem brk_le (l : List UInt8) : brk l ≤ l.length := List.findIdx_le_length
end Go.Pub
namespace Go.Proofs.YthfienjmigidbaaGreatDoor
open Go.RowKit Go.Pub

theorem ret_cut {a b v : ByteArray} {p q : Bool} (h : a = b) (h2 : p = q) : Ending.returned (.tuple #[.string a, .string v, .bool p]) = .returned (.tuple #[.string b, .string v, .bool q]) := by rw [h, h2]

set_option maxRecDepth 100000 in
set_option maxHeartbeats 1000000 in
theorem cut_one (s : ByteArray) (w : World) (hs : s.size ≤ 1000000) :
    Calls Tryz.prog 123 #[.string s, .string ⟨#[93]⟩] w fun e w' => (∃ v, e = .returned (.tuple #[.string (mk ((bytesL s).take (brk (bytesL s)))), .string v, .bool (decide (brk (bytesL s) < s.size))])) ∧ Below w.heap.size w w' := by
  have HI : Hid (∀ W, Calls Tryz.prog 151 #[.string s, .string ⟨#[93]⟩] W fun e w' => e = .returned (.int .i64 (if brk (bytesL s) < s.size then (brk (bytesL s) : Int) else -1)) ∧ W = w') := Lib.hid fun W => by
    refine (Tryz.stringslite_Index_one s 93 W).mono ?_
    rintro e w' ⟨rfl, rfl⟩
    have := brk_index (bytesL s)
    rw [bytesL_length] at this
    exact ⟨ret_int this, rfl⟩
  have HL := brk_le (bytesL s)
  rw [bytesL_length] at HL
  have HX := Lib.hid (extract_take s (brk (bytesL s)))
  have HY : Hid ((bytesL s).take s.size = bytesL s) := Lib.hid (List.take_of_length_le (by rw [bytesL_length]; exact Nat.le_refl _))
  generalize brk (bytesL s) = k at *
  by_cases hk : k < s.size
  · rw [if_pos hk] at HI
    have HD : Hid (decide (k < s.size) = true) := Lib.hid (by simpa using hk)
    generalize decide (k < s.size) = d at *
    go_enter Tryz.func123, Tryz.ntmps123
    go_wp2_with fail
    ((with_reducible refine (HI.out _).mono ?_))
    rintro e w' ⟨rfl, rfl⟩
    go_wp2
    go_quiet (fail)
    go_wp2
    go_ret3
    exact ⟨⟨_, ret_cut HX.out HD.out.symm⟩, below_drewN (Below.refl _ _) _⟩
  · rw [if_neg hk] at HI
    have HD : Hid (decide (k < s.size) = false) := Lib.hid (by simpa using hk)
    generalize decide (k < s.size) = d at *
    obtain rfl : k = s.size := by omega
    have hm : Hid (mk ((bytesL s).take s.size) = s) := Lib.hid (by rw [HY.out, mk_bytesL])
    go_enter Tryz.func123, Tryz.ntmps123
    go_wp2_with fail
    ((with_reducible refine (HI.out _).mono ?_))
    rintro e w' ⟨rfl, rfl⟩
    go_wp2
    go_ret3
    exact ⟨⟨_, ret_cut hm.out.symm HD.out.symm⟩, Below.refl _ _⟩

def CutPost (s : ByteArray) (w : World) (e : Ending) (w' : World) : Prop := (∃ v, e = .returned (.tuple #[.string (mk ((bytesL s).take (brk (bytesL s)))), .string v, .bool (decide (brk (bytesL s) < s.size))])) ∧ Below w.heap.size w w'

set_option maxRecDepth 100000 in
set_option maxHeartbeats 1000000 in
theorem cut_any (s : ByteArray) (w : World) (hs : s.size ≤ 1000000) :
    Calls Tryz.prog 86 #[.string s, .string ⟨#[93]⟩] w (CutPost s w) := by
  have HC := Lib.hid fun W => cut_one s W hs
  go_enter Tryz.func86, Tryz.ntmps86
  go_wp2_with fail
  ((with_reducible refine (HC.out _).mono ?_))
  rintro e w' ⟨⟨v, rfl⟩, b0⟩
  go_wp2
  go_ret3
  exact ⟨⟨v, rfl⟩, b0⟩

set_option maxRecDepth 100000 in
set_option maxHeartbeats 4000000 in
theorem l_brack_no (s : ByteArray) (i : Nat) (w : World) (hs : s.size ≤ 1000000) (h : ¬ (i < s.size ∧ bt s i = 91)) (hi : i ≤ s.size) :
    Calls Tryz.prog 60 #[.string s, .int .i64 i] w (PartPost (brackR s i) w) := by
  have HR : Hid (brackR s i = none) := Lib.hid (by unfold brackR; rw [if_neg h])
  generalize brackR s i = R at *
  by_cases hlt : i < s.size
  · have z0 : (((s[i].toNat : Nat) : Int) != 91) = true := by rw [get_bt s i hlt]; simp; omega
    clear h
    go_enter Tryz.func60, Tryz.ntmps60
    go_wp2
    go_ret3
    exact part_none HR.out (Below.refl _ _)
  · clear h
    go_enter Tryz.func60, Tryz.ntmps60
    go_wp2
    go_ret3
    exact part_none HR.out (Below.refl _ _)

set_option maxRecDepth 100000 in
set_option maxHeartbeats 4000000 in
theorem l_brack_yes (s : ByteArray) (i : Nat) (w : World) (hs : s.size ≤ 1000000) (hlt : i < s.size) (h : bt s i = 91) :
    Calls Tryz.prog 60 #[.string s, .int .i64 i] w (PartPost (brackR s i) w) := by
  have z0 : (((s[i].toNat : Nat) : Int) != 91) = false := by rw [get_bt s i hlt, h]; rfl
  have hR : brackR s i = if brk (sfx s (i + 1)) < (sfx s (i + 1)).length ∧ labelL ((sfx s (i + 1)).take (brk (sfx s (i + 1)))) ≠ [] then
      some (labelL ((sfx s (i + 1)).take (brk (sfx s (i + 1)))), i + brk (sfx s (i + 1)) + 2) else none := by unfold brackR; rw [if_pos ⟨hlt, h⟩]
  have HR := Lib.hid hR
  clear hR h
  have HC : Hid (∀ W, Calls Tryz.prog 86 #[.string (s.extract (i + 1) s.size), .string ⟨#[93]⟩] W fun e w' => (∃ v, e = .returned (.tuple #[.string (mk ((sfx s (i + 1)).take (brk (sfx s (i + 1))))), .string v, .bool (decide (brk (sfx s (i + 1)) < (sfx s (i + 1)).length))])) ∧ Below W.heap.size W w') := Lib.hid fun W => by
    rw [extract_drop]
    have := cut_any (mk (sfx s (i + 1))) W (by rw [mk_size, sfx_len]; omega)
    unfold CutPost at this
    rw [bytesL_mk', mk_size] at this
    exact this
  have hbl := brk_le (sfx s (i + 1))
  have hsl := sfx_len s (i + 1)
  generalize sfx s (i + 1) = L at *
  have HL : Hid (∀ W, Calls Tryz.prog 20 #[.string (mk (L.take (brk L)))] W fun e w' => e = .returned (.string (mk (labelL (L.take (brk L))))) ∧ Below W.heap.size W w') := Lib.hid fun W => by
    have := l_label (mk (L.take (brk L))) W (by rw [mk_size, List.length_take]; omega)
    rw [bytesL_mk'] at this
    exact this
  have hml : (L.take (brk L)).length = brk L := by rw [List.length_take]; omega
  have hms : (mk (L.take (brk L))).size = brk L := by rw [mk_size]; exact hml
  generalize L.take (brk L) = T at *
  generalize brk L = k at *
  generalize labelL T = Lb at *
  have hsz : (mk T).size ≤ 1000000 := by omega
  have HM := Lib.hid hms
  clear hml hms
  generalize brackR s i = R at *
  have HNil : Hid (Lb = [] → R = none) := Lib.hid fun h => by rw [HR.out, if_neg (fun e => e.2 h)]
  have HNo : Hid (¬ k < L.length → R = none) := Lib.hid fun h => by rw [HR.out, if_neg (fun e => h e.1)]
  have HYes : Hid (k < L.length → Lb ≠ [] → R = some (Lb, i + k + 2)) := Lib.hid fun h g => by rw [HR.out, if_pos ⟨h, g⟩]
  clear HR
  by_cases h1 : k < L.length
  · rw [decide_eq_true h1] at HC
    cases Lb with
    | nil =>
      have HF := Lib.hid (HNil.out rfl)
      have HL' : Hid (∀ W, Calls Tryz.prog 20 #[.string (mk T)] W fun e w' => e = .returned (.string ⟨#[]⟩) ∧ Below W.heap.size W w') := Lib.hid HL.out
      go_enter Tryz.func60, Tryz.ntmps60
      go_wp2_with fail
      ((with_reducible refine (HC.out _).mono ?_))
      rintro e w1 ⟨⟨v, rfl⟩, b0⟩
      have hz0 := b0.size
      go_wp2_with fail
      ((with_reducible refine (HL'.out _).mono ?_))
      rintro e w' ⟨rfl, b1⟩
      go_wp2
      go_ret3
      exact part_none HF.out (b0.trans (b1.mono hz0))
    | cons c l =>
      have HF := Lib.hid (HYes.out h1 (by simp))
      have x1 : (mk (c :: l)).toList.isEmpty = false := by rw [Lib.toList_data]; rfl
      have x2 : (mk (c :: l)).toList = c :: l := by rw [Lib.toList_data]; rfl
      generalize hG : mk (c :: l) = G at *
      have HG := Lib.hid hG
      clear hG
      go_enter Tryz.func60, Tryz.ntmps60
      go_wp2_with fail
      ((with_reducible refine (HC.out _).mono ?_))
      rintro e w1 ⟨⟨v, rfl⟩, b0⟩
      have hz0 := b0.size
      go_wp2_with fail
      ((with_reducible refine (HL.out _).mono ?_))
      rintro e w' ⟨rfl, b1⟩
      go_wp2
      go_ret3
      have hp := part_some (w := w) (n := (i : Int) + (mk T).size + 2) HF.out (by have := HM.out; omega) (b0.trans (b1.mono hz0))
      rw [HG.out] at hp
      exact hp
  · have HF := Lib.hid (HNo.out h1)
    rw [decide_eq_false h1] at HC
    generalize mk Lb = G at *
    go_enter Tryz.func60, Tryz.ntmps60
    go_wp2_with fail
    ((with_reducible refine (HC.out _).mono ?_))
    rintro e w1 ⟨⟨v, rfl⟩, b0⟩
    have hz0 := b0.size
    go_wp2_with fail
    ((with_reducible refine (HL.out _).mono ?_))
    rintro e w' ⟨rfl, b1⟩
    go_wp2
    go_ret3
    exact part_none HF.out (b0.trans (b1.mono hz0))
end Go.Proofs.YthfienjmigidbaaGreatDoor
namespace Go.Proofs.YthfienjmigidbaaGreatDoor
open Go.RowKit Go.Pub

theorem ret_cut3 {a b v u : ByteArray} {p q : Bool} (h : a = b) (h1 : v = u) (h2 : p = q) : Ending.returned (.tuple #[.string a, .string v, .bool p]) = .returned (.tuple #[.string b, .string u, .bool q]) := by rw [h, h1, h2]
/-- What stands behind the first bracket. -/
def cutRest (s : ByteArray) : ByteArray := if brk (bytesL s) < s.size then s.extract (brk (bytesL s) + 1) s.size else ⟨#[]⟩
def cutHead (s : ByteArray) : ByteArray := mk ((bytesL s).take (brk (bytesL s)))
def cutB (s : ByteArray) : Bool := decide (brk (bytesL s) < s.size)
def Cut3Post (s : ByteArray) (w : World) (e : Ending) (w' : World) : Prop := e = .returned (.tuple #[.string (cutHead s), .string (cutRest s), .bool (cutB s)]) ∧ Below w.heap.size w w'

set_option maxRecDepth 100000 in
set_option maxHeartbeats 1000000 in
theorem cut_two (s : ByteArray) (w : World) (hs : s.size ≤ 1000000) : Calls Tryz.prog 123 #[.string s, .string ⟨#[93]⟩] w (Cut3Post s w) := by
  have HI : Hid (∀ W, Calls Tryz.prog 151 #[.string s, .string ⟨#[93]⟩] W fun e w' => e = .returned (.int .i64 (if brk (bytesL s) < s.size then (brk (bytesL s) : Int) else -1)) ∧ W = w') := Lib.hid fun W => by
    refine (Tryz.stringslite_Index_one s 93 W).mono ?_
    rintro e w' ⟨rfl, rfl⟩
    have := brk_index (bytesL s)
    rw [bytesL_length] at this
    exact ⟨ret_int this, rfl⟩
  have HL := brk_le (bytesL s)
  rw [bytesL_length] at HL
  have HX := Lib.hid (extract_take s (brk (bytesL s)))
  have HY : Hid ((bytesL s).take s.size = bytesL s) := Lib.hid (List.take_of_length_le (by rw [bytesL_length]; exact Nat.le_refl _))
  have HP : Hid (∀ a v p w', a = cutHead s → v = cutRest s → p = cutB s → Below w.heap.size w w' → Cut3Post s w (.returned (.tuple #[.string a, .string v, .bool p])) w') := Lib.hid fun a v p w' h1 h2 h3 hb => ⟨by rw [h1, h2, h3], hb⟩
  have H1 : Hid (cutHead s = mk ((bytesL s).take (brk (bytesL s)))) := Lib.hid rfl
  have H2 : Hid (cutRest s = if brk (bytesL s) < s.size then s.extract (brk (bytesL s) + 1) s.size else ⟨#[]⟩) := Lib.hid rfl
  have H3 : Hid (cutB s = decide (brk (bytesL s) < s.size)) := Lib.hid rfl
  generalize cutHead s = q1 at *
  generalize cutRest s = q2 at *
  generalize cutB s = q3 at *
  generalize brk (bytesL s) = k at *
  by_cases hk : k < s.size
  · rw [if_pos hk] at HI H2
    rw [decide_eq_true hk] at H3
    go_enter Tryz.func123, Tryz.ntmps123
    go_wp2_with fail
    ((with_reducible refine (HI.out _).mono ?_))
    rintro e w' ⟨rfl, rfl⟩
    go_wp2
    go_quiet (fail)
    go_wp2
    go_ret3
    exact HP.out _ _ _ _ (by rw [H1.out]; exact HX.out) H2.out.symm H3.out.symm (below_drewN (Below.refl _ _) _)
  · rw [if_neg hk] at HI H2
    rw [decide_eq_false hk] at H3
    obtain rfl : k = s.size := by omega
    have hm : Hid (mk ((bytesL s).take s.size) = s) := Lib.hid (by rw [HY.out, mk_bytesL])
    go_enter Tryz.func123, Tryz.ntmps123
    go_wp2_with fail
    ((with_reducible refine (HI.out _).mono ?_))
    rintro e w' ⟨rfl, rfl⟩
    go_wp2
    go_ret3
    exact HP.out _ _ _ _ (by rw [H1.out]; exact hm.out.symm) H2.out.symm H3.out.symm (Below.refl _ _)
theorem cut_all (s : ByteArray) (w : World) (hs : s.size ≤ 1000000) : Calls Tryz.prog 86 #[.string s, .string ⟨#[93]⟩] w (Cut3Post s w) := by
  have HC := Lib.hid fun W => cut_two s W hs
  have HP : Hid (∀ a v p w', a = cutHead s → v = cutRest s → p = cutB s → Below w.heap.size w w' → Cut3Post s w (.returned (.tuple #[.string a, .string v, .bool p])) w') := Lib.hid fun a v p w' h1 h2 h3 hb => ⟨by rw [h1, h2, h3], hb⟩
  unfold Cut3Post at HC
  generalize cutHead s = q1 at *
  generalize cutRest s = q2 at *
  generalize cutB s = q3 at *
  go_enter Tryz.func86, Tryz.ntmps86
  go_wp2_with fail
  ((with_reducible refine (HC.out _).mono ?_))
  rintro e w' ⟨rfl, b0⟩
  go_wp2
  go_ret3
  exact HP.out _ _ _ _ rfl rfl rfl b0

/-- Attributes alone, with spaces around them, or nothing. -/
def onlyR (s : ByteArray) : Option AttrL :=
  if (mk (trimS (bytesL s))).size = 0 then some emptyA else if (parseL (mk (trimS (bytesL s))) 0).2.2 = 0 ∧ (parseL (mk (trimS (bytesL s))) 0).2.1 = (mk (trimS (bytesL s))).size then some (parseL (mk (trimS (bytesL s))) 0).1 else none
def OAPost (r : Option AttrL) (w : World) (e : Ending) (w' : World) : Prop :=
  (∃ (a : AttrL) (vC vP : Value) (b : Bool), e = .returned (.tuple #[.agg #[.string a.id, vC, vP], .bool b]) ∧ OwnA w' w.heap.size a vC vP ∧ (r = if b = true then some a else none) ∧ (b = false → a = emptyA)) ∧ Below w.heap.size w w'
theorem only_ret {W : World} {g : Nat} {x y z u : Value} {P : Ending → World → Prop} {act : Act} (hr : Blk W g 25 #[x, y, z]) (h4 : act.tmps.getD 2 undef = .pointer (some ⟨g, 0, none⟩))
    (h5 : act.tmps.getD 3 undef = u) (hd : act.defers = []) (hP : P (.returned (.tuple #[.agg #[x, y, z], u])) W) : bodyPost Tryz.prog Tryz.f29 P Exit.ret act W := by
  have c0 : W.cell? ⟨g, 0, none⟩ = some x := hr.cell 0
  have c1 : W.cell? ⟨g, 1, none⟩ = some y := hr.cell 1
  have c2 : W.cell? ⟨g, 2, none⟩ = some z := hr.cell 2
  refine bodyPost_ret (v := .tuple #[.agg #[x, y, z], u]) ?_ hd hP
  rw [Array.getD_eq_getD_getElem?] at h4 h5
  simp [results, Tryz.results29, go_sem, h4, h5, c0, c1, c2]
theorem grown3 (W : World) (g : Nat) (x y z : Value) : W.grownBy (((W.setCell ⟨g, 0, none⟩ x).setCell ⟨g, 1, none⟩ y).setCell ⟨g, 2, none⟩ z) (some g) := only_store (only_store (only_store (only_refl W (some g)) 0 x) 1 y) 2 z

set_option maxRecDepth 100000 in
set_option maxHeartbeats 2000000 in
theorem m_only (s : ByteArray) (w : World) (hs : s.size ≤ 1000000) : Calls Tryz.prog 29 #[.string s] w (OAPost (onlyR s) w) := by
  have HT := Lib.hid fun W => t_trim s W hs
  have htz : (mk (trimS (bytesL s))).size ≤ 1000000 := by rw [mk_size]; have := trimS_len (bytesL s); rw [bytesL_length] at this; omega
  have HR : Hid (onlyR s = if (mk (trimS (bytesL s))).size = 0 then some emptyA else if (parseL (mk (trimS (bytesL s))) 0).2.2 = 0 ∧ (parseL (mk (trimS (bytesL s))) 0).2.1 = (mk (trimS (bytesL s))).size then some (parseL (mk (trimS (bytesL s))) 0).1 else none) := Lib.hid rfl
  generalize onlyR s = R at *
  generalize mk (trimS (bytesL s)) = T at *
  by_cases h0 : T.size = 0
  · have HF : Hid (R = if true = true then some emptyA else none) := Lib.hid (by rw [HR.out, if_pos h0]; rfl)
    obtain ⟨x1, x2⟩ := nil_list T ((size_nil T).1 h0)
    have e0 : T = ⟨#[]⟩ := by rw [← mk_bytesL T, (size_nil T).1 h0]; rfl
    clear HR x1 x2 h0
    subst e0
    go_enter Tryz.func29, Tryz.ntmps29
    go_wp2_with fail
    ((with_reducible refine (HT.out _).mono ?_))
    rintro e w' ⟨rfl, rfl⟩
    go_wp2_with fail
    exact only_ret (Blk.new w _ _) rfl rfl rfl ⟨⟨emptyA, _, _, true, rfl, ownA_empty _ _ ((Below.refl _ w).alloc (Nat.le_refl _) _).size, HF.out, fun h => by cases h⟩, (Below.refl _ w).alloc (Nat.le_refl _) _⟩
  · rw [if_neg h0] at HR
    obtain ⟨x1, x2⟩ := cons_list T (fun e => h0 ((size_nil T).2 e))
    have HPa := Lib.hid fun W => parse_any W T 0 htz
    generalize parseL T 0 = pr at *
    obtain ⟨a, t, n⟩ := pr
    simp only at HR
    have hW : ∀ W1, Below (w.alloc (.cells #[.string ⟨#[]⟩, .slice none 0 0, .slice none 0 0] 25)).heap.size (w.alloc (.cells #[.string ⟨#[]⟩, .slice none 0 0, .slice none 0 0] 25)) W1 → Blk W1 w.heap.size 25 #[.string ⟨#[]⟩, .slice none 0 0, .slice none 0 0] ∧ Below w.heap.size w W1 ∧ w.heap.size < W1.heap.size := fun W1 hb => by
      have h1 := (Blk.new w 25 #[.string ⟨#[]⟩, .slice none 0 0, .slice none 0 0])
      have h2 := ((Below.refl _ w).alloc (Nat.le_refl _) (.cells #[.string ⟨#[]⟩, .slice none 0 0, .slice none 0 0] 25))
      exact ⟨Blk.below h1 hb h1.lt, h2.trans (hb.mono h2.size), Nat.lt_of_lt_of_le h1.lt hb.size⟩
    have HW := Lib.hid hW
    clear hW h0
    have htest : (((n : Int) != 0) = true ∧ Hid (R = none)) ∨ (((n : Int) != 0) = false ∧ (t != T.size) = true ∧ ((t : Int) != (T.size : Int)) = true ∧ Hid (R = none)) ∨ (((n : Int) != 0) = false ∧ (t != T.size) = false ∧ ((t : Int) != (T.size : Int)) = false ∧ Hid (R = some a)) := by
      by_cases h1 : n = 0
      · by_cases h2 : t = T.size
        · right; right; exact ⟨by rw [bne_eq_false_iff_eq]; omega, by rw [bne_eq_false_iff_eq]; exact h2, by rw [bne_eq_false_iff_eq]; omega, Lib.hid (by rw [HR.out, if_pos ⟨h1, h2⟩])⟩
        · right; left; exact ⟨by rw [bne_eq_false_iff_eq]; omega, by rw [bne_iff_ne]; exact h2, by rw [bne_iff_ne]; omega, Lib.hid (by rw [HR.out, if_neg (fun h => h2 h.2)])⟩
      · left; exact ⟨by rw [bne_iff_ne]; omega, Lib.hid (by rw [HR.out, if_neg (fun h => h1 h.1)])⟩
    clear HR
    rcases htest with ⟨d1, HF⟩ | ⟨d1, d2, d3, HF⟩ | ⟨d1, d2, d3, HF⟩
    all_goals
      go_enter Tryz.func29, Tryz.ntmps29
      go_wp2_with fail
      ((with_reducible refine (HT.out _).mono ?_))
      rintro e w' ⟨rfl, rfl⟩
      go_wp2_with fail
      ((with_reducible refine (HPa.out _).mono ?_))
      rintro e W1 ⟨v, rfl, ⟨⟨vC, vP, rfl, hC1, hP1⟩, hc32, hp32⟩, b1⟩
      obtain ⟨qA, qc, rfl⟩ := own_slice hC1
      obtain ⟨qD, qd, rfl⟩ := own_slice hP1
      obtain ⟨hb0, hb1, hb2⟩ := HW.out W1 b1
      have hO : Hid (OwnA (W1.alloc (.cells #[.string a.id, .slice qA a.cl.length qc, .slice qD a.pr.length qd] 25)) (w.heap.size + 1) a (.slice qA a.cl.length qc) (.slice qD a.pr.length qd)) := Lib.hid (by
        have : OwnA W1 (w.heap.size + 1) a (.slice qA a.cl.length qc) (.slice qD a.pr.length qd) := ⟨by simpa using hC1, by simpa using hP1, hb2, hc32, hp32⟩
        exact this.below ((Below.refl _ _).alloc (Nat.le_refl _) _))
      have hz := Blk.alloc hb0 (.cells #[.string a.id, .slice qA a.cl.length qc, .slice qD a.pr.length qd] 25)
      have hbel := hb1.alloc hb1.size (.cells #[.string a.id, .slice qA a.cl.length qc, .slice qD a.pr.length qd] 25)
      have hn := Blk.new W1 25 #[.string a.id, .slice qA a.cl.length qc, .slice qD a.pr.length qd]
      have e0 := hn.cell 0
      have e1 := hn.cell 1
      have e2 := hn.cell 2
      have a0 := hz.cell 0
      have a1 := hz.cell 1
      have a2 := hz.cell 2
      have f0 := hz.frozen 0
      have f1 := hz.frozen 1
      have f2 := hz.frozen 2
      have HB2 := Lib.hid hb2
      clear b1 hb0 hC1 hP1 hb2
      go_wp2_with fail
      have hb2 := HB2.out
      first
      | exact only_ret (blk3 hz rfl _ _ _) rfl rfl rfl ⟨⟨a, _, _, true, rfl, ownA_low (ownA_far hO.out (grown3 _ _ _ _ _) (Nat.lt_succ_self _)) (Nat.le_succ _), by rw [HF.out]; rfl, fun h => by cases h⟩, below3 hbel (Nat.le_refl _) _ _ _⟩
      | exact only_ret (blk3 hz rfl _ _ _) rfl rfl rfl ⟨⟨emptyA, _, _, false, rfl, ownA_empty _ _ (below3 hbel (Nat.le_refl _) _ _ _).size, by rw [HF.out]; rfl, fun _ => rfl⟩, below3 hbel (Nat.le_refl _) _ _ _⟩
end Go.Proofs.YthfienjmigidbaaGreatDoor
namespace Go.Pub
/-- How many bytes of a kind a list begins with. -/
def cntW (p : Nat → Bool) : List UInt8 → Nat
  | [] => 0
  | c :: l => if p c.toNat = true then cntW p l + 1 else 0
/-- How many bytes of a kind stand from i on. -/
def runF (s : ByteArray) (i : Nat) (p : Nat → Bool) : Nat := cntW p (sfx s i)
theorem runF_end (s : ByteArray) (i : Nat) (p : Nat → Bool) (h : s.size ≤ i) : runF s i p = 0 := by unfold runF; rw [sfx_nil s i h]; rfl
theorem runF_yes (s : ByteArray) (i : Nat) (p : Nat → Bool) (h : i < s.size) (hp : p (bt s i) = true) : runF s i p = runF s (i + 1) p + 1 := by
  unfold runF; rw [sfx_cons s i h]
  show (if p (bt s i) = true then _ else _) = _
  rw [if_pos hp]
theorem runF_no (s : ByteArray) (i : Nat) (p : Nat → Bool) (h : i < s.size) (hp : p (bt s i) = false) : runF s i p = 0 := by
  unfold runF; rw [sfx_cons s i h]
  show (if p (bt s i) = true then _ else _) = _
  rw [if_neg (by rw [hp]; exact Bool.false_ne_true)]
theorem cntW_le (p : Nat → Bool) : ∀ l : List UInt8, cntW p l ≤ l.length
  | [] => Nat.le_refl _
  | c :: l => by unfold cntW; have := cntW_le p l; split <;> simp <;> omega
theorem runF_le (s : ByteArray) (i : Nat) (p : Nat → Bool) : runF s i p ≤ s.size - i := by
  unfold runF; have := cntW_le p (sfx s i); rwa [sfx_len] at this
theorem runF_all (s : ByteArray) (p : Nat → Bool) : ∀ (n i : Nat), s.size - i ≤ n → (∀ j, i ≤ j → j < i + runF s i p → p (bt s j) = true) ∧ (i + runF s i p < s.size → p (bt s (i + runF s i p)) = false)
  | 0, i, h => by
    rw [runF_end s i p (by omega)]
    exact ⟨fun j h1 h2 => by omega, fun h1 => by omega⟩
  | n + 1, i, h => by
    by_cases hi : i < s.size
    · cases hp : p (bt s i)
      · rw [runF_no s i p hi hp]
        exact ⟨fun j h1 h2 => by omega, fun _ => hp⟩
      · have ih := runF_all s p n (i + 1) (by omega)
        rw [runF_yes s i p hi hp]
        rw [show i + (runF s (i + 1) p + 1) = i + 1 + runF s (i + 1) p by omega]
        refine ⟨fun j h1 h2 => ?_, ih.2⟩
        by_cases hj : j = i
        · subst hj; exact hp
        · exact ih.1 j (by omega) h2
    · rw [runF_end s i p (by omega)]
      exact ⟨fun j h1 h2 => by omega, fun h1 => by omega⟩
theorem firstN_run (s : ByteArray) (p q : Nat → Bool) (hpq : ∀ b, q b = !p b) : firstN s q = runF s 0 p := by
  have h := runF_all s p s.size 0 (by omega)
  have hl := runF_le s 0 p
  rw [Nat.zero_add] at h
  refine firstN_eq s q _ (by omega) (fun j hj => ?_) (fun hj => ?_)
  · rw [hpq, h.1 j (Nat.zero_le _) hj]; rfl
  · rw [hpq, h.2 hj]; rfl
theorem runF_eq (s : ByteArray) (p : Nat → Bool) (i n : Nat) (h : i + n ≤ s.size) (h1 : ∀ j, i ≤ j → j < i + n → p (bt s j) = true) (h2 : i + n < s.size → p (bt s (i + n)) = false) : runF s i p = n := by
  have k := runF_all s p s.size i (by omega)
  have hl := runF_le s i p
  rcases Nat.lt_trichotomy (runF s i p) n with h3 | h3 | h3
  · have e1 := k.2 (by omega)
    rw [h1 _ (by omega) (by omega)] at e1; cases e1
  · exact h3
  · have e1 := k.1 (i + n) (by omega) (by omega)
    rw [h2 (by omega)] at e1; cases e1
theorem indN_cnt : ∀ l : List UInt8, indN l = cntW (· == 32) l
  | [] => rfl
  | c :: l => by
    unfold indN cntW
    rw [indN_cnt l]
    by_cases h : c = 32
    · subst h; rfl
    · rw [if_neg h, if_neg]
      intro e
      rw [beq_iff_eq] at e
      exact h ((u8_nat c 32 (by decide)).2 e)
theorem indA_run (s : ByteArray) (i : Nat) : indA s i = i + runF s i (· == 32) := by unfold indA runF; rw [indN_cnt]
theorem indA_bd (s : ByteArray) (i : Nat) (h : i ≤ s.size) : i ≤ indA s i ∧ indA s i ≤ s.size := by
  rw [indA_run]; have := runF_le s i (· == 32); omega
theorem indA_sp (s : ByteArray) (i : Nat) (h : i ≤ s.size) : indA s i = spAt s i := by
  have k := spAt_spec s i
  have hb := spAt_bd s i
  have hb2 := hb.2 h
  rw [indA_run, runF_eq s (· == 32) i (spAt s i - i) (by omega) (fun j h1 h2 => by rw [beq_iff_eq]; exact k.1 j h1 (by omega)) (fun h2 => by
    rw [show i + (spAt s i - i) = spAt s i by omega] at h2 ⊢
    rw [beq_eq_false_iff_ne]; exact fun e => k.2 ⟨h2, e⟩)]
  omega
/-- Nothing but spaces behind. -/
theorem sp_all (s : ByteArray) (i : Nat) (h : i ≤ s.size) : indA s i = s.size ↔ ∀ b ∈ sfx s i, b = 32 := by
  have k := runF_all s (· == 32) s.size i (by omega)
  have hl := runF_le s i (· == 32)
  rw [indA_run]
  constructor
  · intro e b hb
    obtain ⟨j, hj, rfl⟩ := List.mem_iff_getElem.1 hb
    rw [sfx_len] at hj
    have e1 := k.1 (i + j) (by omega) (by omega)
    rw [beq_iff_eq] at e1
    have e2 : (sfx s i)[j]? = some (s.get! (i + j)) := by
      unfold sfx; rw [List.getElem?_drop]; exact bytesL_at s (i + j) (by omega)
    rw [List.getElem?_eq_getElem (by rw [sfx_len]; exact hj)] at e2
    injection e2 with e2
    rw [e2]; exact (g32 s _).2 e1
  · intro hb
    rcases Nat.lt_or_ge (i + runF s i (· == 32)) s.size with h1 | h1
    · have e1 := k.2 h1
      rw [beq_eq_false_iff_ne] at e1
      refine absurd ((g32 s _).1 (hb _ ?_)) e1
      refine List.mem_iff_getElem?.2 ⟨runF s i (· == 32), ?_⟩
      unfold sfx; rw [List.getElem?_drop]; exact bytesL_at s _ h1
    · omega
theorem trimF_all : ∀ l : List UInt8, (∀ b ∈ l, b = 32) → trimF l = []
  | [], _ => rfl
  | c :: l, h => by
    rw [h c (List.mem_cons_self ..), trimF_sp]
    exact trimF_all l fun b hb => h b (List.mem_cons_of_mem _ hb)
theorem trimF_split : ∀ l : List UInt8, ∃ r, l = r ++ trimF l ∧ ∀ b ∈ r, b = 32
  | [] => ⟨[], rfl, fun b h => by cases h⟩
  | c :: l => by
    by_cases h : c = 32
    · subst h
      obtain ⟨r, h1, h2⟩ := trimF_split l
      refine ⟨32 :: r, by rw [trimF_sp]; exact congrArg (32 :: ·) h1, fun b hb => ?_⟩
      rcases List.mem_cons.1 hb with rfl | hb
      · rfl
      · exact h2 b hb
    · exact ⟨[], by rw [trimF_no _ _ h]; rfl, fun b h => by cases h⟩
theorem trimR_split (l : List UInt8) : ∃ r, l = trimR l ++ r ∧ ∀ b ∈ r, b = 32 := by
  obtain ⟨r, h1, h2⟩ := trimF_split l.reverse
  refine ⟨r.reverse, ?_, fun b hb => h2 b (List.mem_reverse.1 hb)⟩
  unfold trimR
  have := congrArg List.reverse h1
  rw [List.reverse_reverse, List.reverse_append] at this
  exact this
theorem trimR_back : ∀ (r p : List UInt8), (∀ b ∈ r, b = 32) → p.getLast? ≠ some 32 → trimR (p ++ r) = p := by
  intro r p hr hp
  unfold trimR
  rw [List.reverse_append]
  have e : ∀ (a b : List UInt8), (∀ x ∈ a, x = 32) → b.head? ≠ some 32 → (a ++ b).dropWhile (· == 32) = b := by
    intro a
    induction a with
    | nil =>
      intro b _ hb
      cases b with
      | nil => rfl
      | cons c b => exact List.dropWhile_cons_of_neg (by simpa using hb)
    | cons c a ih =>
      intro b ha hb
      rw [ha c (List.mem_cons_self ..)]
      show ((32 : UInt8) :: (a ++ b)).dropWhile _ = _
      rw [List.dropWhile_cons_of_pos (by decide)]
      exact ih b (fun x hx => ha x (List.mem_cons_of_mem _ hx)) hb
  rw [e _ _ (fun x hx => hr x (List.mem_reverse.1 hx)) (by rw [List.head?_reverse]; exact hp), List.reverse_reverse]
theorem trimF_sfx (s : ByteArray) (k : Nat) : trimF (sfx s k) = sfx s (indA s k) := by
  rw [trimF_ind]; unfold indA sfx; rw [List.drop_drop]
theorem trimS_sfx (s : ByteArray) (k : Nat) : trimS (sfx s k) = trimR (sfx s (indA s k)) := by unfold trimS; rw [trimF_sfx]
end Go.Pub
namespace Go.Proofs.YthfienjmigidbaaGreatDoor
open Go.RowKit Go.Pub

/-- Optional attributes and spaces up to the end. -/
def attrRestM (c : ByteArray) (k : Nat) : Option AttrL :=
  if indA c k = c.size then some emptyA else if (parseL c (indA c k)).2.2 = 0 ∧ ¬ (indA c (parseL c (indA c k)).2.1 < c.size) then some (parseL c (indA c k)).1 else none
theorem getLast_at (s : ByteArray) (i t : Nat) (h1 : i < t) (h2 : t ≤ s.size) : (sub s i t).getLast? = some (s.get! (t - 1)) := by
  have := sub_snoc s i (t - 1) (by omega) (by omega)
  rw [show t - 1 + 1 = t by omega] at this
  rw [this, List.getLast?_concat]
theorem sfx_sub (s : ByteArray) (i t : Nat) (h1 : i ≤ t) : sfx s i = sub s i t ++ sfx s t := by
  have := List.take_append_drop (t - i) (sfx s i)
  unfold sub
  rw [← sfx_add] at this
  rw [show i + (t - i) = t by omega] at this
  exact this.symm
theorem sub_size (s : ByteArray) (i t : Nat) (h1 : i ≤ t) (h2 : t ≤ s.size) : (sub s i t).length = t - i := by
  unfold sub
  rw [List.length_take, List.length_drop, bytesL_length]; omega
theorem parse_at {s : ByteArray} {i t : Nat} (h : (parseL s i).2.2 = 0) (ht : (parseL s i).2.1 = t) : parseL s i = ((parseL s i).1, t, 0) := by rw [← h, ← ht]
theorem only_rest (c : ByteArray) (k : Nat) (hk : k ≤ c.size) : onlyR (c.extract k c.size) = attrRestM c k := by
  have hb := indA_bd c k hk
  have hX : bytesL (c.extract k c.size) = sfx c k := by rw [extract_drop, bytesL_mk']
  unfold onlyR attrRestM
  rw [hX, trimS_sfx]
  generalize hi : indA c k = i at *
  obtain ⟨r, hr, hr32⟩ := trimR_split (sfx c i)
  have hhd : (sfx c i).head? ≠ some 32 := by
    have := trimF_head (sfx c k)
    rwa [trimF_sfx, hi] at this
  generalize hT : trimR (sfx c i) = T at *
  have hTz : (mk T).size = T.length := mk_size T
  have hlen := congrArg List.length hr
  rw [sfx_len, List.length_append] at hlen
  have hiff : (mk T).size = 0 ↔ i = c.size := by
    rw [hTz]
    constructor
    · intro h0
      have : T = [] := List.length_eq_zero_iff.1 h0
      subst this
      cases r with
      | nil => simp at hlen; omega
      | cons x r =>
        rw [hr] at hhd
        refine absurd ?_ hhd
        show some x = some 32
        rw [hr32 x (List.mem_cons_self ..)]
    · intro h0; omega
  by_cases h0 : i = c.size
  · rw [if_pos (hiff.2 h0), if_pos h0]
  · rw [if_neg (fun h => h0 (hiff.1 h)), if_neg h0]
    have ha : Agr c i (mk T) 0 T.length := ⟨T, r, [], hr, by unfold sfx; rw [bytesL_mk']; simp, rfl⟩
    by_cases h1 : (parseL (mk T) 0).2.2 = 0 ∧ (parseL (mk T) 0).2.1 = (mk T).size
    · have hp := parse_move ha.symm (A := (parseL (mk T) 0).1) (by
        show parseL (mk T) 0 = _
        rw [Nat.zero_add, ← hTz]; exact parse_at (s := mk T) (i := 0) h1.1 h1.2)
      rw [if_pos h1, hp, if_pos]
      refine ⟨rfl, ?_⟩
      have e : i + T.length ≤ c.size := by omega
      have : indA c (i + T.length) = c.size := (sp_all c _ e).2 fun b hb => hr32 b (by
        rwa [sfx_app hr] at hb)
      show ¬ (indA c (i + T.length) < c.size)
      omega
    · rw [if_neg h1, if_neg]
      rintro ⟨g1, g2⟩
      apply h1
      have hp := parse_at g1 rfl
      generalize (parseL c i).1 = A at *
      generalize (parseL c i).2.1 = t at *
      obtain ⟨p1, p2, p3, p4, p5⟩ := parseL_pos hp
      have hbt := indA_bd c t p2
      have hall := (sp_all c t p2).1 (by omega)
      have hT2 : T = sub c i t := by
        rw [← hT, sfx_sub c i t (by omega)]
        refine trimR_back _ _ hall ?_
        rw [getLast_at c i t p1 p2]
        intro e
        injection e with e
        rw [g32] at e
        omega
      have hTl : T.length = t - i := by rw [hT2]; exact sub_size c i t (by omega) p2
      have hm := parse_move ha (A := A) (by rw [hp]; congr 2; omega)
      rw [show ((0 : Nat) : Int) = 0 from rfl] at hm
      rw [hm]
      exact ⟨rfl, by rw [hTz]; exact Nat.zero_add _⟩
end Go.Proofs.YthfienjmigidbaaGreatDoor
namespace Go.Pub
open Go.RowKit Go.ChangeMaps Go.MapKept
open Go.Maps (Keyed)
def SetMap (w : World) (b : Nat) (keys : List ByteArray) : Prop :=
  ∃ es clock, w.heap[b]? = some (.map es clock) ∧ es.toList.map (fun e => (e.key, e.val)) = keys.map (fun k => (Value.string k, Value.bool true)) ∧ ∀ k ∈ keys, k.size ≤ maxLen
section
variable {P : Program} {w w' : World} {b : Nat} {keys : List ByteArray}
theorem SetMap.lt (h : SetMap w b keys) : b < w.heap.size := by
  obtain ⟨es, clock, hb, _⟩ := h
  exact (Array.getElem?_eq_some_iff.1 hb).1
theorem SetMap.new (w : World) : SetMap (w.alloc (.map #[] 0)) w.heap.size [] := ⟨#[], 0, (MapKept.heap_alloc w _).1, rfl, fun _ h => absurd h (by simp)⟩
theorem SetMap.kept (h : SetMap w b keys) (hb : w'.heap[b]? = w.heap[b]?) : SetMap w' b keys := by
  obtain ⟨es, clock, h1, h2⟩ := h
  exact ⟨es, clock, hb.trans h1, h2⟩
theorem SetMap.alloc (h : SetMap w b keys) (o : Obj) : SetMap (w.alloc o) b keys := h.kept (Below.heap_alloc _ _ _ h.lt)
theorem SetMap.below (h : SetMap w b keys) (hb : Below w.heap.size w w') : SetMap w' b keys := h.kept (hb.block _ h.lt)
theorem keyOf_str {k : TypeId} (hk : P.underlying k = some .string) {s : ByteArray} (hs : s.size ≤ maxLen) : ∃ l, keyOf P k (.string s) = some l := by
  unfold keyOf
  rw [hk]
  simp [mapKey, hk, hs]
theorem SetMap.entries {k : TypeId} (hk : P.underlying k = some .string) {es : Array MapEntry} (he : es.toList.map (fun e => (e.key, e.val)) = keys.map (fun k => (Value.string k, Value.bool true))) (hm : ∀ k ∈ keys, k.size ≤ maxLen) :
    ∀ e ∈ es.toList, ∃ s, s ∈ keys ∧ e.key = .string s ∧ e.val = .bool true ∧ ∃ l, keyOf P k e.key = some l := by
  intro e hmem
  have : (e.key, e.val) ∈ es.toList.map (fun e => (e.key, e.val)) := List.mem_map.2 ⟨e, hmem, rfl⟩
  rw [he] at this
  obtain ⟨s, hs, he'⟩ := List.mem_map.1 this
  injection he' with e1 e2
  obtain ⟨l, hl⟩ := keyOf_str hk (hm s hs)
  exact ⟨s, hs, e1.symm, e2.symm, l, by rw [← e1]; exact hl⟩
theorem SetMap.find {k : TypeId} (hk : P.underlying k = some .string) {es : Array MapEntry} (he : es.toList.map (fun e => (e.key, e.val)) = keys.map (fun k => (Value.string k, Value.bool true))) (hm : ∀ k ∈ keys, k.size ≤ maxLen)
    (x : ByteArray) (hx : x.size ≤ maxLen) (w : World) : (x ∉ keys ∧ (Instr.findKey k (.string x) es.toList).run P w = .ok none w) ∨ (x ∈ keys ∧ ∃ j, (Instr.findKey k (.string x) es.toList).run P w = .ok (some (j, .bool true)) w) := by
  obtain ⟨lx, hlx⟩ := keyOf_str hk hx
  have hE := SetMap.entries hk he hm
  rcases (Maps.string_keyed hk).find w hlx es.toList (fun e hmem => (hE e hmem).choose_spec.2.2.2) with ⟨h1, h2⟩ | ⟨j, e, h1, h2, h3⟩
  · left
    refine ⟨fun hmem => ?_, h1⟩
    have : (Value.string x, Value.bool true) ∈ keys.map (fun k => (Value.string k, Value.bool true)) := List.mem_map.2 ⟨x, hmem, rfl⟩
    rw [← he] at this
    obtain ⟨e, hmem', he'⟩ := List.mem_map.1 this
    injection he' with e1 e2
    exact h2 e hmem' e1
  · right
    have hmem := List.mem_of_getElem? h2
    obtain ⟨s, hs, k1, k2, _⟩ := hE e hmem
    rw [h3] at k1
    injection k1 with k1
    subst k1
    rw [k2] at h1
    exact ⟨hs, j, h1⟩
theorem SetMap.look {t k e : TypeId} (h : SetMap w b keys) (ht : P.underlying t = some (.map k e)) (hk : P.underlying k = some .string) (hz : (zeroValue e).run P w = .ok (.bool false) w) (x : ByteArray) (hx : x.size ≤ maxLen) :
    (Instr.lookup t (.map (some b)) (.string x) false).run P w = .ok (.bool (Lib.containsS keys x)) w := by
  obtain ⟨es, clock, hb, he, hm⟩ := h
  obtain ⟨lx, hlx⟩ := keyOf_str hk hx
  have hck := (Maps.string_keyed hk).check w es.isEmpty hlx
  rcases SetMap.find hk he hm x hx w with ⟨h1, h2⟩ | ⟨h1, j, h2⟩
  · have hc : Lib.containsS keys x = false := by rw [← Bool.not_eq_true, Lib.containsS_iff]; exact h1
    simp [Instr.lookup, run_underlying ht, MapKept.run_getObj_map hb, hck, h2, hz, hc, Result.andThen]
  · have hc : Lib.containsS keys x = true := (Lib.containsS_iff _ _).2 h1
    simp [Instr.lookup, run_underlying ht, MapKept.run_getObj_map hb, hck, h2, hc, Result.andThen]
theorem SetMap.put {t k e : TypeId} (h : SetMap w b keys) (ht : P.underlying t = some (.map k e)) (hk : P.underlying k = some .string) (x : ByteArray) (hx : x.size ≤ maxLen) (hno : Lib.containsS keys x = false) :
    ∃ w1, (Instr.mapUpdate t (.map (some b)) (.string x) (.bool true)).run P w = .ok () w1 ∧ SetMap w1 b (keys ++ [x]) ∧ w.grownBy w1 (some b) ∧ w1.heap.size = w.heap.size := by
  have hlt := h.lt
  obtain ⟨es, clock, hb, he, hm⟩ := h
  obtain ⟨lx, hlx⟩ := keyOf_str hk hx
  have hck := (Maps.string_keyed hk).check w false hlx
  rcases SetMap.find hk he hm x hx w with ⟨h1, h2⟩ | ⟨h1, j, h2⟩
  · refine ⟨setBlock w b (.map (es.push ⟨.string x, .bool true, clock⟩) (clock + 1)), ?_, ⟨es.push ⟨.string x, .bool true, clock⟩, clock + 1, ?_, ?_, ?_⟩, ⟨rfl, rfl, rfl, ?_, ?_⟩, ?_⟩
    · simp [Instr.mapUpdate, run_underlying ht, MapKept.run_getObj_map hb, hck, h2, MapKept.run_setObj_map _ hb, Result.andThen, setBlock]
    · simp [setBlock, Array.getElem?_setIfInBounds, hlt]
    · rw [Array.toList_push, List.map_append, List.map_append, he]; rfl
    · intro y hy
      rcases List.mem_append.1 hy with hy | hy
      · exact hm y hy
      · simp at hy; subst hy; exact hx
    · simp [setBlock]
    · intro i _ hi
      simp only [setBlock]
      rw [Array.getElem?_setIfInBounds, if_neg (fun e => hi (by rw [e]))]
    · simp [setBlock]
  · have := (Lib.containsS_iff _ _).2 h1
    rw [hno] at this; cases this
theorem SetMap.clear {t : TypeId} {k e : TypeId} (h : SetMap w b keys) (ht : P.underlying t = some (.map k e)) :
    ∃ w1, (∀ ty, (Builtin.clear_ #[t] ty #[.map (some b)]).run P w = .ok (.tuple #[]) w1) ∧ SetMap w1 b [] ∧ w.grownBy w1 (some b) ∧ w1.heap.size = w.heap.size := by
  have hlt := h.lt
  obtain ⟨es, clock, hb, he, hm⟩ := h
  refine ⟨setBlock w b (.map #[] clock), ?_, ⟨#[], clock, ?_, rfl, fun _ h => absurd h (by simp)⟩, ⟨rfl, rfl, rfl, ?_, ?_⟩, ?_⟩
  · intro ty
    simp [Builtin.clear_, run_underlying ht, MapKept.run_getObj_map hb, MapKept.run_setObj_map _ hb, Result.andThen, setBlock]
  · simp [setBlock, Array.getElem?_setIfInBounds, hlt]
  · simp [setBlock]
  · intro i _ hi
    simp only [setBlock]
    rw [Array.getElem?_setIfInBounds, if_neg (fun e => hi (by rw [e]))]
  · simp [setBlock]
end
end Go.Pub
namespace Go.Proofs.YthfienjmigidbaaGreatDoor
open Go.RowKit Go.Pub

def clsE : List ByteArray → List ByteArray → Nat
  | _, [] => 0
  | seen, c :: r => if nameB c = false then 6 else if Lib.containsS seen c = true then 7 else clsE (seen ++ [c]) r
def prsE : List ByteArray → List (ByteArray × ByteArray) → Nat
  | _, [] => 0
  | seen, p :: r => if nameB p.1 = false then 6 else if lineB p.2 = false then 17 else if Lib.containsS seen p.1 = true then 7 else prsE (seen ++ [p.1]) r
def limE (a : AttrL) : Nat := if 32 < a.cl.length ∨ 32 < a.pr.length then 3 else 0
def restE (a : AttrL) : Nat := if clsE [] a.cl = 0 then (if prsE [] a.pr = 0 then limE a else prsE [] a.pr) else clsE [] a.cl
/-- The first error of attributes. -/
def checkE (a : AttrL) : Nat := if a.id = ⟨#[]⟩ then restE a else if nameB a.id = true then restE a else 6

theorem clsE_at (l : List ByteArray) (k : Nat) (h : k < l.length) : clsE (l.take k) (l.drop k) = if nameB l[k] = false then 6 else if Lib.containsS (l.take k) l[k] = true then 7 else clsE (l.take (k + 1)) (l.drop (k + 1)) := by
  rw [List.drop_eq_getElem_cons h, clsE, List.take_succ_eq_append_getElem h]
theorem clsE_end (l : List ByteArray) (k : Nat) (h : l.length ≤ k) : clsE (l.take k) (l.drop k) = 0 := by
  rw [List.drop_eq_nil_of_le h]; rfl
def keysOf (l : List (ByteArray × ByteArray)) : List ByteArray := l.map (·.1)
theorem prsE_at (l : List (ByteArray × ByteArray)) (k : Nat) (h : k < l.length) : prsE (keysOf (l.take k)) (l.drop k) = if nameB l[k].1 = false then 6 else if lineB l[k].2 = false then 17 else if Lib.containsS (keysOf (l.take k)) l[k].1 = true then 7 else prsE (keysOf (l.take (k + 1))) (l.drop (k + 1)) := by
  rw [List.drop_eq_getElem_cons h, prsE, List.take_succ_eq_append_getElem h]
  unfold keysOf
  rw [List.map_append]; rfl
theorem prsE_end (l : List (ByteArray × ByteArray)) (k : Nat) (h : l.length ≤ k) : prsE (keysOf (l.take k)) (l.drop k) = 0 := by
  rw [List.drop_eq_nil_of_le h]; rfl

/-- Attributes that are read alone. -/
structure ReadA (w : World) (B : Nat) (a : AttrL) (A : Option Addr) (c : Nat) (D : Option Addr) (d : Nat) : Prop where
  cls : Reads w B 1 A a.cl.length (strs a.cl)
  prs : Reads w B 2 D a.pr.length (prs a.pr)
  le : B ≤ w.heap.size
  nc : a.cl.length ≤ 1000000
  np : a.pr.length ≤ 1000000
  sid : a.id.size ≤ 1000000
  scl : ∀ x ∈ a.cl, x.size ≤ 1000000
  spr : ∀ x ∈ a.pr, x.1.size ≤ 1000000 ∧ x.2.size ≤ 1000000
theorem ReadA.below {w w' : World} {B : Nat} {a : AttrL} {A : Option Addr} {c : Nat} {D : Option Addr} {d : Nat} (h : ReadA w B a A c D d) (hb : Below w.heap.size w w') : ReadA w' B a A c D d :=
  ⟨h.cls.below (hb.mono h.le), h.prs.below (hb.mono h.le), Nat.le_trans h.le hb.size, h.nc, h.np, h.sid, h.scl, h.spr⟩

theorem zero_bool (w : World) : (zeroValue 4).run Tryz.prog w = .ok (.bool false) w := by kernel_rfl

/-- What stands in memory in Check's loops. -/
structure CInv (w : World) (a : AttrL) (A : Option Addr) (c : Nat) (D : Option Addr) (d : Nat) (keys : List ByteArray) (wr : World) : Prop where
  blk : Blk wr w.heap.size 25 #[.string a.id, .slice A a.cl.length c, .slice D a.pr.length d]
  map : SetMap wr (w.heap.size + 1) keys
  bel : Below w.heap.size w wr
theorem CInv.put {w : World} {a : AttrL} {A : Option Addr} {c : Nat} {D : Option Addr} {d : Nat} {keys keys' : List ByteArray} {wr w1 : World} (h : CInv w a A c D d keys wr) (hm : SetMap w1 (w.heap.size + 1) keys') (hg : wr.grownBy w1 (some (w.heap.size + 1))) : CInv w a A c D d keys' w1 :=
  ⟨h.blk.grown hg (by simp), hm, h.bel.grown hg h.bel.size (fun k hk => by injection hk with hk; omega)⟩
theorem CInv.below {w : World} {a : AttrL} {A : Option Addr} {c : Nat} {D : Option Addr} {d : Nat} {keys : List ByteArray} {wr w1 : World} (h : CInv w a A c D d keys wr) (hb : Below wr.heap.size wr w1) : CInv w a A c D d keys w1 :=
  ⟨h.blk.below hb h.blk.lt, h.map.below hb, h.bel.trans (hb.mono h.bel.size)⟩

end Go.Proofs.YthfienjmigidbaaGreatDoor
namespace Go.Pub
open Go.RowKit
theorem quiet_add_left {P : Program} {f : FuncId} {args : Array Value} {w : World} {a n : Nat} {v : Value}
    (h : Calls P f args (w.drewN (a + n)) fun e w' => e = .returned v ∧ w.drewN (a + n) = w') :
    Calls P f args (w.drewN (a + n)) fun e w'' => e = .returned v ∧ ∃ m, w'' = w.drewN (a + m) :=
  h.mono fun _ _ ⟨he, hm⟩ => ⟨he, n, hm.symm⟩
theorem quiet_left {P : Program} {f : FuncId} {args : Array Value} {w : World} {n : Nat} {v : Value}
    (h : Calls P f args (w.drewN n) fun e w' => e = .returned v ∧ w.drewN n = w') : Calls P f args (w.drewN n) fun e w'' => e = .returned v ∧ ∃ m, w'' = w.drewN m :=
  h.mono fun _ _ ⟨he, hm⟩ => ⟨he, n, hm.symm⟩
theorem Reads.take {w : World} {B size n k : Nat} {A : Option Addr} {xs : List Value} (h : Reads w B size A n xs) (hk : k ≤ n) : Reads w B size A k (xs.take (k * size)) := by
  refine ⟨by rw [List.length_take, h.1]; exact Nat.min_eq_left (Nat.mul_le_mul_right _ hk), fun h0 => ?_⟩
  obtain ⟨ad, e, hb, hc⟩ := h.2 (by omega)
  refine ⟨ad, e, hb, fun j u hu => hc j u ?_⟩
  rw [List.getElem?_take] at hu
  split at hu
  · exact hu
  · cases hu
theorem strs_take (l : List ByteArray) (k : Nat) : strs (l.take k) = (strs l).take (k * 1) := by unfold strs; rw [Nat.mul_one, List.map_take]
theorem prs_take (l : List (ByteArray × ByteArray)) (k : Nat) : prs (l.take k) = (prs l).take (k * 2) := by
  induction l generalizing k with
  | nil => simp [prs]
  | cons p l ih =>
    cases k with
    | zero => simp [prs]
    | succ k =>
      have := ih k
      unfold prs at this ⊢
      rw [List.take_succ_cons, List.flatMap_cons, List.flatMap_cons, this]
      rw [show (k + 1) * 2 = (k * 2) + 2 by omega]
      rfl
end Go.Pub
namespace Go.Proofs.YthfienjmigidbaaGreatDoor
open Go.RowKit Go.Pub

theorem hasText_take (A : Option Addr) (c B k : Nat) (zs : List ByteArray) (x : ByteArray) (w : World) (hr : Reads w B 1 A zs.length (strs zs)) (hk : k ≤ zs.length) (hn : zs.length ≤ 1000000) :
    Calls Tryz.prog 160 #[.slice A k c, .string x] w fun e w' => e = .returned (.bool (Lib.containsS (zs.take k) x)) ∧ w = w' := by
  have e : (zs.take k).length = k := by rw [List.length_take]; omega
  have h := hasText_any A c B (zs.take k) x w (by rw [e, strs_take]; exact hr.take hk) (by omega)
  rw [e] at h
  exact h
theorem contains_keys (zs : List (ByteArray × ByteArray)) (x : ByteArray) : hasKeyL zs x = Lib.containsS (keysOf zs) x := by
  rw [Bool.eq_iff_iff, Lib.containsS_iff]
  unfold hasKeyL keysOf
  induction zs with
  | nil => simp [getL]
  | cons p l ih =>
    unfold getL
    by_cases h : p.1 = x
    · rw [if_pos h]; simp [h]
    · rw [if_neg h, ih]; simp; intro e; exact absurd e.symm h
theorem hasKey_take (A : Option Addr) (c B k : Nat) (zs : List (ByteArray × ByteArray)) (x : ByteArray) (w : World) (hr : Reads w B 2 A zs.length (prs zs)) (hk : k ≤ zs.length) (hn : zs.length ≤ 1000000) :
    Calls Tryz.prog 148 #[.slice A k c, .string x] w fun e w' => e = .returned (.bool (Lib.containsS (keysOf (zs.take k)) x)) ∧ w = w' := by
  have e : (zs.take k).length = k := by rw [List.length_take]; omega
  have h := hasKey_any A c B (zs.take k) x w (by rw [e, prs_take]; exact hr.take hk) (by omega)
  rw [e, contains_keys] at h
  exact h

structure BInv (w : World) (a : AttrL) (A : Option Addr) (c : Nat) (D : Option Addr) (d : Nat) (wr : World) : Prop where
  blk : Blk wr w.heap.size 25 #[.string a.id, .slice A a.cl.length c, .slice D a.pr.length d]
  bel : Below w.heap.size w wr
theorem BInv.below {w : World} {a : AttrL} {A : Option Addr} {c : Nat} {D : Option Addr} {d : Nat} {wr w1 : World} (h : BInv w a A c D d wr) (hb : Below wr.heap.size wr w1) : BInv w a A c D d w1 :=
  ⟨h.blk.below hb h.blk.lt, h.bel.trans (hb.mono h.bel.size)⟩
theorem BInv.drewN {w : World} {a : AttrL} {A : Option Addr} {c : Nat} {D : Option Addr} {d : Nat} {wr : World} (h : BInv w a A c D d wr) (n : Nat) : BInv w a A c D d (wr.drewN n) := ⟨h.blk, below_drewN h.bel n⟩

end Go.Proofs.YthfienjmigidbaaGreatDoor
