/-
  Texts of the proof, put together (what this law reaches): ScTH.
-/
import Derived.Test.YtcjkgmfidkgamaaGreatDoorD17
import Derived.Test.YtcjkgmfidkgamaaGreatDoorD05
import Derived.Test.YtcjkgmfidkgamaaGreatDoorD08
import Derived.Test.YtcjkgmfidkgamaaGreatDoorD03
import Derived.Test.YtcjkgmfidkgamaaGreatDoorD04
set_option linter.unusedVariables false
set_option linter.unusedSimpArgs false
namespace Go.Proofs.YtcjkgmfidkgamaaGreatDoor
open Go.RowKit Go.Pub
theorem step_store_row {ops : Array Oper} {o : Oper} {a : Act} {w : World} {K : Act → World → Prop} {Q : Exit → Act → World → Prop} {E : Prop} (hgd : o.guard = none) (ty : TypeId) (x y : Operand) (ho : o.op = .store ty x y)
    (g : Nat) (cells : Array Value) (hx : a.eval x = .pointer (some ⟨g, 0, none⟩)) (hy : a.eval y = .agg cells)
    (t : TypeId) (old : Array Value) (hg : w.heap[g]? = some (.cells old t (0, 0))) (hi : (Tryz.prog.info? ty).map (·.size) = some cells.size)
    (hold : old.size = cells.size) (h1 : cells.all (·.oneCell') = true)
    (h : K (a.put o.dst undef) (w.setRow g cells)) : if Region.wanted o (yielded ops a.tmps) = true then Oper.wp Tryz.prog o a w K Q else E := by
  have hw : Region.wanted o (yielded ops a.tmps) = true := by simp [Region.wanted, hgd]
  rw [if_pos hw]
  exact wp_store_row ty x y ho g cells hx hy t old hg hi hold h1 h
theorem row_cell (W : World) (g : Nat) (cs : Array Value) (p : Addr) (h : p.block ≠ g) : (W.setRow g cs).cell? p = W.cell? p := World.cell?_of_block (row_far W g cs _ h)
/-- The memory of a character reference that is being read. -/
structure EnW (w W : World) : Prop where
  kp : Kp w W
  names : Blk W (w.heap.size + 1) 9 #[.string ⟨#[38, 97, 109, 112, 59]⟩, .string ⟨#[38, 108, 116, 59]⟩, .string ⟨#[38, 103, 116, 59]⟩, .string ⟨#[38, 113, 117, 111, 116, 59]⟩]
  vals : Blk W (w.heap.size + 2) 9 #[.string ⟨#[38]⟩, .string ⟨#[60]⟩, .string ⟨#[62]⟩, .string ⟨#[34]⟩]
theorem EnW.start (w : World) : EnW w (((w.alloc (.cells zPc 36)).alloc (.cells #[.string ⟨#[38, 97, 109, 112, 59]⟩, .string ⟨#[38, 108, 116, 59]⟩, .string ⟨#[38, 103, 116, 59]⟩, .string ⟨#[38, 113, 117, 111, 116, 59]⟩] 9)).alloc (.cells #[.string ⟨#[38]⟩, .string ⟨#[60]⟩, .string ⟨#[62]⟩, .string ⟨#[34]⟩] 9)) := by
  refine ⟨⟨((Blk.new w _ _).alloc _).alloc _, ((((Below.refl _ w).alloc (Nat.le_refl _) _).alloc (by simp) _).alloc (by simp; omega) _)⟩, ?_, ?_⟩
  · have := Blk.new (w.alloc (.cells zPc 36)) 9 #[.string ⟨#[38, 97, 109, 112, 59]⟩, .string ⟨#[38, 108, 116, 59]⟩, .string ⟨#[38, 103, 116, 59]⟩, .string ⟨#[38, 113, 117, 111, 116, 59]⟩]
    rw [World.size_alloc] at this
    exact this.alloc _
  · have := Blk.new ((w.alloc (.cells zPc 36)).alloc (.cells #[.string ⟨#[38, 97, 109, 112, 59]⟩, .string ⟨#[38, 108, 116, 59]⟩, .string ⟨#[38, 103, 116, 59]⟩, .string ⟨#[38, 113, 117, 111, 116, 59]⟩] 9)) 9 #[.string ⟨#[38]⟩, .string ⟨#[60]⟩, .string ⟨#[62]⟩, .string ⟨#[34]⟩]
    simp only [World.size_alloc] at this
    exact this
theorem EnW.next {w W W' : World} (h : EnW w W) (hb : Below W.heap.size W W') : EnW w W' := ⟨h.kp.next hb, h.names.below hb h.names.lt, h.vals.below hb h.vals.lt⟩
set_option maxRecDepth 100000 in
set_option maxHeartbeats 8000000 in
theorem r9_entity (s : ByteArray) (i : Nat) (w : World) (hs : s.size ≤ 1000000) (hi : i < s.size) : Calls Tryz.prog 49 #[.string s, .int .i64 i] w (RfPost ((entI s i).map (pcI · i)) w) := by
  have HP0 : Hid (∀ W, Calls Tryz.prog 87 #[.string s, .int .i64 i, .string ⟨#[38, 97, 109, 112, 59]⟩] W fun e w' => e = .returned (.bool (begB s i [38, 97, 109, 112, 59])) ∧ W = w') := Lib.hid fun W => r9_beg s ⟨#[38, 97, 109, 112, 59]⟩ i W hs (by omega) (by decide) (by decide)
  have HP1 : Hid (∀ W, Calls Tryz.prog 87 #[.string s, .int .i64 i, .string ⟨#[38, 108, 116, 59]⟩] W fun e w' => e = .returned (.bool (begB s i [38, 108, 116, 59])) ∧ W = w') := Lib.hid fun W => r9_beg s ⟨#[38, 108, 116, 59]⟩ i W hs (by omega) (by decide) (by decide)
  have HP2 : Hid (∀ W, Calls Tryz.prog 87 #[.string s, .int .i64 i, .string ⟨#[38, 103, 116, 59]⟩] W fun e w' => e = .returned (.bool (begB s i [38, 103, 116, 59])) ∧ W = w') := Lib.hid fun W => r9_beg s ⟨#[38, 103, 116, 59]⟩ i W hs (by omega) (by decide) (by decide)
  have HP3 : Hid (∀ W, Calls Tryz.prog 87 #[.string s, .int .i64 i, .string ⟨#[38, 113, 117, 111, 116, 59]⟩] W fun e w' => e = .returned (.bool (begB s i [38, 113, 117, 111, 116, 59])) ∧ W = w') := Lib.hid fun W => r9_beg s ⟨#[38, 113, 117, 111, 116, 59]⟩ i W hs (by omega) (by decide) (by decide)
  have HP4 : Hid (∀ W, Calls Tryz.prog 87 #[.string s, .int .i64 i, .string ⟨#[38, 35]⟩] W fun e w' => e = .returned (.bool (begB s i [38, 35])) ∧ W = w') := Lib.hid fun W => r9_beg s ⟨#[38, 35]⟩ i W hs (by omega) (by decide) (by decide)
  have HL : Hid (begB s i [38, 35] = true → i + 2 ≤ s.size) := Lib.hid fun h => begB_len h (by simp)
  have HDG := Lib.hid fun (b : Nat) W => r9_digit b W
  have HAP : Hid (∀ (n : Nat) W, Calls Tryz.prog 89 #[.string ⟨#[]⟩, .int .i64 n] W fun e w' => e = .returned (.string (Utf8.encode (n : Int))) ∧ Below W.heap.size W w') := Lib.hid fun n W => by
    have h := append_ref ⟨#[]⟩ (n : Int) W (by decide)
    rwa [show (⟨#[]⟩ : ByteArray) ++ Utf8.encode (n : Int) = Utf8.encode (n : Int) from ByteArray.empty_append] at h
  have HDK := Lib.hid fun k h1 h2 h3 h4 h5 => digK_eq s i k h1 h2 h3 h4 h5
  obtain ⟨R, hR⟩ : ∃ R, R = (entI s i).map (pcI · i) := ⟨_, rfl⟩
  rw [← hR]
  have hR2 : R = if begB s i [38, 97, 109, 112, 59] = true then some { inl := spn 1 ⟨#[38]⟩, bg := i, nd := i + 5 } else if begB s i [38, 108, 116, 59] = true then some { inl := spn 1 ⟨#[60]⟩, bg := i, nd := i + 4 } else if begB s i [38, 103, 116, 59] = true then some { inl := spn 1 ⟨#[62]⟩, bg := i, nd := i + 4 } else if begB s i [38, 113, 117, 111, 116, 59] = true then some { inl := spn 1 ⟨#[34]⟩, bg := i, nd := i + 6 } else if begB s i [38, 35] = true then
      if digK s i ≠ 0 ∧ i + 2 + digK s i < s.size ∧ bt s (i + 2 + digK s i) = 59 ∧ goodC (numV (sub s (i + 2) (i + 2 + digK s i))) = true then
        some { inl := spn 1 (Utf8.encode (numV (sub s (i + 2) (i + 2 + digK s i)) : Nat)), bg := i, nd := i + 2 + digK s i + 1 }
      else none
    else none := by
    rw [hR]; unfold entI
    repeat' split
    all_goals rfl
  have HR := Lib.hid hR2
  clear hR hR2
  generalize digK s i = DK at *
  generalize begB s i [38, 97, 109, 112, 59] = q0 at *
  generalize begB s i [38, 108, 116, 59] = q1 at *
  generalize begB s i [38, 103, 116, 59] = q2 at *
  generalize begB s i [38, 113, 117, 111, 116, 59] = q3 at *
  generalize begB s i [38, 35] = q4 at *
  go_enter Tryz.func49, Tryz.ntmps49
  go_wp2_with fail
  generalize hW : World.alloc (World.alloc (World.alloc w _) _) _ = W0
  have HE0 : Hid (EnW w W0) := Lib.hid (by rw [← hW]; exact EnW.start w)
  clear hW
  have n0 : W0.cell? ⟨w.heap.size + 1, 0, none⟩ = some (.string ⟨#[38, 97, 109, 112, 59]⟩) := HE0.out.names.cell 0
  have n1 : W0.cell? ⟨w.heap.size + 1, 1, none⟩ = some (.string ⟨#[38, 108, 116, 59]⟩) := HE0.out.names.cell 1
  have n2 : W0.cell? ⟨w.heap.size + 1, 2, none⟩ = some (.string ⟨#[38, 103, 116, 59]⟩) := HE0.out.names.cell 2
  have n3 : W0.cell? ⟨w.heap.size + 1, 3, none⟩ = some (.string ⟨#[38, 113, 117, 111, 116, 59]⟩) := HE0.out.names.cell 3
  refine wp_loop_rounds 5 ?_
  rw [rounds_succ]
  go_wp2_with fail
  ((with_reducible refine (HP0.out _).mono ?_))
  rintro e w1 ⟨rfl, rfl⟩
  cases q0
  · have HR1 := Lib.hid (HR.out.trans (if_neg (by simp)))
    clear HR
    go_wp2_with fail
    rw [rounds_succ]
    go_wp2_with fail
    ((with_reducible refine (HP1.out _).mono ?_))
    rintro e w1 ⟨rfl, rfl⟩
    cases q1
    · have HR2 := Lib.hid (HR1.out.trans (if_neg (by simp)))
      clear HR1
      go_wp2_with fail
      rw [rounds_succ]
      go_wp2_with fail
      ((with_reducible refine (HP2.out _).mono ?_))
      rintro e w1 ⟨rfl, rfl⟩
      cases q2
      · have HR3 := Lib.hid (HR2.out.trans (if_neg (by simp)))
        clear HR2
        go_wp2_with fail
        rw [rounds_succ]
        go_wp2_with fail
        ((with_reducible refine (HP3.out _).mono ?_))
        rintro e w1 ⟨rfl, rfl⟩
        cases q3
        · have HR4 := Lib.hid (HR3.out.trans (if_neg (by simp)))
          clear HR3
          go_wp2_with fail
          rw [rounds_succ]
          clear HP0 HP1 HP2 HP3
          go_wp2_with fail
          ((with_reducible refine (HP4.out _).mono ?_))
          rintro e w1 ⟨rfl, rfl⟩
          cases q4
          · have HF : Hid (R = none) := Lib.hid (HR4.out.trans (if_neg (by simp)))
            clear HR4 HDK HAP HDG HL
            go_wp2_with (refine wpList_store_row rfl 36 (.tmp 4) _ rfl _ _ rfl rfl _ _ HE0.out.kp.1 pc_size (by rfl) (by simp [pcC, Value.oneCell']) ?_)
            exact rf_no Tryz.results49 HE0.out.kp HF.out rfl rfl rfl rfl
          · have HQ := Lib.hid (HR4.out.trans (if_pos rfl))
            have hl2 := HL.out rfl
            have K0 := Lib.hid HE0.out.kp
            clear HR4 HL HE0 n0 n1 n2 n3
            go_wp2_with fail
            go_loop [9, 10] (fun v9 v10 => ∃ n e : Nat, v10 = .int .i64 n ∧ v9 = .int .i64 e ∧ i + 2 ≤ e ∧ e ≤ i + 9 ∧ e ≤ s.size ∧ Hid (n = numV (sub s (i + 2) e)) ∧ n < 10 ^ (e - i - 2) ∧ Hid (∀ j, i + 2 ≤ j → j < e → dgN (bt s j) = true)) (fun v _ => s.size - (intOf v).toNat)
            case atStart => exact ⟨0, i + 2, rfl, by go_num, Nat.le_refl _, by omega, hl2, Lib.hid (by unfold sub; simp [numV]), by rw [show i + 2 - i - 2 = 0 by omega]; decide, Lib.hid fun j h1 h2 => by omega⟩
            case round =>
              obtain ⟨n, e, rfl, rfl, hie, he9, hes, HN, hnb, HD⟩ := hrel
              obtain ⟨q, hq⟩ : ∃ q, q = (decide (e < s.size) && decide (e < i + 9) && dgN (bt s e)) := ⟨_, rfl⟩
              have HQq := Lib.hid hq
              clear hq
              go_upto_region 10 with fail
              go_cut [60] from 45 to 70 (fun s60 wx => s60 = .bool q ∧ W0 = wx)
              case first =>
                clear HQ HDK HAP HD HN hnb K0
                by_cases hl : e < s.size
                · have hg := get_bt s e hl
                  by_cases h9 : e < i + 9
                  · have HDGk := Lib.hid (HDG.out (bt s e))
                    have HQ2 : Hid (q = dgN (bt s e)) := Lib.hid (by rw [HQq.out, decide_eq_true hl, decide_eq_true h9]; simp)
                    clear HQq HDG
                    generalize dgN (bt s e) = d at *
                    generalize bt s e = b at *
                    go_wp2_with fail
                    ((with_reducible refine (HDGk.out _).mono ?_))
                    rintro e w1 ⟨rfl, rfl⟩
                    cases d
                    all_goals
                      go_wp2_with fail
                      go_meet
                      case rel => exact ⟨by rw [HQ2.out], rfl⟩
                  · have HQ2 : Hid (q = false) := Lib.hid (by rw [HQq.out, decide_eq_false h9]; simp)
                    clear HQq HDG
                    generalize bt s e = b at *
                    go_wp2_with fail
                    go_meet
                    case rel => exact ⟨by rw [HQ2.out], rfl⟩
                · have HQ2 : Hid (q = false) := Lib.hid (by rw [HQq.out, decide_eq_false hl]; simp)
                  clear HQq HDG
                  go_wp2_with fail
                  go_meet
                  case rel => exact ⟨by rw [HQ2.out], rfl⟩
              case rest =>
              obtain ⟨rfl, rfl⟩ := hcut
              have hn7 : n < 10000000 := by
                have h1 : 10 ^ (e - i - 2) ≤ 10 ^ 7 := Nat.pow_le_pow_right (by omega) (by omega)
                have h2 : (10 : Nat) ^ 7 = 10000000 := by decide
                omega
              cases q
              · have HK : Hid (DK = e - i - 2) := Lib.hid (HDK.out (e - i) (by omega) (by omega) (by omega) (fun j h1 h2 => HD.out j h1 (by omega)) fun h h9 => by
                  have h1 := HQq.out
                  rw [show i + (e - i) = e by omega] at h ⊢
                  rw [decide_eq_true h, decide_eq_true (show e < i + 9 by omega)] at h1
                  simpa using h1.symm)
                have HQ2 : Hid (R = if e ≠ i + 2 ∧ e < s.size ∧ bt s e = 59 ∧ goodC n = true then some { inl := spn 1 (Utf8.encode (n : Int)), bg := i, nd := e + 1 } else none) := Lib.hid (by
                  rw [HQ.out, HK.out, show i + 2 + (e - i - 2) = e by omega, ← HN.out]
                  by_cases h : e ≠ i + 2 ∧ e < s.size ∧ bt s e = 59 ∧ goodC n = true
                  · rw [if_pos h, if_pos ⟨by omega, h.2⟩]
                  · rw [if_neg h, if_neg fun c => h ⟨by omega, c.2⟩])
                obtain ⟨g, hgd⟩ : ∃ g, g = goodC n := ⟨_, rfl⟩
                rw [← hgd] at HQ2
                have HGD := Lib.hid hgd
                clear HQ HK HDK HN HD HQq HDG hnb hgd
                go_upto_region 13 with fail
                go_cut [11] (fun s11 wx => s11 = .bool g ∧ W0 = wx)
                case first =>
                  have hw : (n < 32 ∧ g = false) ∨ (32 ≤ n ∧ n ≤ 126 ∧ g = true) ∨ (32 ≤ n ∧ ¬ n ≤ 126 ∧ ¬ 128 ≤ n ∧ g = false) ∨ (128 ≤ n ∧ n ≤ 1114111 ∧ n < 55296 ∧ g = true) ∨ (128 ≤ n ∧ n ≤ 1114111 ∧ ¬ n < 55296 ∧ 57343 < n ∧ g = true) ∨ (128 ≤ n ∧ n ≤ 1114111 ∧ ¬ n < 55296 ∧ ¬ 57343 < n ∧ g = false) ∨ (128 ≤ n ∧ ¬ n ≤ 1114111 ∧ g = false) := by
                    have h := HGD.out
                    unfold goodC at h
                    cases g
                    · simp at h ⊢; omega
                    · simp at h ⊢; omega
                  clear HGD HQ2 HAP K0
                  rcases hw with ⟨y1, rfl⟩ | ⟨y1, y2, rfl⟩ | ⟨y1, y2, y3, rfl⟩ | ⟨y1, y2, y3, rfl⟩ | ⟨y1, y2, y3, y4, rfl⟩ | ⟨y1, y2, y3, y4, rfl⟩ | ⟨y1, y2, rfl⟩
                  all_goals
                    (first | have d0 : decide (32 ≤ (n : Int)) = true := decide_eq_true (by omega) | have d0 : decide (32 ≤ (n : Int)) = false := decide_eq_false (by omega))
                    (first | have d1 : decide ((n : Int) ≤ 126) = true := decide_eq_true (by omega) | have d1 : decide ((n : Int) ≤ 126) = false := decide_eq_false (by omega))
                    (first | have d2 : decide (128 ≤ (n : Int)) = true := decide_eq_true (by omega) | have d2 : decide (128 ≤ (n : Int)) = false := decide_eq_false (by omega))
                    (first | have d3 : decide ((n : Int) ≤ 1114111) = true := decide_eq_true (by omega) | have d3 : decide ((n : Int) ≤ 1114111) = false := decide_eq_false (by omega))
                    (first | have d4 : decide ((n : Int) < 55296) = true := decide_eq_true (by omega) | have d4 : decide ((n : Int) < 55296) = false := decide_eq_false (by omega))
                    (first | have d5 : decide (57343 < (n : Int)) = true := decide_eq_true (by omega) | have d5 : decide (57343 < (n : Int)) = false := decide_eq_false (by omega))
                    go_wp2_with fail
                    go_meet
                    case rel => exact ⟨rfl, rfl⟩
                case rest =>
                obtain ⟨rfl, rfl⟩ := hcut
                clear HGD
                by_cases x1 : e = i + 2
                · have HF : Hid (R = none) := Lib.hid (HQ2.out.trans (if_neg fun c => c.1 x1))
                  clear HQ2 HAP
                  subst x1
                  have z1 : ((i : Int) + 2 == (i : Int) + 2) = true := beq_self_eq_true _
                  have z2 : (((i + 2 : Nat) : Int) == (i : Int) + 2) = true := beq_iff_eq.2 (by omega)
                  go_wp2_with (refine wpList_store_row rfl 36 (.tmp 4) _ rfl _ _ rfl rfl _ _ K0.out.1 pc_size (by rfl) (by simp [pcC, Value.oneCell']) ?_)
                  exact rf_no Tryz.results49 K0.out HF.out rfl rfl rfl rfl
                · have z1 : ((e : Int) == (i : Int) + 2) = false := beq_eq_false_iff_ne.2 (by omega)
                  by_cases x2 : e < s.size
                  · have hg := get_bt s e x2
                    have z2 : ((e : Int) == (s.size : Int)) = false := beq_eq_false_iff_ne.2 (by omega)
                    by_cases x3 : bt s e = 59
                    · rw [x3] at hg
                      cases g
                      · have HF : Hid (R = none) := Lib.hid (HQ2.out.trans (if_neg fun c => Bool.false_ne_true c.2.2.2))
                        clear HQ2 x3 HAP
                        go_wp2_with (refine wpList_store_row rfl 36 (.tmp 4) _ rfl _ _ rfl rfl _ _ K0.out.1 pc_size (by rfl) (by simp [pcC, Value.oneCell']) ?_)
                        exact rf_no Tryz.results49 K0.out HF.out rfl rfl rfl rfl
                      · have HF : Hid (R = some { inl := spn 1 (Utf8.encode (n : Int)), bg := i, nd := e + 1 }) := Lib.hid (HQ2.out.trans (if_pos ⟨x1, x2, x3, rfl⟩))
                        have HAPn := Lib.hid fun W => HAP.out n W
                        have HTx := Lib.hid fun W => r9_text (Utf8.encode (n : Int)) i (e + 1) i ((e : Int) + 1) rfl (by omega) W
                        clear HQ2 x3 HAP
                        generalize Utf8.encode (n : Int) = Y at *
                        go_wp2_with fail
                        ((with_reducible refine (HAPn.out _).mono ?_))
                        rintro e W1 ⟨rfl, b1⟩
                        have K1 := Lib.hid (K0.out.next b1)
                        clear b1
                        go_wp2_with fail
                        ((with_reducible refine (HTx.out _).mono ?_))
                        rintro e W2 ⟨rfl, b2⟩
                        have K2 := Lib.hid (K1.out.next b2)
                        clear b2
                        go_wp2_with (refine wpList_store_row rfl 36 (.tmp 4) _ rfl _ _ rfl rfl _ _ K2.out.1 pc_size (by rfl) (by simp [pcC, Value.oneCell']) ?_)
                        exact rf_yes Tryz.results49 K2.out HF.out rfl rfl rfl rfl rfl rfl
                    · have HF : Hid (R = none) := Lib.hid (HQ2.out.trans (if_neg fun c => x3 c.2.2.1))
                      have n1 : ((bt s e : Int) != 59) = true := bne_iff_ne.2 (by omega)
                      clear HQ2 x3 HAP
                      generalize bt s e = b at *
                      go_wp2_with (refine wpList_store_row rfl 36 (.tmp 4) _ rfl _ _ rfl rfl _ _ K0.out.1 pc_size (by rfl) (by simp [pcC, Value.oneCell']) ?_)
                      exact rf_no Tryz.results49 K0.out HF.out rfl rfl rfl rfl
                  · have HF : Hid (R = none) := Lib.hid (HQ2.out.trans (if_neg fun c => x2 c.2.1))
                    have z2 : ((e : Int) == (s.size : Int)) = true := beq_iff_eq.2 (by omega)
                    clear HQ2 HAP
                    go_wp2_with (refine wpList_store_row rfl 36 (.tmp 4) _ rfl _ _ rfl rfl _ _ K0.out.1 pc_size (by rfl) (by simp [pcC, Value.oneCell']) ?_)
                    exact rf_no Tryz.results49 K0.out HF.out rfl rfl rfl rfl
              · have hl : e < s.size ∧ e < i + 9 ∧ dgN (bt s e) = true := by have := HQq.out; simp [and_assoc] at this; exact this
                obtain ⟨hl1, hl2', hl3⟩ := hl
                have h57 : 48 ≤ bt s e ∧ bt s e ≤ 57 := by unfold dgN at hl3; simpa using hl3
                obtain ⟨h48, h57⟩ := h57
                have hg := get_bt s e hl1
                have HN2 : Hid (10 * n + (bt s e - 48) = numV (sub s (i + 2) (e + 1))) := Lib.hid (by
                  rw [numV_step s (i + 2) e (by omega) hl1, ← HN.out])
                have HD2 : Hid (∀ j, i + 2 ≤ j → j < e + 1 → dgN (bt s j) = true) := Lib.hid fun j h1 h2 => by
                  by_cases x : j = e
                  · rw [x]; exact hl3
                  · exact HD.out j h1 (by omega)
                have hnb2 : 10 * n + (bt s e - 48) < 10 ^ (e + 1 - i - 2) := by
                  rw [show e + 1 - i - 2 = (e - i - 2) + 1 by omega, Nat.pow_succ]; omega
                clear hl3 HD HN HQq HQ HDK HAP HDG hnb
                generalize bt s e = b at *
                go_wp2_with fail
                go_round
                case rel => exact ⟨10 * n + (b - 48), e + 1, by go_num, by go_num, by omega, by omega, by omega, HN2, hnb2, HD2⟩
                case measure => simp [intOf]; omega
        · have HF : Hid (R = some { inl := spn 1 ⟨#[34]⟩, bg := i, nd := i + 6 }) := Lib.hid (HR3.out.trans (if_pos rfl))
          clear HR3 HDK HAP HDG HL HP0 HP1 HP2 HP3 HP4
          have HTx := Lib.hid fun W => r9_text ⟨#[34]⟩ i (i + 6) i ((i : Int) + 6) rfl (by omega) W
          have HS9 : Hid (∀ W, EnW w W → (W.cell? ⟨w.heap.size + 1, 3, none⟩ = some (.string ⟨#[38, 113, 117, 111, 116, 59]⟩) ∧ W.cell? ⟨w.heap.size + 2, 3, none⟩ = some (.string ⟨#[34]⟩))) := Lib.hid fun W h => ⟨h.names.cell 3, h.vals.cell 3⟩
          have hwr : IntKind.i64.wrap ((i : Int) + 6) = (i : Int) + 6 := IntWalk.i64_in _ (by omega)
          go_upto_region 6 with fail
          refine wp_region_held_drew (S := fun W' => W'.cell? ⟨w.heap.size + 1, 3, none⟩ = some (.string ⟨#[38, 113, 117, 111, 116, 59]⟩) ∧ W'.cell? ⟨w.heap.size + 2, 3, none⟩ = some (.string ⟨#[34]⟩)) (by kernel_rfl) (HS9.out _ (HE0.out.next (Below.refl _ _).drew)) (fun hHeld => ?_)
          refine tk 0 (.slice (some ⟨w.heap.size + 2, 0, none⟩) 4 4) rfl hHeld (fun W' hSw => ?_) ?_
          · go_simp
          refine tk 1 (.int .i64 3) rfl hHeld (fun W' hSw => ?_) ?_
          · go_simp
          refine tk 2 (.pointer (some ⟨w.heap.size + 2, 3, none⟩)) rfl hHeld (fun W' hSw => ?_) ?_
          · go_simp
          refine tk 3 (.string ⟨#[34]⟩) rfl hHeld (fun W' hSw => ?_) ?_
          · obtain ⟨hn1, hv1⟩ := hSw
            go_simp
          refine tk 4 (.int .i64 i) rfl hHeld (fun W' hSw => ?_) ?_
          · go_simp
          refine tk 5 (.int .i64 i) rfl hHeld (fun W' hSw => ?_) ?_
          · go_simp
          refine tk 6 (.slice (some ⟨w.heap.size + 1, 0, none⟩) 4 4) rfl hHeld (fun W' hSw => ?_) ?_
          · go_simp
          refine tk 7 (.int .i64 3) rfl hHeld (fun W' hSw => ?_) ?_
          · go_simp
          refine tk 8 (.pointer (some ⟨w.heap.size + 1, 3, none⟩)) rfl hHeld (fun W' hSw => ?_) ?_
          · go_simp
          refine tk 9 (.string ⟨#[38, 113, 117, 111, 116, 59]⟩) rfl hHeld (fun W' hSw => ?_) ?_
          · obtain ⟨hn1, hv1⟩ := hSw
            go_simp
          refine tk 10 (.int .i64 6) rfl hHeld (fun W' hSw => ?_) ?_
          · go_simp
          refine tk 11 (.int .i64 ((i : Int) + 6)) rfl hHeld (fun W' hSw => ?_) ?_
          · go_simp
          refine rd1 12 rfl (fun K hK => ?_)
          go_simp
          ((with_reducible refine (HTx.out _).mono ?_))
          rintro e w90 ⟨rfl, b9⟩
          have HE9 := Lib.hid ((HE0.out.next (Below.refl _ _).drew).next b9)
          clear b9
          go_simp
          refine hK.out _ _ (HS9.out _ HE9.out) (fun hHeld => ?_)
          clear hK K
          refine rd1 13 rfl (fun K hK => ?_)
          refine step_store_row rfl 36 (.tmp 4) (.tmp 37) rfl w.heap.size _ rfl rfl _ _ HE9.out.kp.1 pc_size (by rfl) (by simp [pcC, Value.oneCell']) ?_
          refine hK.out _ _ (HS9.out _ HE9.out |>.imp (fun h => (row_cell _ _ _ _ (by show w.heap.size + 1 ≠ w.heap.size; omega)).trans h) (fun h => (row_cell _ _ _ _ (by show w.heap.size + 2 ≠ w.heap.size; omega)).trans h)) (fun hHeld => ?_)
          clear hK K
          refine rd1 14 rfl (fun K hK => ?_)
          go_simp
          refine hK.out _ _ hHeld (fun _ => ?_)
          clear hK K
          refine wpAnyH_done (by kernel_rfl) ?_ _
          go_wp2_with fail
          exact rf_yes Tryz.results49 HE9.out.kp HF.out rfl rfl rfl rfl rfl rfl
      · have HF : Hid (R = some { inl := spn 1 ⟨#[62]⟩, bg := i, nd := i + 4 }) := Lib.hid (HR2.out.trans (if_pos rfl))
        clear HR2 HDK HAP HDG HL HP0 HP1 HP2 HP3 HP4
        have HTx := Lib.hid fun W => r9_text ⟨#[62]⟩ i (i + 4) i ((i : Int) + 4) rfl (by omega) W
        have HS9 : Hid (∀ W, EnW w W → (W.cell? ⟨w.heap.size + 1, 2, none⟩ = some (.string ⟨#[38, 103, 116, 59]⟩) ∧ W.cell? ⟨w.heap.size + 2, 2, none⟩ = some (.string ⟨#[62]⟩))) := Lib.hid fun W h => ⟨h.names.cell 2, h.vals.cell 2⟩
        have hwr : IntKind.i64.wrap ((i : Int) + 4) = (i : Int) + 4 := IntWalk.i64_in _ (by omega)
        go_upto_region 6 with fail
        refine wp_region_held_drew (S := fun W' => W'.cell? ⟨w.heap.size + 1, 2, none⟩ = some (.string ⟨#[38, 103, 116, 59]⟩) ∧ W'.cell? ⟨w.heap.size + 2, 2, none⟩ = some (.string ⟨#[62]⟩)) (by kernel_rfl) (HS9.out _ (HE0.out.next (Below.refl _ _).drew)) (fun hHeld => ?_)
        refine tk 0 (.slice (some ⟨w.heap.size + 2, 0, none⟩) 4 4) rfl hHeld (fun W' hSw => ?_) ?_
        · go_simp
        refine tk 1 (.int .i64 2) rfl hHeld (fun W' hSw => ?_) ?_
        · go_simp
        refine tk 2 (.pointer (some ⟨w.heap.size + 2, 2, none⟩)) rfl hHeld (fun W' hSw => ?_) ?_
        · go_simp
        refine tk 3 (.string ⟨#[62]⟩) rfl hHeld (fun W' hSw => ?_) ?_
        · obtain ⟨hn1, hv1⟩ := hSw
          go_simp
        refine tk 4 (.int .i64 i) rfl hHeld (fun W' hSw => ?_) ?_
        · go_simp
        refine tk 5 (.int .i64 i) rfl hHeld (fun W' hSw => ?_) ?_
        · go_simp
        refine tk 6 (.slice (some ⟨w.heap.size + 1, 0, none⟩) 4 4) rfl hHeld (fun W' hSw => ?_) ?_
        · go_simp
        refine tk 7 (.int .i64 2) rfl hHeld (fun W' hSw => ?_) ?_
        · go_simp
        refine tk 8 (.pointer (some ⟨w.heap.size + 1, 2, none⟩)) rfl hHeld (fun W' hSw => ?_) ?_
        · go_simp
        refine tk 9 (.string ⟨#[38, 103, 116, 59]⟩) rfl hHeld (fun W' hSw => ?_) ?_
        · obtain ⟨hn1, hv1⟩ := hSw
          go_simp
        refine tk 10 (.int .i64 4) rfl hHeld (fun W' hSw => ?_) ?_
        · go_simp
        refine tk 11 (.int .i64 ((i : Int) + 4)) rfl hHeld (fun W' hSw => ?_) ?_
        · go_simp
        refine rd1 12 rfl (fun K hK => ?_)
        go_simp
        ((with_reducible refine (HTx.out _).mono ?_))
        rintro e w90 ⟨rfl, b9⟩
        have HE9 := Lib.hid ((HE0.out.next (Below.refl _ _).drew).next b9)
        clear b9
        go_simp
        refine hK.out _ _ (HS9.out _ HE9.out) (fun hHeld => ?_)
        clear hK K
        refine rd1 13 rfl (fun K hK => ?_)
        refine step_store_row rfl 36 (.tmp 4) (.tmp 37) rfl w.heap.size _ rfl rfl _ _ HE9.out.kp.1 pc_size (by rfl) (by simp [pcC, Value.oneCell']) ?_
        refine hK.out _ _ (HS9.out _ HE9.out |>.imp (fun h => (row_cell _ _ _ _ (by show w.heap.size + 1 ≠ w.heap.size; omega)).trans h) (fun h => (row_cell _ _ _ _ (by show w.heap.size + 2 ≠ w.heap.size; omega)).trans h)) (fun hHeld => ?_)
        clear hK K
        refine rd1 14 rfl (fun K hK => ?_)
        go_simp
        refine hK.out _ _ hHeld (fun _ => ?_)
        clear hK K
        refine wpAnyH_done (by kernel_rfl) ?_ _
        go_wp2_with fail
        exact rf_yes Tryz.results49 HE9.out.kp HF.out rfl rfl rfl rfl rfl rfl
    · have HF : Hid (R = some { inl := spn 1 ⟨#[60]⟩, bg := i, nd := i + 4 }) := Lib.hid (HR1.out.trans (if_pos rfl))
      clear HR1 HDK HAP HDG HL HP0 HP1 HP2 HP3 HP4
      have HTx := Lib.hid fun W => r9_text ⟨#[60]⟩ i (i + 4) i ((i : Int) + 4) rfl (by omega) W
      have HS9 : Hid (∀ W, EnW w W → (W.cell? ⟨w.heap.size + 1, 1, none⟩ = some (.string ⟨#[38, 108, 116, 59]⟩) ∧ W.cell? ⟨w.heap.size + 2, 1, none⟩ = some (.string ⟨#[60]⟩))) := Lib.hid fun W h => ⟨h.names.cell 1, h.vals.cell 1⟩
      have hwr : IntKind.i64.wrap ((i : Int) + 4) = (i : Int) + 4 := IntWalk.i64_in _ (by omega)
      go_upto_region 6 with fail
      refine wp_region_held_drew (S := fun W' => W'.cell? ⟨w.heap.size + 1, 1, none⟩ = some (.string ⟨#[38, 108, 116, 59]⟩) ∧ W'.cell? ⟨w.heap.size + 2, 1, none⟩ = some (.string ⟨#[60]⟩)) (by kernel_rfl) (HS9.out _ (HE0.out.next (Below.refl _ _).drew)) (fun hHeld => ?_)
      refine tk 0 (.slice (some ⟨w.heap.size + 2, 0, none⟩) 4 4) rfl hHeld (fun W' hSw => ?_) ?_
      · go_simp
      refine tk 1 (.int .i64 1) rfl hHeld (fun W' hSw => ?_) ?_
      · go_simp
      refine tk 2 (.pointer (some ⟨w.heap.size + 2, 1, none⟩)) rfl hHeld (fun W' hSw => ?_) ?_
      · go_simp
      refine tk 3 (.string ⟨#[60]⟩) rfl hHeld (fun W' hSw => ?_) ?_
      · obtain ⟨hn1, hv1⟩ := hSw
        go_simp
      refine tk 4 (.int .i64 i) rfl hHeld (fun W' hSw => ?_) ?_
      · go_simp
      refine tk 5 (.int .i64 i) rfl hHeld (fun W' hSw => ?_) ?_
      · go_simp
      refine tk 6 (.slice (some ⟨w.heap.size + 1, 0, none⟩) 4 4) rfl hHeld (fun W' hSw => ?_) ?_
      · go_simp
      refine tk 7 (.int .i64 1) rfl hHeld (fun W' hSw => ?_) ?_
      · go_simp
      refine tk 8 (.pointer (some ⟨w.heap.size + 1, 1, none⟩)) rfl hHeld (fun W' hSw => ?_) ?_
      · go_simp
      refine tk 9 (.string ⟨#[38, 108, 116, 59]⟩) rfl hHeld (fun W' hSw => ?_) ?_
      · obtain ⟨hn1, hv1⟩ := hSw
        go_simp
      refine tk 10 (.int .i64 4) rfl hHeld (fun W' hSw => ?_) ?_
      · go_simp
      refine tk 11 (.int .i64 ((i : Int) + 4)) rfl hHeld (fun W' hSw => ?_) ?_
      · go_simp
      refine rd1 12 rfl (fun K hK => ?_)
      go_simp
      ((with_reducible refine (HTx.out _).mono ?_))
      rintro e w90 ⟨rfl, b9⟩
      have HE9 := Lib.hid ((HE0.out.next (Below.refl _ _).drew).next b9)
      clear b9
      go_simp
      refine hK.out _ _ (HS9.out _ HE9.out) (fun hHeld => ?_)
      clear hK K
      refine rd1 13 rfl (fun K hK => ?_)
      refine step_store_row rfl 36 (.tmp 4) (.tmp 37) rfl w.heap.size _ rfl rfl _ _ HE9.out.kp.1 pc_size (by rfl) (by simp [pcC, Value.oneCell']) ?_
      refine hK.out _ _ (HS9.out _ HE9.out |>.imp (fun h => (row_cell _ _ _ _ (by show w.heap.size + 1 ≠ w.heap.size; omega)).trans h) (fun h => (row_cell _ _ _ _ (by show w.heap.size + 2 ≠ w.heap.size; omega)).trans h)) (fun hHeld => ?_)
      clear hK K
      refine rd1 14 rfl (fun K hK => ?_)
      go_simp
      refine hK.out _ _ hHeld (fun _ => ?_)
      clear hK K
      refine wpAnyH_done (by kernel_rfl) ?_ _
      go_wp2_with fail
      exact rf_yes Tryz.results49 HE9.out.kp HF.out rfl rfl rfl rfl rfl rfl
  · have HF : Hid (R = some { inl := spn 1 ⟨#[38]⟩, bg := i, nd := i + 5 }) := Lib.hid (HR.out.trans (if_pos rfl))
    clear HR HDK HAP HDG HL HP0 HP1 HP2 HP3 HP4
    have HTx := Lib.hid fun W => r9_text ⟨#[38]⟩ i (i + 5) i ((i : Int) + 5) rfl (by omega) W
    have HS9 : Hid (∀ W, EnW w W → (W.cell? ⟨w.heap.size + 1, 0, none⟩ = some (.string ⟨#[38, 97, 109, 112, 59]⟩) ∧ W.cell? ⟨w.heap.size + 2, 0, none⟩ = some (.string ⟨#[38]⟩))) := Lib.hid fun W h => ⟨h.names.cell 0, h.vals.cell 0⟩
    have hwr : IntKind.i64.wrap ((i : Int) + 5) = (i : Int) + 5 := IntWalk.i64_in _ (by omega)
    go_upto_region 6 with fail
    refine wp_region_held_drew (S := fun W' => W'.cell? ⟨w.heap.size + 1, 0, none⟩ = some (.string ⟨#[38, 97, 109, 112, 59]⟩) ∧ W'.cell? ⟨w.heap.size + 2, 0, none⟩ = some (.string ⟨#[38]⟩)) (by kernel_rfl) (HS9.out _ (HE0.out.next (Below.refl _ _).drew)) (fun hHeld => ?_)
    refine tk 0 (.slice (some ⟨w.heap.size + 2, 0, none⟩) 4 4) rfl hHeld (fun W' hSw => ?_) ?_
    · go_simp
    refine tk 1 (.int .i64 0) rfl hHeld (fun W' hSw => ?_) ?_
    · go_simp
    refine tk 2 (.pointer (some ⟨w.heap.size + 2, 0, none⟩)) rfl hHeld (fun W' hSw => ?_) ?_
    · go_simp
    refine tk 3 (.string ⟨#[38]⟩) rfl hHeld (fun W' hSw => ?_) ?_
    · obtain ⟨hn1, hv1⟩ := hSw
      go_simp
    refine tk 4 (.int .i64 i) rfl hHeld (fun W' hSw => ?_) ?_
    · go_simp
    refine tk 5 (.int .i64 i) rfl hHeld (fun W' hSw => ?_) ?_
    · go_simp
    refine tk 6 (.slice (some ⟨w.heap.size + 1, 0, none⟩) 4 4) rfl hHeld (fun W' hSw => ?_) ?_
    · go_simp
    refine tk 7 (.int .i64 0) rfl hHeld (fun W' hSw => ?_) ?_
    · go_simp
    refine tk 8 (.pointer (some ⟨w.heap.size + 1, 0, none⟩)) rfl hHeld (fun W' hSw => ?_) ?_
    · go_simp
    refine tk 9 (.string ⟨#[38, 97, 109, 112, 59]⟩) rfl hHeld (fun W' hSw => ?_) ?_
    · obtain ⟨hn1, hv1⟩ := hSw
      go_simp
    refine tk 10 (.int .i64 5) rfl hHeld (fun W' hSw => ?_) ?_
    · go_simp
    refine tk 11 (.int .i64 ((i : Int) + 5)) rfl hHeld (fun W' hSw => ?_) ?_
    · go_simp
    refine rd1 12 rfl (fun K hK => ?_)
    go_simp
    ((with_reducible refine (HTx.out _).mono ?_))
    rintro e w90 ⟨rfl, b9⟩
    have HE9 := Lib.hid ((HE0.out.next (Below.refl _ _).drew).next b9)
    clear b9
    go_simp
    refine hK.out _ _ (HS9.out _ HE9.out) (fun hHeld => ?_)
    clear hK K
    refine rd1 13 rfl (fun K hK => ?_)
    refine step_store_row rfl 36 (.tmp 4) (.tmp 37) rfl w.heap.size _ rfl rfl _ _ HE9.out.kp.1 pc_size (by rfl) (by simp [pcC, Value.oneCell']) ?_
    refine hK.out _ _ (HS9.out _ HE9.out |>.imp (fun h => (row_cell _ _ _ _ (by show w.heap.size + 1 ≠ w.heap.size; omega)).trans h) (fun h => (row_cell _ _ _ _ (by show w.heap.size + 2 ≠ w.heap.size; omega)).trans h)) (fun hHeld => ?_)
    clear hK K
    refine rd1 14 rfl (fun K hK => ?_)
    go_simp
    refine hK.out _ _ hHeld (fun _ => ?_)
    clear hK K
    refine wpAnyH_done (by kernel_rfl) ?_ _
    go_wp2_with fail
    exact rf_yes Tryz.results49 HE9.out.kp HF.out rfl rfl rfl rfl rfl rfl

end Go.Proofs.YtcjkgmfidkgamaaGreatDoor
