/-
  The reference's Cells.
-/
import Derived.Test.YtoageahnddepcaaDoorTabE
set_option linter.unusedVariables false
set_option linter.unusedSimpArgs false
namespace Go.Pub
open Go.RowKit
theorem preB_ways (c : ByteArray) : (Lib.hasPrefix (bytesL c) [124] = true ∧ ∃ h : 0 < c.size, (((c[0].toNat : Nat) : Int) == 124) = true) ∨ (Lib.hasPrefix (bytesL c) [124] = false ∧ c.size = 0) ∨ (Lib.hasPrefix (bytesL c) [124] = false ∧ ∃ h : 0 < c.size, (((c[0].toNat : Nat) : Int) == 124) = false) := by
  by_cases h0 : c.size = 0
  · right; left
    refine ⟨?_, h0⟩
    rw [(size_nil c).1 h0]; rfl
  · have h : 0 < c.size := by omega
    have e : bytesL c = c.get! 0 :: sfx c 1 := by have := sfx_cons c 0 h; unfold sfx at this ⊢; simpa using this
    by_cases h1 : bt c 0 = 124
    · left
      refine ⟨?_, h, by rw [get_bt c 0 h, h1]; rfl⟩
      rw [e, (bt_u8 c 0 124 (by decide)).2 h1]; rfl
    · right; right
      refine ⟨?_, h, by rw [get_bt c 0 h, beq_eq_false_iff_ne]; omega⟩
      rw [e]
      show ((124 : UInt8) == c.get! 0 && true) = false
      rw [Bool.and_true, beq_eq_false_iff_ne]
      exact fun e => h1 ((bt_u8 c 0 124 (by decide)).1 e.symm)
theorem preB_cut (c : ByteArray) (h : Lib.hasPrefix (bytesL c) [124] = true) : c.extract 1 c.size = mk (Lib.trimPrefix (bytesL c) [124]) := by
  unfold Lib.trimPrefix
  rw [if_pos h, extract_drop]; rfl
theorem preB_not (c : ByteArray) (h : Lib.hasPrefix (bytesL c) [124] = false) : c = mk (Lib.trimPrefix (bytesL c) [124]) := by
  unfold Lib.trimPrefix
  rw [if_neg (by rw [h]; simp), mk_bytesL]
def cellS (p : List UInt8) : Value := .string (mk (cellL p))
end Go.Pub
namespace Go.Proofs.YtoageahnddepcaaDoor
open Go.RowKit Go.Pub

theorem r_plain_sub (s : ByteArray) (i k : Nat) (w : World) (hs : s.size ≤ 1000000) : Calls Tryd.prog 31 #[.string (s.extract i k)] w fun e w' => e = .returned (.string (mk (cellL (sub s i k)))) ∧ w = w' := by
  have h := r_plain (s.extract i k) w (by have : (s.extract i k).size ≤ s.size := by rw [ByteArray.size_extract]; omega
                                          omega)
  rw [bytesL_sub] at h
  exact h

def RCel (C : ByteArray) (all : List (List UInt8)) (w : World) (v4 v5 v6 : Value) (wr : World) : Prop :=
  ∃ (a i : Nat) (done : List (List UInt8)), v5 = .int .i64 a ∧ v6 = .int .i64 i ∧ a ≤ i ∧ i ≤ C.size ∧ wr.ownsRow w.heap.size 9 1 v4 done.length (done.map cellS) ∧ Below w.heap.size w wr ∧ Hid (done ++ restP C a i = all)

set_option maxRecDepth 100000 in
set_option maxHeartbeats 4000000 in
theorem r_cells (s : ByteArray) (w : World) (hs : s.size ≤ 1000000) :
    Calls Tryd.prog 15 #[.string s] w fun e W' => ∃ v, e = .returned v ∧ W'.ownsRow w.heap.size 9 1 v (partsL (bytesL s)).length ((partsL (bytesL s)).map cellS) ∧ Below w.heap.size w W' := by
  have HT := Lib.hid fun W => r_trim s W hs
  have HW := Lib.hid (preB_ways (mk (trimS (bytesL s))))
  have HC := Lib.hid (preB_cut (mk (trimS (bytesL s))))
  have HN := Lib.hid (preB_not (mk (trimS (bytesL s))))
  have HK : Hid (mk (Lib.trimPrefix (bytesL (mk (trimS (bytesL s)))) [124]) = core1 (bytesL s)) := Lib.hid (by rw [bytesL_mk']; rfl)
  have hz1 := core1_size (bytesL s)
  have hz2 := coreB_size (bytesL s)
  rw [bytesL_length] at hz1 hz2
  rw [HK.out] at HC HN
  have HX : Hid (coreB (bytesL s) = if 0 < (core1 (bytesL s)).size ∧ sepB (core1 (bytesL s)) ((core1 (bytesL s)).size - 1) = true then (core1 (bytesL s)).extract 0 ((core1 (bytesL s)).size - 1) else core1 (bytesL s)) := Lib.hid rfl
  have HP : Hid (partsL (bytesL s) = restP (coreB (bytesL s)) 0 0) := Lib.hid (by rw [restP_zero]; rfl)
  have hN : (restP (coreB (bytesL s)) 0 0).length ≤ 1000001 := by rw [← HP.out]; have := splitGo_len (bytesL (coreB (bytesL s))) false; rw [bytesL_length] at this; unfold partsL; omega
  rw [HP.out]
  clear HP HK
  generalize hall : restP (coreB (bytesL s)) 0 0 = all at *
  have HALL := Lib.hid hall
  clear hall
  generalize coreB (bytesL s) = C at *
  generalize core1 (bytesL s) = D at *
  generalize hp : Lib.hasPrefix (bytesL (mk (trimS (bytesL s)))) [124] = p at *
  clear hp
  generalize mk (trimS (bytesL s)) = T at *
  obtain ⟨i0, hi, hi0, hi1, hi2⟩ := info_parts strInfo
  go_enter Tryd.func15, Tryd.ntmps15
  go_wp2_with fail
  ((with_reducible refine (HT.out _).mono ?_))
  rintro e w0 ⟨rfl, rfl⟩
  go_upto_region 2 with fail
  go_cut [15] (fun s15 wx => s15 = .bool p ∧ w = wx)
  case first =>
    rcases HW.out with ⟨rfl, h0, z⟩ | ⟨rfl, h0⟩ | ⟨rfl, h0, z⟩
    · obtain ⟨x1, x2⟩ := cons_list T (fun e => by have := (size_nil T).2 e; omega)
      go_wp2_with fail
      go_meet
      exact ⟨rfl, rfl⟩
    · obtain ⟨x1, x2⟩ := nil_list T ((size_nil T).1 h0)
      go_wp2_with fail
      go_meet
      exact ⟨rfl, rfl⟩
    · obtain ⟨x1, x2⟩ := cons_list T (fun e => by have := (size_nil T).2 e; omega)
      go_wp2_with fail
      go_meet
      exact ⟨rfl, rfl⟩
  case rest =>
  obtain ⟨rfl, rfl⟩ := hcut
  go_upto_if 15 with fail
  go_cut [3] (fun s3 wx => s3 = .string D ∧ w = wx)
  case first =>
    cases p
    · have e := HN.out (by first | trivial | rfl)
      go_wp2_with fail
      go_meet
      exact ⟨by rw [← e], rfl⟩
    · obtain ⟨h0, _⟩ : ∃ h : 0 < T.size, (((T[0].toNat : Nat) : Int) == 124) = true := by
        rcases HW.out with ⟨_, h0, z⟩ | ⟨h, _⟩ | ⟨h, _⟩
        · exact ⟨h0, z⟩
        · cases h
        · cases h
      have h1 : (1 : Int) ≤ (T.size : Int) := by omega
      have e := HC.out (by first | trivial | rfl)
      go_wp2_with fail
      go_meet
      exact ⟨by rw [← e], rfl⟩
  case rest =>
  obtain ⟨rfl, rfl⟩ := hcut
  clear HW HC HN
  have HS := Lib.hid fun (h : 0 < D.size) W => r_bar D (D.size - 1) W (by omega) (by omega)
  have HXs : Hid (0 < D.size → sepB D (D.size - 1) = true → C = D.extract 0 (D.size - 1)) := Lib.hid fun h1 h2 => by rw [HX.out, if_pos ⟨h1, h2⟩]
  have HXn : Hid (¬ (0 < D.size ∧ sepB D (D.size - 1) = true) → C = D) := Lib.hid fun h1 => by rw [HX.out, if_neg h1]
  clear HX
  generalize hq : sepB D (D.size - 1) = q at *
  clear hq
  go_upto_region 4 with fail
  go_cut [26] (fun s26 wx => (∃ b : Bool, s26 = .bool b ∧ (b = true ↔ (0 < D.size ∧ q = true))) ∧ w = wx)
  case first =>
    by_cases h0 : 0 < D.size
    · obtain ⟨x1, x2⟩ := cons_list D (fun e => by have := (size_nil D).2 e; omega)
      have hcast : ((D.size : Int) - 1) = ((D.size - 1 : Nat) : Int) := by omega
      have hnat : ((D.size : Int) - 1).toNat = D.size - 1 := by omega
      have HS1 := Lib.hid (HS.out h0)
      go_wp2_with fail
      ((with_reducible refine (HS1.out _).mono ?_))
      rintro e w0 ⟨rfl, rfl⟩
      go_wp2_with fail
      go_meet
      exact ⟨⟨q, rfl, by simp [h0]⟩, rfl⟩
    · obtain ⟨x1, x2⟩ := nil_list D ((size_nil D).1 (by omega))
      go_wp2_with fail
      go_meet
      exact ⟨⟨false, rfl, by simp [h0]⟩, rfl⟩
  case rest =>
  obtain ⟨⟨b, rfl, hbq⟩, rfl⟩ := hcut
  go_upto_if 26 with fail
  go_cut [3] (fun s3 wx => s3 = .string C ∧ w = wx)
  case first =>
    cases b
    · have e := HXn.out (fun e => by have := hbq.2 e; cases this)
      clear hbq
      go_wp2_with fail
      go_meet
      exact ⟨by rw [e], rfl⟩
    · obtain ⟨h0, h1⟩ := hbq.1 rfl
      have e := HXs.out h0 h1
      clear hbq
      have hcast : ((D.size : Int) - 1) = ((D.size - 1 : Nat) : Int) := by omega
      have hnat : ((D.size : Int) - 1).toNat = D.size - 1 := by omega
      go_wp2_with fail
      go_meet
      exact ⟨by rw [e], rfl⟩
  case rest =>
  obtain ⟨rfl, rfl⟩ := hcut
  clear HS HXs HXn hbq
  go_wp2_with fail
  go_loopw [4, 5, 6] (fun v4 v5 v6 wr => RCel C all w v4 v5 v6 wr) (fun _ _ v _ => C.size - (intOf v).toNat)
  case atStart => exact ⟨0, 0, [], rfl, rfl, by omega, by omega, World.ownsRow_nil _ _ _ _, Below.refl _ _, HALL⟩
  case round =>
    obtain ⟨a, i, done, rfl, rfl, hai, hic, hown, hbw, Hall⟩ := hrel
    have hz := hbw.size
    by_cases hlt : i < C.size
    · have HS := Lib.hid fun W => r_bar C i W (by omega) hlt
      cases hsb : sepB C i
      · rw [hsb] at HS
        have HN : Hid (done ++ restP C a (i + 1) = all) := Lib.hid (by rw [← restP_no C a i hai hlt hsb]; exact Hall.out)
        clear hsb
        go_wp2_with fail
        ((with_reducible refine (HS.out _).mono ?_))
        rintro e w0 ⟨rfl, rfl⟩
        go_wp2_with fail
        go_roundw
        case rel => exact ⟨a, i + 1, done, rfl, by go_num, by omega, by omega, hown, hbw, HN⟩
        case measure => simp [intOf]; omega
      · rw [hsb] at HS
        have HN : Hid (done ++ [sub C a i] ++ restP C (i + 1) (i + 1) = all) := Lib.hid (by rw [← Hall.out, restP_sep C a i hlt hsb]; simp)
        have hdl : done.length + 1 ≤ 1000001 := by
          have := congrArg List.length HN.out
          rw [List.length_append, List.length_append] at this
          simp at this; omega
        have HP := Lib.hid fun W => r_plain_sub C a i W (by omega)
        have HV : Hid (cellS (sub C a i) = .string (mk (cellL (sub C a i)))) := Lib.hid rfl
        generalize mk (cellL (sub C a i)) = Y at *
        clear hsb
        have j1 : (a : Int) ≤ (i : Int) := by omega
        have j2 : (i : Int) ≤ (C.size : Int) := by omega
        go_wp2_with fail
        ((with_reducible refine (HS.out _).mono ?_))
        rintro e w0 ⟨rfl, rfl⟩
        go_wp2_with fail
        ((with_reducible refine (HP.out _).mono ?_))
        rintro e w0 ⟨rfl, rfl⟩
        go_wp2_with (at_builtin; refine wpList_append_own _ rfl _ _ 23 rfl w.heap.size 9 i0 _ 1 16 Tryd.underlying23 hi hi0 hi1 hi2 rfl (by decide) _ _ _ rfl (hown.alloc _) ⟨wr.heap.size, 0, none⟩ 1 1 [.string Y] rfl rfl ?c1 ?c2 ?c3 ?c4 ?c5 ?_)
        case c1 =>
          intro j u hj
          match j, hj with
          | 0, hj => simp at hj; subst hj; simp [Addr.add]
        case c2 => intro u hu; simp at hu; subst hu; rfl
        case c3 => unfold maxLen; omega
        case c4 => omega
        case c5 => simp; omega
        intro v' w2 hown3 hgrow _
        have hnx : Below w.heap.size w w2 := (hbw.alloc hz _).grown hgrow (by simp; omega) (fun k hk => (hown.lt k hk).1)
        go_wp2_with fail
        go_roundw
        case rel =>
          refine ⟨i + 1, i + 1, done ++ [sub C a i], by go_num, by go_num, by omega, by omega, ?_, hnx, HN⟩
          rw [List.map_append, List.length_append]
          show w2.ownsRow _ _ _ _ (done.length + 1) (done.map cellS ++ [cellS (sub C a i)])
          rw [HV.out]
          exact hown3
        case measure => simp [intOf]; omega
    · obtain rfl : i = C.size := by omega
      have HN : Hid (done ++ [sub C a C.size] = all) := Lib.hid (by rw [← Hall.out, restP_end C a C.size (Nat.le_refl _)])
      have hdl : done.length + 1 ≤ 1000001 := by
        have := congrArg List.length HN.out
        rw [List.length_append] at this
        simp at this; omega
      have HP := Lib.hid fun W => r_plain_sub C a C.size W (by omega)
      have HV : Hid (cellS (sub C a C.size) = .string (mk (cellL (sub C a C.size)))) := Lib.hid rfl
      generalize mk (cellL (sub C a C.size)) = Y at *
      have j1 : (a : Int) ≤ (C.size : Int) := by omega
      go_wp2_with fail
      ((with_reducible refine (HP.out _).mono ?_))
      rintro e w0 ⟨rfl, rfl⟩
      go_wp2_with (at_builtin; refine wpList_append_own _ rfl _ _ 23 rfl w.heap.size 9 i0 _ 1 16 Tryd.underlying23 hi hi0 hi1 hi2 rfl (by decide) _ _ _ rfl (hown.alloc _) ⟨wr.heap.size, 0, none⟩ 1 1 [.string Y] rfl rfl ?c1 ?c2 ?c3 ?c4 ?c5 ?_)
      case c1 =>
        intro j u hj
        match j, hj with
        | 0, hj => simp at hj; subst hj; simp [Addr.add]
      case c2 => intro u hu; simp at hu; subst hu; rfl
      case c3 => unfold maxLen; omega
      case c4 => omega
      case c5 => simp; omega
      intro v' w2 hown3 hgrow _
      have hnx : Below w.heap.size w w2 := (hbw.alloc hz _).grown hgrow (by simp; omega) (fun k hk => (hown.lt k hk).1)
      go_wp2_with fail
      go_ret
      refine ⟨v', rfl, ?_, hnx⟩
      rw [← HN.out, List.map_append, List.length_append]
      show w2.ownsRow _ _ _ _ (done.length + 1) (done.map cellS ++ [cellS (sub C a C.size)])
      rw [HV.out]
      exact hown3
end Go.Proofs.YtoageahnddepcaaDoor
