/-
  The reference's quoted and Text.
-/
import Derived.Test.YtkcfcdnchlmekaaAttrO
set_option linter.unusedVariables false
set_option linter.unusedSimpArgs false
namespace Go.Pub
open Go.RowKit
theorem mk_app (a b : List UInt8) : mk a ++ mk b = mk (a ++ b) := by
  have h : bytesL (mk a ++ mk b) = bytesL (mk a) ++ bytesL (mk b) := by
    unfold bytesL; rw [ByteArray.data_append, Array.toList_append]
  rw [← mk_bytesL (mk a ++ mk b), h, bytesL_mk', bytesL_mk']
theorem mk_app_s (a : List UInt8) (s : ByteArray) : mk a ++ s = mk (a ++ bytesL s) := by
  conv => lhs; rw [← mk_bytesL s]
  exact mk_app _ _
theorem bytesL_app (a b : ByteArray) : bytesL (a ++ b) = bytesL a ++ bytesL b := by
  unfold bytesL; rw [ByteArray.data_append, Array.toList_append]
theorem mk_size (l : List UInt8) : (mk l).size = l.length := by rw [← bytesL_length, bytesL_mk']
theorem cat_mk {P : Program} (w : World) (a : List UInt8) (s : ByteArray) (r : List UInt8) (h : a.length + s.size ≤ 9223372036854775807) (hr : a ++ bytesL s = r) : (Op.stringOp .add (mk a) s).run P w = .ok (.string (mk r)) w := by
  rw [run_string_add_sum w _ _ (by rw [mk_size]; exact h), mk_app_s, hr]
/-- Each text behind a space. -/
def spL (its : List ByteArray) : List UInt8 := its.flatMap fun y => 32 :: bytesL y
theorem spL_snoc (its : List ByteArray) (x : ByteArray) : spL (its ++ [x]) = spL its ++ 32 :: bytesL x := by unfold spL; rw [List.flatMap_append]; simp
theorem join_spL (its : List ByteArray) : joinL ⟨#[32]⟩ its = (spL its).drop 1 := by
  cases its with
  | nil => rfl
  | cons x r => rfl
theorem spL_len (its : List ByteArray) : (spL its).length = sizes its + its.length := by
  induction its with
  | nil => rfl
  | cons x r ih =>
    unfold spL sizes at ih ⊢
    rw [List.flatMap_cons, List.length_append, ih, List.map_cons, List.sum_cons, List.length_cons, List.length_cons, bytesL_length]
    omega
def quotedL (s : ByteArray) : List UInt8 := [34] ++ escL (bytesL s) ++ [34]
theorem extract_mk (l : List UInt8) (k : Nat) : (mk l).extract k (mk l).size = mk (l.drop k) := by
  rw [← mk_bytesL ((mk l).extract k (mk l).size)]
  congr 1
  unfold bytesL
  rw [ByteArray.data_extract, Array.toList_extract, List.extract_eq_take_drop]
  have e : (mk l).data.toList = l := bytesL_mk' l
  rw [e, List.take_of_length_le]
  rw [List.length_drop, mk_size]
  exact Nat.le_refl _
end Go.Pub
namespace Go.Proofs.Ytkcfcdnchlmekaa
open Go.RowKit Go.Pub

set_option maxRecDepth 100000 in
set_option maxHeartbeats 2000000 in
theorem quoted_any (s : ByteArray) (w : World) (hs : s.size ≤ 1000000) : Calls Try.prog 38 #[.string s] w fun e w' => e = .returned (.string (mk (quotedL s))) ∧ w = w' := by
  have HX : Hid (quotedL s = ([34] ++ escL ((bytesL s).take s.size)) ++ [34]) := Lib.hid (by unfold quotedL; rw [List.take_of_length_le (by rw [bytesL_length]; exact Nat.le_refl _)])
  generalize quotedL s = R at *
  go_enter Try.func38, Try.ntmps38
  go_wp2
  go_loop [3, 4] (fun o v => ∃ (k : Nat) (acc : List UInt8), v = .int .i64 k ∧ k ≤ s.size ∧ o = .string (mk acc) ∧ Hid (acc = [34] ++ escL ((bytesL s).take k)) ∧ acc.length ≤ 1 + 2 * k) (fun _ v => s.size - (intOf v).toNat)
  case atStart => exact ⟨0, [34], rfl, by omega, rfl, Lib.hid rfl, by simp⟩
  case round =>
    obtain ⟨k, acc, rfl, hk, rfl, Hacc, hal⟩ := hrel
    by_cases hlt : k < s.size
    · have hb := bt_lt s k
      have hlt2 : ((s[k].toNat : Nat) : Int) < 256 := by rw [get_bt s k hlt]; omega
      have hst := Lib.hid (escL_succ s k hlt)
      have hex : Hid (bytesL (s.extract k (k + 1)) = [s.get! k]) := Lib.hid (by
        have := mk_snoc s [] k hlt
        rw [mk_app_s, List.nil_append, List.nil_append] at this
        have h2 := congrArg bytesL this
        rw [bytesL_mk', bytesL_mk'] at h2
        exact h2)
      have hexs : (s.extract k (k + 1)).size = 1 := by rw [← bytesL_length, hex.out]; rfl
      by_cases c : bt s k = 34 ∨ bt s k = 92
      · have hy := Lib.hid (escB_yes s k c)
        have cc : (((s[k].toNat : Nat) : Int) == 34) = true ∨ ((((s[k].toNat : Nat) : Int) == 34) = false ∧ (((s[k].toNat : Nat) : Int) == 92) = true) := by
          rw [get_bt s k hlt]
          rcases c with c | c
          · left; rw [c]; rfl
          · right; rw [c]; exact ⟨rfl, rfl⟩
        have cat1 : ∀ w : World, (Op.stringOp .add (mk acc) ⟨#[92]⟩).run Try.prog w = .ok (.string (mk (acc ++ [92]))) w := fun w => cat_mk w acc _ _ (by show acc.length + 1 ≤ _; omega) rfl
        have cat2 : ∀ w : World, (Op.stringOp .add (mk (acc ++ [92])) (s.extract k (k + 1))).run Try.prog w = .ok (.string (mk (acc ++ [92, s.get! k]))) w := fun w => cat_mk w _ _ _ (by rw [hexs]; simp; omega) (by rw [hex.out, List.append_assoc]; rfl)
        clear c hexs
        rcases cc with z1 | ⟨z1, z2⟩
        all_goals
          go_wp2_with fail
          go_round
          case rel => exact ⟨k + 1, acc ++ [92, s.get! k], by go_num, by omega, rfl, Lib.hid (by rw [hst.out, hy.out, ← List.append_assoc, ← Hacc.out]), by simp; omega⟩
          case measure => simp [intOf]; omega
      · have hy := Lib.hid (escB_no s k c)
        have z1 : (((s[k].toNat : Nat) : Int) == 34) = false := by rw [get_bt s k hlt, beq_eq_false_iff_ne]; omega
        have z2 : (((s[k].toNat : Nat) : Int) == 92) = false := by rw [get_bt s k hlt, beq_eq_false_iff_ne]; omega
        have cat1 : ∀ w : World, (Op.stringOp .add (mk acc) (s.extract k (k + 1))).run Try.prog w = .ok (.string (mk (acc ++ [s.get! k]))) w := fun w => cat_mk w _ _ _ (by rw [hexs]; omega) (by rw [hex.out])
        clear c hexs
        go_wp2_with fail
        go_round
        case rel => exact ⟨k + 1, acc ++ [s.get! k], by go_num, by omega, rfl, Lib.hid (by rw [hst.out, hy.out, ← List.append_assoc, ← Hacc.out]), by simp; omega⟩
        case measure => simp [intOf]; omega
    · obtain rfl : k = s.size := by omega
      have cat1 : ∀ w : World, (Op.stringOp .add (mk acc) ⟨#[34]⟩).run Try.prog w = .ok (.string (mk (acc ++ [34]))) w := fun w => cat_mk w acc _ _ (by show acc.length + 1 ≤ _; omega) rfl
      go_wp2
      go_ret
      exact ⟨ret_str (by rw [HX.out, ← Hacc.out]), rfl⟩

set_option maxRecDepth 100000 in
set_option maxHeartbeats 1000000 in
theorem rtext_fail (w : World) (a : AttrL) (A : Option Addr) (c : Nat) (D : Option Addr) (d B : Nat) (h : ReadA w B a A c D d) (hca : a.cl.length ≤ c) (hda : a.pr.length ≤ d) (hE : checkE a ≠ 0) :
    Calls Try.prog 17 #[.agg #[.string a.id, .slice A a.cl.length c, .slice D a.pr.length d]] w (TextPost (⟨#[]⟩, checkE a) w) := by
  have HC : Hid (Calls Try.prog 15 #[.agg #[.string a.id, .slice A a.cl.length c, .slice D a.pr.length d]] (w.alloc (.cells #[.string a.id, .slice A a.cl.length c, .slice D a.pr.length d] 27)) fun e w' => e = .returned (.int .i64 (checkE a)) ∧ Below (w.alloc (.cells #[.string a.id, .slice A a.cl.length c, .slice D a.pr.length d] 27)).heap.size (w.alloc (.cells #[.string a.id, .slice A a.cl.length c, .slice D a.pr.length d] 27)) w') := Lib.hid (rcheck_any _ a A c D d B (h.below ((Below.refl _ _).alloc (Nat.le_refl _) _)) hca hda)
  clear h
  generalize checkE a = E at *
  have z : ((E : Int) != 0) = true := by simp; exact hE
  clear hE
  go_enter Try.func17, Try.ntmps17
  go_wp2_with fail
  ((with_reducible refine HC.out.mono ?_))
  rintro e w1 ⟨rfl, b1⟩
  go_wp2_with fail
  go_ret2
  exact ⟨rfl, ((Below.refl _ _).alloc (Nat.le_refl _) _).trans (b1.mono (by simp))⟩

def RTRel (w : World) (a : AttrL) (A : Option Addr) (c : Nat) (D : Option Addr) (d : Nat) (its : List ByteArray) (o : Value) (wr : World) : Prop :=
  o = .string (mk (spL its)) ∧ (∀ x ∈ its, x.size ≤ 4000000) ∧ its.length ≤ 65 ∧ BInv w a A c D d wr
theorem spL_small (its : List ByteArray) (h : ∀ x ∈ its, x.size ≤ 4000000) (hl : its.length ≤ 65) : (spL its).length ≤ 300000000 := by
  rw [spL_len]
  have := sizes_bd 4000000 its h
  have : its.length * 4000000 ≤ 65 * 4000000 := Nat.mul_le_mul_right _ hl
  omega
theorem bytes_clItem (x : ByteArray) : (32 : UInt8) :: bytesL (clItem x) = [32, 46] ++ bytesL x := by
  unfold clItem; rw [bytesL_app]; rfl
theorem bytes_idItem (x : ByteArray) : (32 : UInt8) :: bytesL (idItem x) = [32, 35] ++ bytesL x := by
  unfold idItem; rw [bytesL_app]; rfl
theorem bytes_prItem (p : ByteArray × ByteArray) : (32 : UInt8) :: bytesL (prItem p) = [32] ++ bytesL p.1 ++ [61] ++ quotedL p.2 := by
  unfold prItem quotedL
  rw [bytesL_app, bytesL_app, bytesL_app, bytesL_mk']
  have e1 : bytesL ⟨#[61, 34]⟩ = [61, 34] := rfl
  have e2 : bytesL ⟨#[34]⟩ = [34] := rfl
  rw [e1, e2]; simp
theorem clItem_size (x : ByteArray) (h : x.size ≤ 1000000) : (clItem x).size ≤ 4000000 := by unfold clItem; rw [ByteArray.size_append]; show 1 + x.size ≤ _; omega
theorem idItem_size (x : ByteArray) (h : x.size ≤ 1000000) : (idItem x).size ≤ 4000000 := by unfold idItem; rw [ByteArray.size_append]; show 1 + x.size ≤ _; omega

set_option maxRecDepth 100000 in
set_option maxHeartbeats 4000000 in
theorem rtext_ok (w : World) (a : AttrL) (A : Option Addr) (c : Nat) (D : Option Addr) (d B : Nat) (h : ReadA w B a A c D d) (hca : a.cl.length ≤ c) (hda : a.pr.length ≤ d) (hE : checkE a = 0) (hc32 : a.cl.length ≤ 32) (hp32 : a.pr.length ≤ 32) :
    Calls Try.prog 17 #[.agg #[.string a.id, .slice A a.cl.length c, .slice D a.pr.length d]] w (TextPost (textB a, 0) w) := by
  have HC : Hid (Calls Try.prog 15 #[.agg #[.string a.id, .slice A a.cl.length c, .slice D a.pr.length d]] (w.alloc (.cells #[.string a.id, .slice A a.cl.length c, .slice D a.pr.length d] 27)) fun e w' => e = .returned (.int .i64 (0 : Nat)) ∧ Below (w.alloc (.cells #[.string a.id, .slice A a.cl.length c, .slice D a.pr.length d] 27)).heap.size (w.alloc (.cells #[.string a.id, .slice A a.cl.length c, .slice D a.pr.length d] 27)) w') := Lib.hid (by rw [← hE]; exact rcheck_any _ a A c D d B (h.below ((Below.refl _ _).alloc (Nat.le_refl _) _)) hca hda)
  have HRd := Lib.hid h
  have hsid := h.sid
  have HT : Hid (textB a = ⟨#[123]⟩ ++ mk ((spL (idItems a.id ++ a.cl.map clItem ++ a.pr.map prItem)).drop 1) ++ ⟨#[125]⟩) := Lib.hid (by unfold textB itemsL; rw [join_spL])
  have HI0 : Hid (BInv w a A c D d (w.alloc (.cells #[.string a.id, .slice A a.cl.length c, .slice D a.pr.length d] 27))) := Lib.hid ⟨Blk.new _ _ _, (Below.refl _ _).alloc (Nat.le_refl _) _⟩
  clear h hE
  generalize textB a = R at *
  have HID : Hid (idItems a.id = if a.id = ⟨#[]⟩ then [] else [idItem a.id]) := Lib.hid rfl
  have hidl : (idItems a.id).length ≤ 1 := by unfold idItems; split <;> simp
  have HI0s : Hid (∀ x ∈ idItems a.id, x.size ≤ 4000000) := Lib.hid fun x hx => by
    unfold idItems at hx
    split at hx
    · cases hx
    · simp at hx; subst hx; exact idItem_size _ hsid
  generalize idItems a.id = I0 at *
  by_cases hid : a.id = ⟨#[]⟩
  case' pos =>
    have hI0 : Hid (I0 = []) := Lib.hid (by rw [HID.out, if_pos hid])
    have y1 : a.id.toList = [] := (toList_iff _).2 hid
    have y2 : a.id.toList.isEmpty = true := by rw [y1]; rfl
    clear hid
    go_enter Try.func17, Try.ntmps17
    go_wp2_with fail
    ((with_reducible refine HC.out.mono ?_))
    rintro e w1 ⟨rfl, b1⟩
    have KI := Lib.hid (HI0.out.below b1)
    have k0 := KI.out.blk.cell 0
    simp at k0
    clear b1
    have KO : Hid (RTRel w a A c D d I0 (.string ⟨#[]⟩) w1) := Lib.hid ⟨by rw [hI0.out]; rfl, HI0s.out, by omega, KI.out⟩
    go_wp2_with fail
    clear k0 y1 y2 KI
  case' neg =>
    have hI0 : Hid (I0 = [idItem a.id]) := Lib.hid (by rw [HID.out, if_neg hid])
    have y1 : ¬ a.id.toList = [] := fun e => hid ((toList_iff _).1 e)
    have y2 : a.id.toList.isEmpty = false := by rw [List.isEmpty_eq_false_iff]; exact y1
    clear hid
    have cat0 : ∀ w : World, (Op.stringOp .add ⟨#[32, 35]⟩ a.id).run Try.prog w = .ok (.string (mk ([32, 35] ++ bytesL a.id))) w := fun w => cat_mk w [32, 35] _ _ (by simp; omega) rfl
    go_enter Try.func17, Try.ntmps17
    go_wp2_with fail
    ((with_reducible refine HC.out.mono ?_))
    rintro e w1 ⟨rfl, b1⟩
    have KI := Lib.hid (HI0.out.below b1)
    have k0 := KI.out.blk.cell 0
    simp at k0
    clear b1
    have KO : Hid (RTRel w a A c D d I0 (.string (mk ([32, 35] ++ bytesL a.id))) w1) := Lib.hid ⟨by
      rw [hI0.out]
      show _ = Value.string (mk (32 :: bytesL (idItem a.id) ++ []))
      rw [List.append_nil, bytes_idItem], HI0s.out, by omega, KI.out⟩
    go_wp2_with fail
    clear k0 y1 y2 KI cat0
  all_goals
    go_loopw [5, 6] (fun o i wr => ∃ k : Nat, i = .int .i64 k ∧ k ≤ a.cl.length ∧ Hid (RTRel w a A c D d (I0 ++ (a.cl.take k).map clItem) o wr)) (fun _ i _ => a.cl.length - (intOf i).toNat)
    case atStart => exact ⟨0, rfl, by omega, Lib.hid (by rw [List.take_zero, List.map_nil, List.append_nil]; exact KO.out)⟩
    case round =>
      clear KO HC HI0
      obtain ⟨k, rfl, hk, KT⟩ := hrel
      obtain ⟨ho, hits, hlen, hbi⟩ := KT.out
      subst ho
      have KBI := Lib.hid hbi
      have KIT := Lib.hid hits
      have t1 := hbi.blk.cell 1
      have t2 := hbi.blk.cell 2
      simp at t1 t2
      have hspl := spL_small _ hits hlen
      clear hits hbi
      by_cases hlt : k < a.cl.length
      · obtain ⟨b, off, rfl, hb, hcell⟩ := (HRd.out.cls.below (KBI.out.bel.mono HRd.out.le)).row (by omega) (by omega)
        have hc := hcell k _ (strs_at a.cl k hlt)
        clear hcell
        have hsz := HRd.out.scl _ (List.getElem_mem hlt)
        have hnext : Hid (I0 ++ (a.cl.take (k + 1)).map clItem = (I0 ++ (a.cl.take k).map clItem) ++ [clItem a.cl[k]]) := Lib.hid (by rw [List.take_succ_eq_append_getElem hlt, List.map_append, List.append_assoc]; rfl)
        have hlen2 : (I0 ++ (a.cl.take k).map clItem).length ≤ 33 := by rw [List.length_append, List.length_map, List.length_take]; omega
        generalize I0 ++ (a.cl.take k).map clItem = its at *
        have hsn : Hid (spL (its ++ [clItem a.cl[k]]) = spL its ++ [32, 46] ++ bytesL a.cl[k]) := Lib.hid (by rw [spL_snoc, bytes_clItem, List.append_assoc])
        have cat1 : ∀ w : World, (Op.stringOp .add (mk (spL its)) ⟨#[32, 46]⟩).run Try.prog w = .ok (.string (mk (spL its ++ [32, 46]))) w := fun w => cat_mk w _ _ _ (by show (spL its).length + 2 ≤ _; omega) rfl
        have cat2 : ∀ w : World, (Op.stringOp .add (mk (spL its ++ [32, 46])) a.cl[k]).run Try.prog w = .ok (.string (mk (spL its ++ [32, 46] ++ bytesL a.cl[k]))) w := fun w => cat_mk w _ _ _ (by simp; omega) rfl
        go_wp2_with fail
        go_roundw
        case rel =>
          refine ⟨k + 1, by go_num, by omega, Lib.hid ⟨?_, ?_, ?_, KBI.out⟩⟩
          · rw [hnext.out, hsn.out, List.append_assoc]; rfl
          · rw [hnext.out]; intro x hx
            rcases List.mem_append.1 hx with hx | hx
            · exact KIT.out x hx
            · simp at hx; subst hx; exact clItem_size _ hsz
          · rw [hnext.out]; simp; omega
        case measure => simp [intOf]; omega
      · obtain rfl : k = a.cl.length := by omega
        have KT1 : Hid (RTRel w a A c D d (I0 ++ a.cl.map clItem) (.string (mk (spL (I0 ++ (a.cl.take a.cl.length).map clItem)))) wr) := Lib.hid (by have := KT.out; rw [List.take_length] at this ⊢; exact this)
        have hI1l : (I0 ++ a.cl.map clItem).length ≤ 33 := by rw [List.length_append, List.length_map]; omega
        go_wp2_with fail
        clear t1 t2 KT KBI KIT hspl hlen
        obtain ⟨wo, rfl⟩ : ∃ wo : World, wo = wr := ⟨_, rfl⟩
        have HT1 : Hid (R = ⟨#[123]⟩ ++ mk ((spL ((I0 ++ a.cl.map clItem) ++ a.pr.map prItem)).drop 1) ++ ⟨#[125]⟩) := HT
        clear HT
        generalize I0 ++ a.cl.map clItem = I1 at *
        go_loopw [5, 7] (fun o i wr => ∃ k : Nat, i = .int .i64 k ∧ k ≤ a.pr.length ∧ Hid (RTRel w a A c D d (I1 ++ (a.pr.take k).map prItem) o wr)) (fun _ i _ => a.pr.length - (intOf i).toNat)
        case atStart => exact ⟨0, rfl, by omega, Lib.hid (by rw [List.take_zero, List.map_nil, List.append_nil]; exact KT1.out)⟩
        case round =>
          clear KT1
          obtain ⟨k, rfl, hk, KT⟩ := hrel
          obtain ⟨ho, hits, hlen, hbi⟩ := KT.out
          subst ho
          have KBI := Lib.hid hbi
          have KIT := Lib.hid hits
          have t2 := hbi.blk.cell 2
          simp at t2
          have hspl := spL_small _ hits hlen
          clear hits hbi
          by_cases hlt : k < a.pr.length
          · obtain ⟨b, off, rfl, hb, hcell⟩ := (HRd.out.prs.below (KBI.out.bel.mono HRd.out.le)).row (by omega) (by omega)
            have hc1 := hcell _ _ (prs_at a.pr k hlt).1
            have hc2 := hcell _ _ (prs_at a.pr k hlt).2
            rw [← Nat.add_assoc] at hc2
            clear hcell
            have hs1 := (HRd.out.spr _ (List.getElem_mem hlt)).1
            have hs2 := (HRd.out.spr _ (List.getElem_mem hlt)).2
            have hpsz := Lib.hid (prItem_size a.pr[k] (HRd.out.spr _ (List.getElem_mem hlt)))
            have hnext : Hid (I1 ++ (a.pr.take (k + 1)).map prItem = (I1 ++ (a.pr.take k).map prItem) ++ [prItem a.pr[k]]) := Lib.hid (by rw [List.take_succ_eq_append_getElem hlt, List.map_append, List.append_assoc]; rfl)
            have hlen2 : (I1 ++ (a.pr.take k).map prItem).length ≤ 64 := by rw [List.length_append, List.length_map, List.length_take]; omega
            generalize I1 ++ (a.pr.take k).map prItem = its at *
            have HQ : Hid (∀ n, Calls Try.prog 38 #[.string a.pr[k].2] (wr.drewN n) fun e w' => e = .returned (.string (mk (quotedL a.pr[k].2))) ∧ wr.drewN n = w') := Lib.hid fun n => quoted_any a.pr[k].2 _ hs2
            have hql : (quotedL a.pr[k].2).length ≤ 2000002 := by
              have := escL_len (bytesL a.pr[k].2)
              rw [bytesL_length] at this
              unfold quotedL; simp; omega
            have hsn : Hid (spL (its ++ [prItem a.pr[k]]) = spL its ++ [32] ++ bytesL a.pr[k].1 ++ [61] ++ quotedL a.pr[k].2) := Lib.hid (by rw [spL_snoc, bytes_prItem]; simp)
            have hqb : Hid (bytesL (mk (quotedL a.pr[k].2)) = quotedL a.pr[k].2) := Lib.hid (bytesL_mk' _)
            have hqs : Hid ((mk (quotedL a.pr[k].2)).size = (quotedL a.pr[k].2).length) := Lib.hid (mk_size _)
            generalize quotedL a.pr[k].2 = QL at *
            obtain ⟨Y, hY⟩ : ∃ Y, Y = spL its ++ [32] ++ bytesL a.pr[k].1 ++ [61] ++ QL := ⟨_, rfl⟩
            have HY := Lib.hid hY
            obtain ⟨Z, hZ⟩ : ∃ Z, Z = spL its ++ [32] := ⟨_, rfl⟩
            have HZ := Lib.hid hZ
            obtain ⟨Z2, hZ2⟩ : ∃ Z2, Z2 = Z ++ bytesL a.pr[k].1 := ⟨_, rfl⟩
            have HZ2 := Lib.hid hZ2
            obtain ⟨Z3, hZ3⟩ : ∃ Z3, Z3 = Z2 ++ [61] := ⟨_, rfl⟩
            have HZ3 := Lib.hid hZ3
            clear hY hZ hZ2 hZ3
            have lZ : Z.length = (spL its).length + 1 := by rw [HZ.out]; simp
            have lZ2 : Z2.length = Z.length + a.pr[k].1.size := by rw [HZ2.out, List.length_append, bytesL_length]
            have lZ3 : Z3.length = Z2.length + 1 := by rw [HZ3.out]; simp
            have cat1 : ∀ w : World, (Op.stringOp .add (mk (spL its)) ⟨#[32]⟩).run Try.prog w = .ok (.string (mk Z)) w := fun w => cat_mk w _ _ _ (by show (spL its).length + 1 ≤ _; omega) HZ.out.symm
            have cat2 : ∀ w : World, (Op.stringOp .add (mk Z) a.pr[k].1).run Try.prog w = .ok (.string (mk Z2)) w := fun w => cat_mk w _ _ _ (by omega) HZ2.out.symm
            have cat3 : ∀ w : World, (Op.stringOp .add (mk Z2) ⟨#[61]⟩).run Try.prog w = .ok (.string (mk Z3)) w := fun w => cat_mk w _ _ _ (by show Z2.length + 1 ≤ _; omega) HZ3.out.symm
            have cat4 : ∀ w : World, (Op.stringOp .add (mk Z3) (mk QL)).run Try.prog w = .ok (.string (mk Y)) w := fun w => cat_mk w _ _ _ (by rw [hqs.out]; omega) (by rw [hqb.out, HY.out, HZ3.out, HZ2.out, HZ.out])
            have i0 : (0 : Int) ≤ (k : Int) := Int.natCast_nonneg _
            have i1 : (k : Int) < (a.pr.length : Int) := by omega
            clear lZ lZ2 lZ3 hql
            go_wp2_with fail
            go_quiet ((go_at_call 38; exact quiet_left (HQ.out _)))
            go_wp2_with fail
            go_roundw
            case rel =>
              refine ⟨k + 1, by go_num, by omega, Lib.hid ⟨?_, ?_, ?_, KBI.out.drewN _⟩⟩
              · rw [hnext.out, hsn.out, HY.out]
              · rw [hnext.out]; intro x hx
                rcases List.mem_append.1 hx with hx | hx
                · exact KIT.out x hx
                · simp at hx; subst hx; exact hpsz.out
              · rw [hnext.out]; simp; omega
            case measure => simp [intOf]; omega
          · obtain rfl : k = a.pr.length := by omega
            have htk := Lib.hid (List.take_length (l := a.pr))
            have hRR : Hid (R = ⟨#[123]⟩ ++ mk ((spL (I1 ++ (a.pr.take a.pr.length).map prItem)).drop 1) ++ ⟨#[125]⟩) := Lib.hid (by rw [htk.out]; exact HT1.out)
            clear HT1 htk KT KIT
            generalize hL : spL (I1 ++ (a.pr.take a.pr.length).map prItem) = L at *
            have hdl : (L.drop 1).length ≤ 300000000 := by rw [List.length_drop]; omega
            have cat1 : ∀ w : World, (Op.stringOp .add ⟨#[123]⟩ (mk (L.drop 1))).run Try.prog w = .ok (.string (mk ([123] ++ L.drop 1))) w := fun w => cat_mk w [123] _ _ (by rw [mk_size]; simp at hdl ⊢; omega) (by rw [bytesL_mk'])
            have cat2 : ∀ w : World, (Op.stringOp .add (mk ([123] ++ L.drop 1)) ⟨#[125]⟩).run Try.prog w = .ok (.string (mk ([123] ++ L.drop 1 ++ [125]))) w := fun w => cat_mk w _ _ _ (by rw [List.length_append]; show 1 + (L.drop 1).length + 1 ≤ _; omega) rfl
            have hfin : Hid (R = mk ([123] ++ L.drop 1 ++ [125])) := Lib.hid (by
              rw [hRR.out, ← mk_app, ← mk_app]; rfl)
            clear hL
            cases L with
            | nil =>
              have v1 : (mk ([] : List UInt8)).toList = [] := toList_nil
              have v2 : (mk ([] : List UInt8)).toList.isEmpty = true := by rw [v1]; rfl
              have c1 : ∀ w : World, (Op.stringOp .add ⟨#[123]⟩ (mk [])).run Try.prog w = .ok (.string (mk [123])) w := fun w => cat1 w
              have c2 : ∀ w : World, (Op.stringOp .add (mk [123]) ⟨#[125]⟩).run Try.prog w = .ok (.string (mk [123, 125])) w := fun w => cat2 w
              have KB := Lib.hid KBI.out.bel
              clear cat1 cat2
              go_wp2_with fail
              go_ret2
              exact ⟨by rw [hfin.out]; rfl, KB.out⟩
            | cons x L =>
              have v0 : bytesL (mk (x :: L)) = x :: L := bytesL_mk' _
              have v1 : ¬ (mk (x :: L)).toList = [] := fun e => by
                have := (toList_iff _).1 e
                rw [this] at v0
                cases v0
              have v2 : (mk (x :: L)).toList.isEmpty = false := by rw [List.isEmpty_eq_false_iff]; exact v1
              have hex : (mk (x :: L)).extract 1 (mk (x :: L)).size = mk L := extract_mk (x :: L) 1
              have hsz1 : 1 ≤ (mk (x :: L)).size := by rw [mk_size]; simp
              have hsz2 : (mk (x :: L)).size ≤ 300000000 := by rw [mk_size]; exact hspl
              have c1 : ∀ w : World, (Op.stringOp .add ⟨#[123]⟩ (mk L)).run Try.prog w = .ok (.string (mk (123 :: L))) w := fun w => cat1 w
              have c2 : ∀ w : World, (Op.stringOp .add (mk (123 :: L)) ⟨#[125]⟩).run Try.prog w = .ok (.string (mk (123 :: (L ++ [125])))) w := fun w => cat2 w
              have KB := Lib.hid KBI.out.bel
              clear cat1 cat2 v0
              go_wp2_with fail
              go_ret2
              exact ⟨by rw [hfin.out]; rfl, KB.out⟩

theorem rtext_any (w : World) (a : AttrL) (A : Option Addr) (c : Nat) (D : Option Addr) (d B : Nat) (h : ReadA w B a A c D d) (hca : a.cl.length ≤ c) (hda : a.pr.length ≤ d) :
    Calls Try.prog 17 #[.agg #[.string a.id, .slice A a.cl.length c, .slice D a.pr.length d]] w (TextPost (textR a) w) := by
  unfold textR
  by_cases hE : checkE a = 0
  · rw [if_pos hE]; exact rtext_ok w a A c D d B h hca hda hE (checkE_lim a hE).1 (checkE_lim a hE).2
  · rw [if_neg hE]; exact rtext_fail w a A c D d B h hca hda hE
end Go.Proofs.Ytkcfcdnchlmekaa
