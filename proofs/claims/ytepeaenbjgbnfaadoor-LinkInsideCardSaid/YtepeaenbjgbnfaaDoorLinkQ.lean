/-
  The reference's escape and Inside; the law LinkInside.
-/
import Derived.Test.YtepeaenbjgbnfaaDoorLinkM
import Derived.Test.YtepeaenbjgbnfaaDoorLinkJ
set_option linter.unusedVariables false
set_option linter.unusedSimpArgs false
namespace Go.Pub
def spL : List Nat := [92, 96, 36, 123, 60, 62, 91, 93, 40, 41, 34]
def spS : ByteArray := ⟨#[92, 96, 36, 123, 60, 62, 91, 93, 40, 41, 34]⟩
theorem spS_size : spS.size = 11 := rfl
theorem spS_at : ∀ k : Fin 11, bt spS k = spL.getD k 0 := by decide
/-- What the characters up to k have laid ahead of the byte b. -/
def hitL (b k : Nat) : List UInt8 := if (spL.take k).contains b then [92] else []
theorem hit_eq' : ∀ k : Fin 11, hitL (spL.getD k 0) k = [] ∧ hitL (spL.getD k 0) (k + 1) = [92] := by decide
theorem hit_eq (b k : Nat) (hk : k < 11) (h : b = spL.getD k 0) : hitL b k = [] ∧ hitL b (k + 1) = [92] := by
  subst h; exact hit_eq' ⟨k, hk⟩
theorem hit_ne (b k : Nat) (hk : k < 11) (h : b ≠ spL.getD k 0) : hitL b (k + 1) = hitL b k := by
  have hk' : k < spL.length := hk
  have e : spL.getD k 0 = spL[k] := by simp [List.getD, List.getElem?_eq_getElem hk']
  rw [e] at h
  unfold hitL
  rw [List.take_succ_eq_append_getElem hk']
  have : (spL.take k ++ [spL[k]]).contains b = (spL.take k).contains b := by
    rw [Bool.eq_iff_iff]
    simp only [List.contains_iff_mem, List.mem_append, List.mem_singleton]
    exact ⟨fun e => e.resolve_right h, Or.inl⟩
  rw [this]
theorem hit_end (b : UInt8) : hitL b.toNat 11 ++ [b] = escS1 b := by
  unfold hitL escS1 specB
  show (if spL.contains b.toNat then _ else _) ++ _ = if spL.contains b.toNat then _ else _
  split <;> rfl
theorem gap_zero (l : List UInt8) : gapB (l.take 0) = false := rfl
theorem gap_all (s : ByteArray) (k : Nat) (h : s.size ≤ k) : (bytesL s).take k = bytesL s := List.take_of_length_le (by rw [bytesL_length]; exact h)
theorem gap_step (s : ByteArray) (k : Nat) (h : k < s.size) : gapB ((bytesL s).take (k + 1)) = (gapB ((bytesL s).take k) || spaceB (bt s k : Int)) := by
  have h' : k < (bytesL s).length := by rw [bytesL_length]; exact h
  rw [List.take_succ_eq_append_getElem h']
  unfold gapB
  rw [List.any_append, List.any_cons, List.any_nil, Bool.or_false]
  congr 3
  show _ = (s.data[k]!).toNat
  rw [getElem!_pos s.data k h]
  simp [bytesL]
theorem hit_len (b k : Nat) : (hitL b k).length ≤ 1 := by unfold hitL; split <;> simp
end Go.Pub
namespace Go.Proofs.YtepeaenbjgbnfaaDoor
open Go.RowKit Go.Pub

def REs (s : ByteArray) (R : List UInt8) (w : World) (v i : Value) (wr : World) : Prop :=
  ∃ (k : Nat) (acc : List UInt8), i = .int .i64 k ∧ k ≤ s.size ∧ wr.ownsRow w.heap.size 5 1 v acc.length (Lib.byteCells acc) ∧ Below w.heap.size w wr ∧ Hid (acc ++ escS (sfx s k) = R) ∧ acc.length ≤ 2 * k
def REt (w : World) (acc : List UInt8) (b : Nat) (v i : Value) (wr : World) : Prop :=
  ∃ m : Nat, i = .int .i64 m ∧ m ≤ 11 ∧ wr.ownsRow w.heap.size 5 1 v (acc ++ hitL b m).length (Lib.byteCells (acc ++ hitL b m)) ∧ Below w.heap.size w wr

set_option maxRecDepth 100000 in
set_option maxHeartbeats 8000000 in
theorem r8_escape (s : ByteArray) (w : World) (hs : s.size ≤ 1000000) : Calls Tryd.prog 31 #[.string s] w fun e w' => e = .returned (.string (mk (escS (bytesL s)))) ∧ Below w.heap.size w w' := by
  have HX : Hid (escS (sfx s 0) = escS (bytesL s)) := Lib.hid rfl
  generalize escS (bytesL s) = R at *
  obtain ⟨i0, hi0, hz0, hz1, hz2⟩ := info_parts byteInfo
  go_enter Tryd.func31, Tryd.ntmps31
  go_wp2
  obtain ⟨sp, hsp⟩ : ∃ sp : ByteArray, sp = ⟨#[92, 96, 36, 123, 60, 62, 91, 93, 40, 41, 34]⟩ := ⟨_, rfl⟩
  rw [← hsp]
  have hspz : sp.size = 11 := by rw [hsp]; rfl
  have HSP : Hid (∀ k, k < 11 → bt sp k = spL.getD k 0) := Lib.hid fun k hk => by rw [hsp]; exact spS_at ⟨k, hk⟩
  clear hsp
  go_loopw [4, 5] (fun v i wr => REs s R w v i wr) (fun _ v _ => s.size - (intOf v).toNat)
  case atStart => exact ⟨0, [], rfl, by omega, World.ownsRow_nil _ _ _ _, Below.refl _ w, HX, by simp⟩
  case round =>
    obtain ⟨k, acc, rfl, hk, hown, hbw, Hacc, hal⟩ := hrel
    have hz := hbw.size
    by_cases hlt : k < s.size
    · have hst := Lib.hid (escS_step s k hlt)
      have hlt2 : ((s[k].toNat : Nat) : Int) < 256 := by rw [get_bt s k hlt]; have := bt_lt s k; omega
      have hbi := Lib.hid (bt_int s k hlt)
      have HBT := Lib.hid (get_bt s k hlt)
      go_wp2_with fail
      obtain ⟨wo, rfl⟩ : ∃ wo : World, wo = wr := ⟨_, rfl⟩
      go_loopw [4, 6] (fun v i wr => REt w acc (bt s k) v i wr) (fun _ v _ => 11 - (intOf v).toNat)
      case atStart => exact ⟨0, rfl, by omega, by show wo.ownsRow _ _ _ _ (acc ++ []).length (Lib.byteCells (acc ++ [])); rw [List.append_nil]; exact hown, hbw⟩
      case round =>
        clear hown hbw hz
        obtain ⟨m, rfl, hm, hown1, hbw⟩ := hrel
        have hz := hbw.size
        by_cases hm1 : m < 11
        · have hgm := Lib.hid (get_bt sp m (by omega))
          have hm2 : m < sp.size := by omega
          have hlt3 : ((sp[m].toNat : Nat) : Int) < 256 := by rw [get_bt sp m hm2]; have := bt_lt sp m; omega
          by_cases he : bt s k = spL.getD m 0
          · have HE := Lib.hid (hit_eq _ m hm1 he)
            have q : (((s[k].toNat : Nat) : Int) == ((sp[m].toNat : Nat) : Int)) = true := by rw [HBT.out, get_bt sp m hm2, HSP.out m hm1, he]; simp
            have q' : (s[k].toNat == sp[m].toNat) = true := by rw [beq_iff_eq] at q ⊢; omega
            have q'' : (s[k] == sp[m]) = true := by rw [beq_iff_eq] at q' ⊢; exact UInt8.toNat_inj.1 q'
            have hln : (acc ++ hitL (bt s k) m).length ≤ 2 * s.size + 1 := by rw [List.length_append]; have := hit_len (bt s k) m; omega
            clear he
            go_wp2_with fail
            go_quiet (fail)
            generalize hwd : wr.drewN _ = wd
            have hown1 : wd.ownsRow w.heap.size 5 1 u4 (acc ++ hitL (bt s k) m).length (Lib.byteCells (acc ++ hitL (bt s k) m)) := by rw [← hwd]; exact hown1
            have hbw : Below w.heap.size w wd := by rw [← hwd]; exact below_drewN hbw _
            have hz := hbw.size
            clear hwd
            go_wp2_with (at_builtin; refine wpList_append_own _ rfl _ _ 47 rfl w.heap.size 5 i0 _ 1 1 Tryd.underlying47 hi0 hz0 hz1 hz2 rfl (by decide) _ _ _ rfl (hown1.alloc _) ⟨wd.heap.size, 0, none⟩ 1 1 [.int .u8 (92)] rfl rfl ?c1 ?c2 ?c3 ?c4 ?c5 ?_)
            case c1 =>
              intro j u hj
              match j, hj with
              | 0, hj => simp at hj; subst hj; simp [Addr.add]
            case c2 => intro u hu; simp at hu; subst hu; rfl
            case c3 => unfold maxLen; omega
            case c4 => omega
            case c5 => simp; omega
            intro v' w2 hown3 hgrow _
            have hnx : Below w.heap.size w w2 := (hbw.alloc (by exact hz) _).grown hgrow (by simp; omega) (fun k hk => (hown1.lt k hk).1)
            go_wp2
            go_roundw
            case rel =>
              refine ⟨m + 1, by go_num, by omega, ?_, hnx⟩
              have e1 : acc ++ hitL (bt s k) (m + 1) = (acc ++ hitL (bt s k) m) ++ [92] := by rw [HE.out.1, HE.out.2]; simp
              rw [e1, Lib.byteCells_append (acc ++ _)]
              simp only [List.length_append, List.length_singleton]
              exact hown3
            case measure => simp [intOf]; omega
          · have HE := Lib.hid (hit_ne _ m hm1 he)
            have q : (((s[k].toNat : Nat) : Int) == ((sp[m].toNat : Nat) : Int)) = false := by rw [HBT.out, get_bt sp m hm2, HSP.out m hm1, beq_eq_false_iff_ne]; omega
            have q' : (s[k].toNat == sp[m].toNat) = false := by rw [beq_eq_false_iff_ne] at q ⊢; omega
            have q'' : (s[k] == sp[m]) = false := by rw [beq_eq_false_iff_ne] at q' ⊢; intro e; exact q' (by rw [e])
            clear he
            go_wp2_with fail
            go_quiet (fail)
            go_wp2
            go_roundw
            case rel => exact ⟨m + 1, by go_num, by omega, by rw [HE.out]; exact hown1, below_drewN hbw _⟩
            case measure => simp [intOf]; omega
        · obtain rfl : m = 11 := by omega
          have HE : Hid (hitL (bt s k) 11 ++ [s.get! k] = escS1 (s.get! k)) := Lib.hid (hit_end (s.get! k))
          have hln : (acc ++ hitL (bt s k) 11).length ≤ 2 * k + 1 := by rw [List.length_append]; have := hit_len (bt s k) 11; omega
          go_wp2_with (at_builtin; refine wpList_append_own _ rfl _ _ 47 rfl w.heap.size 5 i0 _ 1 1 Tryd.underlying47 hi0 hz0 hz1 hz2 rfl (by decide) _ _ _ rfl (hown1.alloc _) ⟨wr.heap.size, 0, none⟩ 1 1 [.int .u8 (((s[k].toNat : Nat) : Int))] rfl rfl ?c1 ?c2 ?c3 ?c4 ?c5 ?_)
          case c1 =>
            intro j u hj
            match j, hj with
            | 0, hj => simp at hj; subst hj; simp [Addr.add]
          case c2 => intro u hu; simp at hu; subst hu; rfl
          case c3 => unfold maxLen; omega
          case c4 => omega
          case c5 => simp; omega
          intro v' w2 hown3 hgrow _
          have hnx : Below w.heap.size w w2 := (hbw.alloc (by exact hz) _).grown hgrow (by simp; omega) (fun k hk => (hown1.lt k hk).1)
          go_wp2
          go_roundw
          case rel =>
            refine ⟨k + 1, (acc ++ hitL (bt s k) 11) ++ [s.get! k], by go_num, by omega, ?_, hnx, Lib.hid (by rw [← Hacc.out, hst.out, List.append_assoc acc, HE.out]; simp), by rw [List.length_append, List.length_singleton]; omega⟩
            rw [Lib.byteCells_append (acc ++ _), byteCell1, ← hbi.out]
            simp only [List.length_append, List.length_singleton]
            exact hown3
          case measure => simp [intOf]; omega
    · have HR : Hid (acc = R) := Lib.hid (by rw [← Hacc.out, escS_end s k (by omega), List.append_nil])
      obtain ⟨A2, cp2, rfl⟩ := own_slice hown
      have hcv := conv_bytes wr 47 5 Tryd.underlying47 Tryd.underlying5 cp2 (Reads.of_own hown) 9 Tryd.underlying9
      go_wp2
      go_ret
      exact ⟨ret_str (by rw [HR.out]; rfl), hbw⟩

set_option maxRecDepth 100000 in
set_option maxHeartbeats 4000000 in
theorem r8_inside (d t : ByteArray) (w : World) (hd : d.size ≤ 1000000) (ht : t.size ≤ 1000000) : Calls Tryd.prog 15 #[.string d, .string t] w fun e w' => e = .returned (.string (mk (insideL (bytesL d) (bytesL t)))) ∧ Below w.heap.size w w' := by
  have HX : Hid (insideL (bytesL d) (bytesL t) = if bytesL d = [] ∧ bytesL t = [] then [] else
    (if bytesL d = [] ∨ gapB (bytesL d) = true then [60] ++ escS (bytesL d) ++ [62] else escS (bytesL d)) ++ (if bytesL t = [] then [] else [32, 34] ++ escS (bytesL t) ++ [34])) := Lib.hid rfl
  have HE := Lib.hid fun W => r8_escape d W hd
  have HT := Lib.hid fun W => r8_escape t W ht
  have hs1 : (mk (escS (bytesL d))).size ≤ 2000000 := by rw [mk_size]; have := escS_len (bytesL d); rw [bytesL_length] at this; omega
  have hs2 : (mk (escS (bytesL t))).size ≤ 2000000 := by rw [mk_size]; have := escS_len (bytesL t); rw [bytesL_length] at this; omega
  generalize insideL (bytesL d) (bytesL t) = R at *
  generalize escS (bytesL d) = E at *
  generalize escS (bytesL t) = F at *
  by_cases h1 : bytesL d = []
  · obtain ⟨x1, x2⟩ := nil_list d h1
    by_cases h2 : bytesL t = []
    · obtain ⟨y1, y2⟩ := nil_list t h2
      have HF : Hid (R = []) := Lib.hid (by rw [HX.out, if_pos ⟨h1, h2⟩])
      clear h1 h2 HX
      go_enter Tryd.func15, Tryd.ntmps15
      go_wp2_with fail
      go_ret
      exact ⟨ret_str (by rw [HF.out]; rfl), Below.refl _ _⟩
    · obtain ⟨y1, y2⟩ := cons_list t h2
      have HF : Hid (R = [60] ++ E ++ [62] ++ [32, 34] ++ F ++ [34]) := Lib.hid (by rw [HX.out, if_neg (fun e => h2 e.2), if_pos (Or.inl h1), if_neg h2]; simp only [List.append_assoc])
      have hd0 : d.size = 0 := by rw [← bytesL_length, h1]; rfl
      clear h1 h2 HX
      go_enter Tryd.func15, Tryd.ntmps15
      go_wp2_with fail
      ((with_reducible refine (HE.out _).mono ?_))
      rintro e w1 ⟨rfl, b1⟩
      have hz1 := b1.size
      go_wp2_with fail
      go_loop [6, 7] (fun p i => p = .bool false ∧ i = .int .i64 0) (fun _ _ => 0)
      case atStart => exact ⟨rfl, rfl⟩
      case round =>
        obtain ⟨rfl, rfl⟩ := hrel
        go_wp2_with fail
        ((with_reducible refine (HT.out _).mono ?_))
        rintro e w2 ⟨rfl, b2⟩
        go_wp2_with fail
        go_ret
        exact ⟨ret_str (by rw [HF.out, ← mk_app, ← mk_app, ← mk_app, ← mk_app, ← mk_app]; rfl), b1.trans (b2.mono hz1)⟩
  · obtain ⟨x1, x2⟩ := cons_list d h1
    have HX2 : Hid (R = (if gapB (bytesL d) = true then [60] ++ E ++ [62] else E) ++ (if bytesL t = [] then [] else [32, 34] ++ F ++ [34])) := Lib.hid (by
      rw [HX.out, if_neg (fun e => h1 e.1)]
      by_cases hg : gapB (bytesL d) = true
      · rw [if_pos (Or.inr hg), if_pos hg]
      · rw [if_neg (by rintro (e | e); exact h1 e; exact hg e), if_neg hg])
    clear h1 HX
    go_enter Tryd.func15, Tryd.ntmps15
    go_wp2_with fail
    ((with_reducible refine (HE.out _).mono ?_))
    rintro e w1 ⟨rfl, b1⟩
    have hz1 := b1.size
    go_wp2_with fail
    go_loop [6, 7] (fun p i => ∃ (k : Nat) (G : Bool), p = .bool (!G) ∧ i = .int .i64 k ∧ k ≤ d.size ∧ Hid (G = gapB ((bytesL d).take k))) (fun _ i => d.size - (intOf i).toNat)
    case atStart => exact ⟨0, false, rfl, rfl, by omega, Lib.hid rfl⟩
    case round =>
      obtain ⟨k, G, rfl, rfl, hk, HG⟩ := hrel
      by_cases hlt : k < d.size
      · have hlt2 : ((d[k].toNat : Nat) : Int) < 256 := by rw [get_bt d k hlt]; have := bt_lt d k; omega
        have HS : Hid (∀ W, Calls Tryd.prog 32 #[.int .i64 ((d[k].toNat : Nat) : Int)] W fun e w' => e = .returned (.bool (spaceB (bt d k : Int))) ∧ W = w') := Lib.hid fun W => by
          have h := rSpace_any ((d[k].toNat : Nat) : Int) W
          rw [get_bt d k hlt] at h ⊢
          exact h
        have hst := Lib.hid (gap_step d k hlt)
        cases hsb : spaceB (bt d k : Int)
        · rw [hsb] at hst HS
          clear hsb
          go_wp2_with fail
          ((with_reducible refine (HS.out _).mono ?_))
          rintro e w2 ⟨rfl, rfl⟩
          go_wp2_with fail
          go_round
          case rel => exact ⟨k + 1, G, rfl, by go_num, by omega, Lib.hid (by rw [hst.out, HG.out, Bool.or_false])⟩
          case measure => simp [intOf]; omega
        · rw [hsb] at hst HS
          clear hsb
          go_wp2_with fail
          ((with_reducible refine (HS.out _).mono ?_))
          rintro e w2 ⟨rfl, rfl⟩
          go_wp2_with fail
          go_round
          case rel => exact ⟨k + 1, true, rfl, by go_num, by omega, Lib.hid (by rw [hst.out, Bool.or_true])⟩
          case measure => simp [intOf]; omega
      · have HG2 : Hid (G = gapB (bytesL d)) := Lib.hid (by rw [HG.out, gap_all d k (by omega)])
        clear HG
        by_cases h2 : bytesL t = []
        · obtain ⟨y1, y2⟩ := nil_list t h2
          cases G
          · have HF : Hid (R = E) := Lib.hid (by rw [HX2.out, ← HG2.out, if_neg (by simp), if_pos h2, List.append_nil])
            clear h2
            go_wp2_with fail
            go_ret
            exact ⟨ret_str (by rw [HF.out]), b1⟩
          · have HF : Hid (R = [60] ++ E ++ [62]) := Lib.hid (by rw [HX2.out, ← HG2.out, if_pos rfl, if_pos h2, List.append_nil])
            clear h2
            go_wp2_with fail
            go_ret
            exact ⟨ret_str (by rw [HF.out, ← mk_app, ← mk_app]; rfl), b1⟩
        · obtain ⟨y1, y2⟩ := cons_list t h2
          cases G
          · have HF : Hid (R = E ++ [32, 34] ++ F ++ [34]) := Lib.hid (by rw [HX2.out, ← HG2.out, if_neg (by simp), if_neg h2]; simp only [List.append_assoc])
            clear h2
            go_wp2_with fail
            ((with_reducible refine (HT.out _).mono ?_))
            rintro e w2 ⟨rfl, b2⟩
            go_wp2_with fail
            go_ret
            exact ⟨ret_str (by rw [HF.out, ← mk_app, ← mk_app, ← mk_app]; rfl), b1.trans (b2.mono hz1)⟩
          · have HF : Hid (R = [60] ++ E ++ [62] ++ [32, 34] ++ F ++ [34]) := Lib.hid (by rw [HX2.out, ← HG2.out, if_pos rfl, if_neg h2]; simp only [List.append_assoc])
            clear h2
            go_wp2_with fail
            ((with_reducible refine (HT.out _).mono ?_))
            rintro e w2 ⟨rfl, b2⟩
            go_wp2_with fail
            go_ret
            exact ⟨ret_str (by rw [HF.out, ← mk_app, ← mk_app, ← mk_app, ← mk_app, ← mk_app]; rfl), b1.trans (b2.mono hz1)⟩

set_option maxRecDepth 100000 in
set_option maxHeartbeats 4000000 in
theorem lawInside_any (d t : ByteArray) (w : World) (hd : d.size ≤ 9223372036854775807) (ht : t.size ≤ 9223372036854775807) : Calls Tryd.prog 5 #[.string d, .string t] w fun e w' => e = .returned (.bool true) ∧ Below w.heap.size w w' := by
  have HA := Lib.hid awake_any
  by_cases h : 400 < d.size
  · have d1 : decide (400 < d.size) = true := decide_eq_true h
    go_enter Tryd.func5, Tryd.ntmps5
    go_wp2_with fail
    ((with_reducible refine (HA.out _).mono ?_))
    rintro e w1 ⟨rfl, b1⟩
    go_wp2_with fail
    go_ret
    exact ⟨rfl, b1⟩
  by_cases h' : 400 < t.size
  · have d0 : decide (400 < d.size) = false := decide_eq_false h
    have d1 : decide (400 < t.size) = true := decide_eq_true h'
    go_enter Tryd.func5, Tryd.ntmps5
    go_wp2_with fail
    ((with_reducible refine (HA.out _).mono ?_))
    rintro e w1 ⟨rfl, b1⟩
    go_wp2_with fail
    go_ret
    exact ⟨rfl, b1⟩
  · have d0 : decide (400 < d.size) = false := decide_eq_false h
    have d1 : decide (400 < t.size) = false := decide_eq_false h'
    have H1 := Lib.hid fun W => l_inside d t W (by omega) (by omega)
    have H2 := Lib.hid fun W => r8_inside d t W (by omega) (by omega)
    generalize mk (insideL (bytesL d) (bytesL t)) = R at *
    have q1 : (R.toList == R.toList) = true := beq_self_eq_true _
    go_enter Tryd.func5, Tryd.ntmps5
    go_wp2_with fail
    ((with_reducible refine (H1.out _).mono ?_))
    rintro e w1 ⟨rfl, b1⟩
    go_wp2_with fail
    ((with_reducible refine (H2.out _).mono ?_))
    rintro e w2 ⟨rfl, b2⟩
    go_wp2_with fail
    ((with_reducible refine (HA.out _).mono ?_))
    rintro e w5 ⟨rfl, b5⟩
    go_wp2_with fail
    go_ret
    have c2 := b1.trans (b2.mono b1.size)
    have c5 := c2.trans (b5.mono c2.size)
    exact ⟨rfl, c5⟩
end Go.Proofs.YtepeaenbjgbnfaaDoor
