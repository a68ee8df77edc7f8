/-
  Texts of the proof, put together (what this law reaches): NsYB, NsD, NsYC.
-/
import Derived.Test.YtpoafhgbhnblmaaGreatDoorD21
import Derived.Test.YtpoafhgbhnblmaaGreatDoorD22
import Derived.Laws.OwnMore
import Derived.Test.YtpoafhgbhnblmaaGreatDoorD15
set_option linter.unusedVariables false
set_option linter.unusedSimpArgs false
namespace Go.Proofs.YtpoafhgbhnblmaaGreatDoor
open Go.RowKit Go.Pub
theorem run_append_none {P : Program} {w : World} (base : Nat) (t ty e : TypeId) (i : TypeInfo) (size c : Nat) (ht : P.underlying t = some (.slice e)) (hi : P.info? e = some i)
    (v : Value) (n : Nat) (xs : List Value) (hown : w.ownsRow base e size v n xs) :
    (Builtin.append_ #[t, t] ty #[v, .slice none 0 c]).run P w = .ok v w := by
  rcases hown.2 with ⟨rfl, rfl⟩ | ⟨g, cap, cur, rfl, _, _, hnc, _⟩
  · simp [Builtin.append_, run_underlying ht, sizeOf, typeInfo, hi, Builtin.lenOf, Builtin.firstCells]
  · simp [Builtin.append_, run_underlying ht, sizeOf, typeInfo, hi, Builtin.lenOf, Builtin.firstCells, hnc, storeCells]
/-- A row of the call's own, and what is read behind it, which may be nil. -/
theorem wpList_append_any {P : Program} {w : World} {ops : Array Oper} {rest : List Oper} {o : Oper} {a : Act} {Q : Exit → Act → World → Prop} (hgd : o.guard = none) (s x : Operand) (t : TypeId)
    (ho : o.op = .call { callee := .builtin .append, args := #[s, x], argTypes := #[t, t] })
    (base : Nat) (e : TypeId) (i : TypeInfo) (z : Value) (size bytes : Nat) (ht : P.underlying t = some (.slice e)) (hi : P.info? e = some i) (hz : i.zero = some z)
    (hsize : i.size = size) (hby : i.bytes = bytes) (hzs : z.cells.size = size) (hsz : 0 < size)
    (v : Value) (n : Nat) (xs : List Value) (hs : a.eval s = v) (hown : w.ownsRow base e size v n xs)
    (A : Option Addr) (m c B : Nat) (news : List Value) (hx : a.eval x = .slice A m c) (hr : Reads w B size A m news) (h1 : ∀ u ∈ news, u.oneCell' = true)
    (h63 : n + m ≤ maxLen) (hbytes : (n + m) * bytes ≤ 140737488355328) (hbase : base ≤ w.heap.size)
    (h : ∀ v' w', w'.ownsRow base e size v' (n + m) (xs ++ news) → w.grownBy w' v.ownBlock → wpList P ops Q rest (a.put o.dst v') w') : wpList P ops Q (o :: rest) a w := by
  cases A with
  | some ad =>
    refine wpList_append_own w hgd s x t ho base e i z size bytes ht hi hz hsize hby hzs hsz v n xs hs hown ad m c news hx hr.1 (fun j u hu => ?_) h1 h63 hbytes hbase fun v' w' h2 h3 _ => h v' w' h2 h3
    have hm : 0 < m := by
      rcases Nat.eq_zero_or_pos m with h0 | h0
      · have := hr.1
        rw [h0, Nat.zero_mul] at this
        rw [List.eq_nil_of_length_eq_zero this] at hu
        simp at hu
      · exact h0
    obtain ⟨ad', e', _, hc⟩ := hr.2 hm
    injection e' with e'
    subst e'
    exact hc j u hu
  | none =>
    obtain rfl : m = 0 := by
      rcases Nat.eq_zero_or_pos m with h0 | h0
      · exact h0
      · obtain ⟨ad', e', _⟩ := hr.2 h0; cases e'
    have hn : news = [] := List.eq_nil_of_length_eq_zero (by have := hr.1; simpa using this)
    subst hn
    refine wpList_plain hgd fun K hK => ?_
    have hrun := run_append_none (P := P) (w := w) base t o.type e i size c ht hi v n xs hown
    unfold Oper.wp
    simp [execOp, ho, resolve, invoke, builtin, hs, hx, hrun, Result.andThen]
    exact hK _ _ (h v w (by simpa using hown) ⟨rfl, rfl, rfl, Nat.le_refl _, fun _ _ _ => rfl⟩)
theorem rep_snocB (q : UInt8) (i : Nat) : List.replicate i q ++ [q] = List.replicate (i + 1) q := List.replicate_succ'.symm
theorem cat_twoB {P : Program} (w : World) (a b r : List UInt8) (h : a.length + b.length ≤ 9223372036854775807) (hr : a ++ b = r) : (Op.stringOp .add (mk a) (mk b)).run P w = .ok (.string (mk r)) w :=
  cat_mk w a (mk b) r (by rw [mk_size]; exact h) (by rw [bytesL_mk']; exact hr)
theorem blank_sps : ∀ r : Fin 9, blankB (mk (List.replicate r 32)) = true := by decide +kernel
theorem covB_bd {zs : List ByteArray} : ∀ {rs : List (Nat × Nat)} {a : Nat}, covB zs a rs → ∀ k (hk : k < rs.length), rs[k].1 < rs[k].2 ∧ rs[k].2 ≤ zs.length
  | r :: rs, a, h, 0, _ => ⟨h.2.1, h.2.2.1⟩
  | r :: rs, a, h, k + 1, hk => covB_bd h.2.2.2.2 k (Nat.lt_of_succ_lt_succ hk)
def up1 (x : Nat × Nat) : Nat × Nat := (1 + x.1, 1 + x.2)
theorem moveR_one (p : List BkT × List (Nat × Nat)) : moveR 1 p = (p.1, p.2.map up1) := rfl
set_option maxRecDepth 100000 in
set_option maxHeartbeats 2000000 in
theorem law7_blanks (MM : Int) (zs : List ByteArray) (A : Option Addr) (c : Nat) (n : Nat) (w : World) (hm : w.cell? ⟨0, 0, none⟩ = some (.int .i64 MM)) (hr : Reads w w.heap.size 1 A zs.length (strs zs)) (hl : zs.length ≤ maxLen) (hx : ∀ x ∈ zs, x.size ≤ maxLen) (hc : zs.length ≤ c) (hcm : c ≤ maxLen) (hn : n < 256) :
    Calls Tryz.prog 6 #[.slice A zs.length c, .int .u8 (n : Nat)] w fun e w' => e = .returned (.bool true) ∧ Below w.heap.size w w' := by
  obtain ⟨i0, hi0, hz0, hz1, hz2⟩ := info_parts str_info
  have hp0 := World.block_lt_of_cell? _ _ hm
  have HM : Hid (∀ W, Below w.heap.size w W → W.cell? ⟨0, 0, none⟩ = some (.int .i64 MM)) := Lib.hid fun W h => (h.cell (p := ⟨0, 0, none⟩) hp0).trans hm
  have HA : Hid (∀ W, Below w.heap.size w W → Calls Tryz.prog 11 #[] W fun e w' => e = .returned (.bool true) ∧ Below W.heap.size W w') := Lib.hid fun W h => l7_awake MM W (HM.out W h)
  have HCl := Lib.hid (l7_clean zs A c w hr hl hx)
  have HLn : Hid (CleanOk zs → LinesAt w A zs MM) := Lib.hid fun h => ⟨hr, by have := h.1; omega, fun z hz => Nat.le_trans (h.2 z hz) (by decide), hm⟩
  have HC := Lib.hid hc
  have HCM := Lib.hid hcm
  obtain ⟨r, hrr⟩ : ∃ r, r = n % 9 := ⟨_, rfl⟩
  have hr9 : r < 9 := by omega
  have hri : (n : Int) % 9 = (r : Int) := by omega
  have HBk := Lib.hid (blank_sps ⟨r, hr9⟩)
  have E1 : ∀ i w, i ≤ 9 → (Op.stringOp .add (mk (List.replicate i 32)) ⟨#[32]⟩).run Tryz.prog w = .ok (.string (mk (List.replicate (i + 1) 32))) w := fun i w h => cat_twoB w _ [32] _ (by rw [List.length_replicate]; simp; omega) (rep_snocB _ _)
  have E0 : mk (List.replicate 0 32) = ⟨#[]⟩ := rfl
  have HSz : Hid ((mk (List.replicate r 32)).size ≤ 100000) := Lib.hid (by rw [mk_size, List.length_replicate]; omega)
  clear hrr hr hl hx hm hc hcm
  simp only [] at HBk
  obtain ⟨f, hf⟩ : ∃ f : Nat → ByteArray, ∀ i, mk (List.replicate i 32) = f i := ⟨_, fun _ => rfl⟩
  simp only [hf] at HBk E1 E0 HSz
  clear hf
  go_enter Tryz.func6, Tryz.ntmps6
  go_wp2_with fail
  ((with_reducible refine (HCl.out).mono ?_))
  rintro e w1 ⟨⟨b, rfl, hok⟩, b1⟩
  have HB1 := Lib.hid b1
  cases b with
  | false =>
    go_wp2_with fail
    ((with_reducible refine (HA.out _ HB1.out).mono ?_))
    rintro e w2 ⟨rfl, b2⟩
    go_wp2_with fail
    go_ret
    exact ⟨rfl, HB1.out.trans (b2.mono HB1.out.size)⟩
  | true =>
    have hL := HLn.out (hok rfl)
    have hlen := hL.len
    have h60 := (hok rfl).1
    by_cases h50 : 50 < zs.length
    · have d1 : decide ((50 : Int) < (zs.length : Int)) = true := decide_eq_true (by omega)
      have d2 : decide (50 < zs.length) = true := decide_eq_true h50
      clear h50
      go_wp2_with fail
      ((with_reducible refine (HA.out _ HB1.out).mono ?_))
      rintro e w2 ⟨rfl, b2⟩
      go_wp2_with fail
      go_ret
      exact ⟨rfl, HB1.out.trans (b2.mono HB1.out.size)⟩
    have d1 : decide ((50 : Int) < (zs.length : Int)) = false := decide_eq_false (by omega)
    have d2 : decide (50 < zs.length) = false := decide_eq_false h50
    have HL := Lib.hid hL
    have HP : Hid (∀ W, Below w.heap.size w W → Calls Tryz.prog 12 #[.slice A zs.length c] W (NsPPost (blocksN 16 zs) W)) := Lib.hid fun W h => n_Parse zs A c MM W (HL.out.below h) HC.out HCM.out
    have HR : Hid (∀ W, Below w.heap.size w W → Calls Tryz.prog 15 #[.slice A zs.length c] W (NsRPost (blocksN 16 zs) W)) := Lib.hid fun W h => n_Ranges zs A c MM W (HL.out.below h) HC.out HCM.out
    have HBN : Hid (blocksN 16 (f r :: zs) = (blocksN 16 zs).map (moveR 1)) := Lib.hid (blocksN_blank 16 (f r) zs HBk.out)
    have HLM : Hid (∀ W, Below w.heap.size w W → ∀ A', Reads W W.heap.size 1 A' (1 + zs.length) (strs (f r :: zs)) → LinesAt W A' (f r :: zs) MM) := Lib.hid fun W hb A' hr => ⟨by rw [List.length_cons, Nat.add_comm]; exact hr, by rw [List.length_cons]; omega, fun z hz => by
      rcases List.mem_cons.1 hz with rfl | hz
      · exact HSz.out
      · exact HL.out.sz z hz, HM.out W hb⟩
    clear hL hok b1 HLn HCl
    go_wp2_with fail
    go_loop [5, 6] (fun v5 v6 => ∃ j : Nat, v5 = .string (f j) ∧ v6 = .int .i64 j ∧ j ≤ r) (fun _ v6 => r - (intOf v6).toNat)
    case atStart => exact ⟨0, by rw [E0], rfl, Nat.zero_le _⟩
    case round =>
      obtain ⟨j, rfl, rfl, hj⟩ := hrel
      have e1 := fun w => E1 j w (by omega)
      by_cases hjr : j < r
      · go_wp2_with fail
        go_round
        case rel => exact ⟨j + 1, rfl, by go_num, by omega⟩
        case measure => simp [intOf]; omega
      · obtain rfl : j = r := by omega
        clear e1 E1
        go_wp2_with (at_builtin; refine wpList_append_any rfl _ _ 22 rfl w1.heap.size 9 i0 _ 1 16 Tryz.underlying22 hi0 hz0 hz1 hz2 rfl (by decide) _ 1 [.string (f j)] rfl (World.ownsRow_lit w1 #[.string (f j)] 1 (Nat.le_refl _) (by decide) rfl) A zs.length c _ (strs zs) rfl (HL.out.below (HB1.out.alloc HB1.out.size _)).rd ?c2 ?c3 ?c4 ?c5 ?_)
        case c2 => intro u hu; unfold strs at hu; obtain ⟨z, _, rfl⟩ := List.mem_map.1 hu; rfl
        case c3 => unfold maxLen; omega
        case c4 => omega
        intro v' w2 hown hgrow
        obtain ⟨A5, c5, rfl, hk1, hk2⟩ := own_cap hown
        have HB2 : Hid (Below w.heap.size w w2) := Lib.hid ((HB1.out.alloc HB1.out.size _).grown hgrow (by simp; exact Nat.le_succ_of_le HB1.out.size) (fun k hk => by
          have : w1.heap.size = k := by simpa [Value.ownBlock] using hk
          have := HB1.out.size
          omega))
        have hLM := HLM.out w2 HB2.out A5 (Reads.of_own hown)
        have HP2 : Hid (∀ W, Below w2.heap.size w2 W → Calls Tryz.prog 12 #[.slice A5 (1 + zs.length) c5] W (NsPPost ((blocksN 16 zs).map (moveR 1)) W)) := Lib.hid fun W h => by
          have h1 := n_Parse (f j :: zs) A5 c5 MM W (hLM.below h) (by rw [List.length_cons, Nat.add_comm]; exact hk1) hk2
          rw [List.length_cons, Nat.add_comm, HBN.out] at h1
          exact h1
        have HR2 : Hid (∀ W, Below w2.heap.size w2 W → Calls Tryz.prog 15 #[.slice A5 (1 + zs.length) c5] W (NsRPost ((blocksN 16 zs).map (moveR 1)) W)) := Lib.hid fun W h => by
          have h1 := n_Ranges (f j :: zs) A5 c5 MM W (hLM.below h) (by rw [List.length_cons, Nat.add_comm]; exact hk1) hk2
          rw [List.length_cons, Nat.add_comm, HBN.out] at h1
          exact h1
        clear hown hgrow hLM HLM HBN
        unfold NsPPost at HP HP2
        unfold NsRPost at HR HR2
        cases hbk : blocksN 16 zs with
        | none =>
          rw [hbk] at HP HR HP2 HR2
          simp only [Option.map_none] at HP HR HP2 HR2
          clear hbk
          have HS : Hid (∀ W, Calls Tryz.prog 14 #[.slice none 0 0, .slice none 0 0] W fun e w' => e = .returned (.bool true) ∧ Below W.heap.size W w') := Lib.hid fun W => r4_same _ [] (Nat.le_refl _) none none 0 0 (fun _ => False) (fun _ => False) W (KidsV.none_ _ _) (KidsV.none_ _ _) (fun _ h => h.elim) (fun _ h => h.elim)
          go_wp2_with fail
          ((with_reducible refine (HP.out _ HB2.out).mono ?_))
          rintro e w3 ⟨b3, rfl⟩
          have HB3 := Lib.hid (HB2.out.trans (b3.mono HB2.out.size))
          have HC3 := Lib.hid b3
          clear b3
          go_wp2_with fail
          ((with_reducible refine (HP2.out _ HC3.out).mono ?_))
          rintro e w4 ⟨b4, rfl⟩
          have HB4 := Lib.hid (HB3.out.trans (b4.mono HB3.out.size))
          have HC4 := Lib.hid (HC3.out.trans (b4.mono HC3.out.size))
          clear b4
          go_wp2_with fail
          ((with_reducible refine (HR.out _ HB4.out).mono ?_))
          rintro e w5 ⟨b5, rfl⟩
          have HB5 := Lib.hid (HB4.out.trans (b5.mono HB4.out.size))
          have HC5 := Lib.hid (HC4.out.trans (b5.mono HC4.out.size))
          clear b5
          go_wp2_with fail
          ((with_reducible refine (HR2.out _ HC5.out).mono ?_))
          rintro e w6 ⟨b6, rfl⟩
          have HB6 := Lib.hid (HB5.out.trans (b6.mono HB5.out.size))
          clear b6
          go_wp2_with fail
          ((with_reducible refine (HS.out _).mono ?_))
          rintro e w7 ⟨rfl, b7⟩
          have HB7 := Lib.hid (HB6.out.trans (b7.mono HB6.out.size))
          clear b7 HP HR HP2 HR2
          go_wp2_with fail
          go_loop [16] (fun v => v = .int .i64 0) (fun _ => 0)
          case atStart => rfl
          case round =>
            obtain rfl := hrel
            go_wp2_with fail
            ((with_reducible refine (HA.out _ HB7.out).mono ?_))
            rintro e w8 ⟨rfl, b8⟩
            go_wp2_with fail
            go_ret
            exact ⟨rfl, HB7.out.trans (b8.mono HB7.out.size)⟩
        | some p =>
          rw [hbk] at HP HR HP2 HR2
          simp only [Option.map_some, moveR_one, List.length_map] at HP HR HP2 HR2
          have HCv := Lib.hid (covB_bd (blocksN_cov 16 zs p hbk).1)
          have hrl := covB_len zs p.2 0 (Nat.zero_le _) (blocksN_cov 16 zs p hbk).1
          clear hbk
          generalize p.2 = rs at *
          generalize p.1 = bs at *
          go_wp2_with fail
          ((with_reducible refine (HP.out _ HB2.out).mono ?_))
          rintro e w3 ⟨b3, A3, c3, rfl, hk3, -⟩
          have HB3 := Lib.hid (HB2.out.trans (b3.mono HB2.out.size))
          have HC3 := Lib.hid b3
          have HK3 := Lib.hid hk3
          clear b3 hk3
          go_wp2_with fail
          ((with_reducible refine (HP2.out _ HC3.out).mono ?_))
          rintro e w4 ⟨b4, A4, c4, rfl, hk4, -⟩
          have HB4 := Lib.hid (HB3.out.trans (b4.mono HB3.out.size))
          have HC4 := Lib.hid (HC3.out.trans (b4.mono HC3.out.size))
          have HK34 := Lib.hid (HK3.out.below b4)
          have HK4 := Lib.hid hk4
          clear b4 hk4 HK3
          go_wp2_with fail
          ((with_reducible refine (HR.out _ HB4.out).mono ?_))
          rintro e w5 ⟨b5, A6, c6, rfl, hr5⟩
          have HB5 := Lib.hid (HB4.out.trans (b5.mono HB4.out.size))
          have HC5 := Lib.hid (HC4.out.trans (b5.mono HC4.out.size))
          have HK35 := Lib.hid (HK34.out.below b5)
          have HK45 := Lib.hid (HK4.out.below b5)
          have HR5 := Lib.hid hr5
          clear b5 hr5 HK34 HK4
          go_wp2_with fail
          ((with_reducible refine (HR2.out _ HC5.out).mono ?_))
          rintro e w6 ⟨b6, A7, c7, rfl, hr6⟩
          have HB6 := Lib.hid (HB5.out.trans (b6.mono HB5.out.size))
          have HS := Lib.hid (r4_same _ bs (Nat.le_refl _) A3 A4 c3 c4 _ _ w6 (HK35.out.below b6) (HK45.out.below b6) (fun g hg => hg.2) (fun g hg => hg.2))
          have HR56 : Hid (ReadsS w6 (fun g => g < w6.heap.size) 2 A6 rs.length (rngs rs)) := Lib.hid (HR5.out.keep (fun g hg => b6.block g hg.2) fun g hg => Nat.lt_of_lt_of_le hg.2 b6.size)
          have HR6 : Hid (ReadsS w6 (fun g => g < w6.heap.size) 2 A7 rs.length (rngs (rs.map up1))) := Lib.hid (hr6.keep (w' := w6) (S' := fun g => g < w6.heap.size) (fun _ _ => rfl) fun g hg => hg.2)
          clear b6 hr6 HK35 HK45 HR5
          go_wp2_with fail
          ((with_reducible refine (HS.out).mono ?_))
          rintro e w7 ⟨rfl, b7⟩
          have HB7 := Lib.hid (HB6.out.trans (b7.mono HB6.out.size))
          have HR7 : Hid (∀ W, Below w7.heap.size w7 W → ReadsS W (fun g => g < w6.heap.size) 2 A6 rs.length (rngs rs) ∧ ReadsS W (fun g => g < w6.heap.size) 2 A7 rs.length (rngs (rs.map up1))) := Lib.hid fun W h =>
            have hb := b7.trans (h.mono b7.size)
            ⟨HR56.out.keep (fun g hg => hb.block g hg) fun _ h => h, HR6.out.keep (fun g hg => hb.block g hg) fun _ h => h⟩
          clear b7 HP HR HP2 HR2 HR56 HR6 HS
          go_wp2_with fail
          go_loopw [16] (fun v wr => ∃ k : Nat, v = .int .i64 k ∧ k ≤ rs.length ∧ Hid (Below w7.heap.size w7 wr)) (fun v _ => rs.length - (intOf v).toNat)
          case atStart => exact ⟨0, rfl, Nat.zero_le _, Lib.hid (Below.refl _ _)⟩
          case round =>
            obtain ⟨k, rfl, hk, HBW⟩ := hrel
            by_cases hlt : k < rs.length
            · obtain ⟨h5, h6⟩ := HR7.out wr HBW.out
              obtain ⟨ga, oa, rfl, -, hca⟩ := h5.row (by omega) (by decide)
              obtain ⟨gb, ob, rfl, -, hcb⟩ := h6.row (by omega) (by decide)
              have hlm : k < (rs.map up1).length := by rw [List.length_map]; exact hlt
              have a1 := hca (k * 2) _ (rngs_at rs k hlt).1
              have a2 : wr.cell? ⟨ga, oa + k * 2 + 1, none⟩ = some (.int .i64 rs[k].2) := by rw [Nat.add_assoc]; exact hca (k * 2 + 1) _ (rngs_at rs k hlt).2
              have b1 : wr.cell? ⟨gb, ob + k * 2, none⟩ = some (.int .i64 ((1 + rs[k].1 : Nat) : Int)) := by
                have := hcb (k * 2) _ (rngs_at _ k hlm).1
                rwa [List.getElem_map] at this
              have b2 : wr.cell? ⟨gb, ob + k * 2 + 1, none⟩ = some (.int .i64 ((1 + rs[k].2 : Nat) : Int)) := by
                have := hcb (k * 2 + 1) _ (rngs_at _ k hlm).2
                rw [List.getElem_map] at this
                rw [Nat.add_assoc]
                exact this
              obtain ⟨q1, q2⟩ := HCv.out k hlt
              clear hca hcb h5 h6 hlm
              generalize rs[k].1 = f1 at *
              generalize rs[k].2 = t1 at *
              obtain ⟨f2, hf2⟩ : ∃ f2, f2 = 1 + f1 := ⟨_, rfl⟩
              obtain ⟨t2, ht2⟩ : ∃ t2, t2 = 1 + t1 := ⟨_, rfl⟩
              rw [← hf2] at b1
              rw [← ht2] at b2
              have z1 : ((f2 : Int) != (f1 : Int) + 1) = false := by rw [bne_eq_false_iff_eq]; omega
              have z2 : ((t2 : Int) != (t1 : Int) + 1) = false := by rw [bne_eq_false_iff_eq]; omega
              have z3 : ((f2 : Int) == (f1 : Int) + 1) = true := by rw [beq_iff_eq]; omega
              have z4 : ((t2 : Int) == (t1 : Int) + 1) = true := by rw [beq_iff_eq]; omega
              clear hf2 ht2
              have w1 : IntKind.i64.wrap ((f1 : Int) + 1) = (f1 : Int) + 1 := IntWalk.i64_in _ (by omega)
              have w2 : IntKind.i64.wrap ((t1 : Int) + 1) = (t1 : Int) + 1 := IntWalk.i64_in _ (by omega)
              go_wp2_with fail
              go_quiet (fail)
              go_wp2_with fail
              go_roundw
              case rel => exact ⟨k + 1, by go_num, by omega, Lib.hid (below_drewN HBW.out nq)⟩
              case measure => simp [intOf]; omega
            · go_wp2_with fail
              ((with_reducible refine (HA.out _ (HB7.out.trans (HBW.out.mono HB7.out.size))).mono ?_))
              rintro e w8 ⟨rfl, b8⟩
              go_wp2_with fail
              go_ret
              exact ⟨rfl, (HB7.out.trans (HBW.out.mono HB7.out.size)).trans (b8.mono (HB7.out.trans (HBW.out.mono HB7.out.size)).size)⟩

end Go.Proofs.YtpoafhgbhnblmaaGreatDoor
namespace Go.Proofs.YtpoafhgbhnblmaaGreatDoor
open Go.RowKit Go.Pub
/-- k quotation or item marks and a letter. -/
def repsL (q : UInt8) : Nat → List UInt8
  | 0 => []
  | k + 1 => q :: 32 :: repsL q k
def deepL (q : UInt8) : Nat → List UInt8
  | 0 => [97]
  | k + 1 => q :: 32 :: deepL q k
theorem reps_snoc (q : UInt8) : ∀ k, repsL q k ++ [q, 32] = repsL q (k + 1)
  | 0 => rfl
  | k + 1 => by show q :: 32 :: (repsL q k ++ [q, 32]) = _; rw [reps_snoc q k]; rfl
theorem deep_reps (q : UInt8) : ∀ k, repsL q k ++ [97] = deepL q k
  | 0 => rfl
  | k + 1 => by show q :: 32 :: (repsL q k ++ [97]) = _; rw [deep_reps q k]; rfl
theorem reps_len (q : UInt8) : ∀ k, (repsL q k).length = 2 * k
  | 0 => rfl
  | k + 1 => by show (repsL q k).length + 1 + 1 = _; rw [reps_len q k]; omega
theorem deep_q : ∀ k : Fin 20, (markM (mk (deepL 62 (k.1 + 1)))).kind = 4 ∧ (markM (mk (deepL 62 (k.1 + 1)))).rest = mk (deepL 62 k.1) := by decide +kernel
theorem deep_i : ∀ k : Fin 20, (markM (mk (deepL 45 (k.1 + 1)))).kind = 5 ∧ (markM (mk (deepL 45 (k.1 + 1)))).rest = mk (deepL 45 k.1) := by decide +kernel
theorem deep_a : ∀ k : Fin 21, blankB (mk (deepL 62 k.1)) = false ∧ blankB (mk (deepL 45 k.1)) = false := by decide +kernel
theorem deep_0 : (markM (mk [97])).kind = 0 := by decide +kernel
theorem one_line (n : Nat) (s : ByteArray) (hb : blankB s = false) : blocksN n [s] = match atN n [s] 0 (markM s) with
    | none => none
    | some (b, tq) => some ([b], [(0, tq)]) := by
  rw [blocksN_rest, restT_step _ _ (fun i r h e => (atN_bd n [s] i r h e).1) 0 (by simp) hb]
  show (match atN n [s] 0 (markM s) with
    | none => none
    | some (b, tq) => (restT (atN n [s]) [s] tq).map fun (r : List BkT × List (Nat × Nat)) => (b :: r.1, (0, tq) :: r.2)) = _
  cases hm : atN n [s] 0 (markM s) with
  | none => rfl
  | some r =>
    obtain ⟨b, tq⟩ := r
    have := (atN_bd n [s] 0 _ (by simp) hm).1
    simp only [] at this ⊢
    rw [restT_end _ _ _ (by simp; omega)]
    rfl
/-- One block of that depth, or too deep. -/
def DeepR (n need : Nat) (o : Option (List BkT × List (Nat × Nat))) : Prop := if need ≤ n then ∃ b r, o = some ([b], r) ∧ depthL [b] = need else o = none
theorem deep_one (b : BkT) : depthL [b] = depthB b := by show max (depthB b) 0 = _; omega
theorem deep_kid (k : Nat) (ks : List BkT) : depthL [kidB k ks] = 1 + depthL ks := by rw [deep_one]; rfl
theorem deep_list (m : MkL) (ks : List BkT) : depthL [listB m ks] = 1 + depthL ks := by rw [deep_one]; rfl
theorem para_at (n : Nat) (s : ByteArray) (hk : (markM s).kind = 0) : atN (n + 1) [s] 0 (markM s) = some (paraB [s] 0, paraTo [s] 0) := by
  have hh : headAt [s] 0 = false := rfl
  match n with
  | 0 => rw [atN_one]; unfold blockT; simp [hk, hh]
  | n + 1 => rw [atN_two]; unfold blockT; simp [hk, hh]
theorem quote_at (n : Nat) (s : ByteArray) (hk : (markM s).kind = 4) : atN (n + 1) [s] 0 (markM s) = ((blocksN n [(markM s).rest]).map (·.1)).map fun k => (kidB 6 k, quoteTo [s] 0) := by
  have hq : quoteTo [s] 0 = 1 := seek_eq _ _ 0 1 (by omega) (by simp) (fun j h1 h2 => by
    obtain rfl : j = 0 := by omega
    have : kindOf [s] 0 = 4 := hk
    simp [this]) (fun h => absurd h (by simp))
  have hi : quoteIn [s] 0 = [(markM s).rest] := by unfold quoteIn; rw [hq]; rfl
  match n with
  | 0 => rw [atN_one]; unfold blockT; simp only [hk, hi]; rfl
  | n + 1 => rw [atN_two]; unfold blockT; simp only [hk, hi]; rfl
theorem list_at (n : Nat) (s : ByteArray) (hk : (markM s).kind = 5) (hr : blankB (markM s).rest = false) : atN (n + 2) [s] 0 (markM s) = ((blocksN n [(markM s).rest]).map (·.1)).map fun k => (listB (markM s) [kidB 9 k], 1) := by
  have hc : contL [s] 0 (markM s) = ([(markM s).rest], 1) := by
    have h1 : contNo [s] 0 (markM s) = false := by unfold contNo; rw [hr]; rfl
    have h2 : contTo [s] 0 (markM s) = 1 := by
      have := contTo_bd [s] 0 (markM s) (by simp)
      simp at this
      omega
    unfold contL
    rw [h1, h2]
    rfl
  have hn : nextNB [s] 1 = 1 := by
    have := nextNB_bd [s] 1 (by simp)
    simp at this
    omega
  rw [atN_two]
  unfold blockT
  generalize markM s = m at *
  rw [if_neg (by omega), if_neg (by omega), if_neg (by omega), if_neg (by omega), if_neg (by omega), if_neg (by omega), if_neg (by omega), if_neg (by omega), if_pos (.inl hk), if_pos rfl]
  show (itemsF _ [s] 1 0 m).map _ = _
  unfold itemsF
  rw [hc]
  simp only [hn]
  cases (blocksN n [m.rest]) with
  | none => rfl
  | some p => simp
theorem deep_quote : ∀ (k : Nat), k < 20 → ∀ n, DeepR n (k + 1) (blocksN n [mk (deepL 62 k)])
  | 0, _, n => by
    unfold DeepR
    rw [show mk (deepL 62 0) = mk [97] from rfl, one_line n (mk [97]) (deep_a ⟨0, by omega⟩).1]
    match n with
    | 0 => exact rfl
    | n + 1 =>
      rw [if_pos (by omega), para_at n _ deep_0]
      exact ⟨_, _, rfl, rfl⟩
  | k + 1, hk, n => by
    unfold DeepR
    rw [one_line n _ (deep_a ⟨k + 1, by omega⟩).1]
    match n with
    | 0 => exact rfl
    | n + 1 =>
      obtain ⟨h1, h2⟩ := deep_q ⟨k, by omega⟩
      have ih := deep_quote k (by omega) n
      unfold DeepR at ih
      rw [quote_at n _ h1, h2]
      by_cases hn : k + 1 ≤ n
      · rw [if_pos hn] at ih
        obtain ⟨b, r, e, hd⟩ := ih
        rw [if_pos (by omega), e]
        exact ⟨_, _, rfl, by rw [deep_kid, hd]; omega⟩
      · rw [if_neg hn] at ih
        rw [if_neg (by omega), ih]
        rfl
theorem deep_items : ∀ (k : Nat), k < 20 → ∀ n, DeepR (2 * n) (2 * k + 1) (blocksN (2 * n) [mk (deepL 45 k)])
  | 0, _, n => by
    unfold DeepR
    rw [show mk (deepL 45 0) = mk [97] from rfl, one_line _ (mk [97]) (deep_a ⟨0, by omega⟩).2]
    match n with
    | 0 => exact rfl
    | n + 1 =>
      rw [if_pos (by omega), show 2 * (n + 1) = (2 * n + 1) + 1 by omega, para_at _ _ deep_0]
      exact ⟨_, _, rfl, rfl⟩
  | k + 1, hk, n => by
    unfold DeepR
    rw [one_line _ _ (deep_a ⟨k + 1, by omega⟩).2]
    match n with
    | 0 => exact rfl
    | n + 1 =>
      obtain ⟨h1, h2⟩ := deep_i ⟨k, by omega⟩
      have ih := deep_items k (by omega) n
      unfold DeepR at ih
      rw [show 2 * (n + 1) = 2 * n + 2 by omega, list_at _ _ h1 (by rw [h2]; exact (deep_a ⟨k, by omega⟩).2), h2]
      by_cases hn : 2 * k + 1 ≤ 2 * n
      · rw [if_pos hn] at ih
        obtain ⟨b, r, e, hd⟩ := ih
        rw [if_pos (by omega), e]
        exact ⟨_, _, rfl, by rw [deep_list, deep_kid, hd]; omega⟩
      · rw [if_neg hn] at ih
        rw [if_neg (by omega), ih]
        rfl
end Go.Proofs.YtpoafhgbhnblmaaGreatDoor
namespace Go.Proofs.YtpoafhgbhnblmaaGreatDoor
open Go.RowKit Go.Pub
def DepP (n : Nat) : Prop := ∀ (bs : List BkT), depthL bs ≤ n → depthL bs ≤ 1000 → ∀ (A : Option Addr) (c : Nat) (S : Nat → Prop) (w : World), KidsV w S (.slice A bs.length c) bs →
    Calls Tryz.prog 18 #[.slice A bs.length c] w fun e w' => e = .returned (.int .i64 ((depthL bs : Nat) : Int)) ∧ w = w'
theorem depth_take (bs : List BkT) (k : Nat) (h : k < bs.length) : depthL (bs.take (k + 1)) = max (depthL (bs.take k)) (depthB bs[k]) := by
  induction bs generalizing k with
  | nil => exact absurd h (by simp)
  | cons b bs ih =>
    cases k with
    | zero => show max (depthB b) 0 = max 0 (depthB b); omega
    | succ k =>
      have := ih k (Nat.lt_of_succ_lt_succ h)
      show max (depthB b) (depthL (bs.take (k + 1))) = max (max (depthB b) (depthL (bs.take k))) (depthB (bs[k]'(Nat.lt_of_succ_lt_succ h)))
      rw [this]; omega
theorem depth_kids (b : BkT) : depthB b = 1 + depthL (kidsT b) := by
  cases b; rfl
theorem cat_twoD {P : Program} (w : World) (a b r : List UInt8) (h : a.length + b.length ≤ 9223372036854775807) (hr : a ++ b = r) : (Op.stringOp .add (mk a) (mk b)).run P w = .ok (.string (mk r)) w :=
  cat_mk w a (mk b) r (by rw [mk_size]; exact h) (by rw [bytesL_mk']; exact hr)
set_option maxRecDepth 100000 in
set_option maxHeartbeats 2000000 in
theorem depth_step (n : Nat) (ih : ∀ m, m < n → DepP m) : DepP n := by
  intro bs hd h1000 A c S w h
  have hlen : bs.length ≤ maxLen := by obtain ⟨A0, c0, vs, e, h1, h2⟩ := h; exact h2.1.2
  unfold maxLen at hlen
  have HK := Lib.hid h
  have HIH := Lib.hid ih
  have HD := Lib.hid hd
  clear h ih hd
  go_enter Tryz.func18, Tryz.ntmps18
  go_wp2_with fail
  go_loop [3, 4, 7] (fun v3 v4 v7 => ∃ k : Nat, v7 = .int .i64 k ∧ v3 = .int .i64 ((depthL (bs.take k) : Nat) : Int) ∧ k ≤ bs.length) (fun _ _ v7 => bs.length - (intOf v7).toNat)
  case atStart => exact ⟨0, rfl, rfl, Nat.zero_le _⟩
  case round =>
    obtain ⟨k, rfl, rfl, hk⟩ := hrel
    by_cases hlt : k < bs.length
    · obtain ⟨g, o, rfl, -, hl⟩ := HK.out.look (by omega)
      obtain ⟨-, A', c', hc, hk'⟩ := hl k hlt
      have hcc : w.cell? ⟨g, o + k * 11 + 10, none⟩ = some (.slice A' (kidsT bs[k]).length c') := by rw [Nat.add_assoc]; exact hc
      have hat := depthL_at bs k hlt
      have htk := depth_take bs k hlt
      have htd : depthL (bs.take k) ≤ 1000 := by
        have : ∀ (j : Nat) (l : List BkT), depthL (l.take j) ≤ depthL l := by
          intro j l
          induction l generalizing j with
          | nil => cases j <;> exact Nat.le_refl _
          | cons b l ih =>
            cases j with
            | zero => exact Nat.zero_le _
            | succ j =>
              have := ih j
              show max (depthB b) (depthL (l.take j)) ≤ max (depthB b) (depthL l)
              omega
        exact Nat.le_trans (this k bs) h1000
      rw [depth_kids] at hat htk
      have HRe := Lib.hid (HIH.out (depthL (kidsT bs[k])) (by have := HD.out; omega) (kidsT bs[k]) (Nat.le_refl _) (by omega) A' c' S w hk')
      have HT := Lib.hid htk
      clear hl hc hk' htk
      generalize kidsT bs[k] = ks at *
      generalize hd1 : depthL (bs.take (k + 1)) = D1 at *
      have HD1 := Lib.hid hd1
      clear hd1
      generalize depthL (bs.take k) = D0 at *
      generalize depthL ks = D2 at *
      have HMx : ∀ w : World, (Builtin.max_ #[3, 3] 3 #[.int .i64 D0, .int .i64 (1 + (D2 : Int))]).run Tryz.prog w = .ok (.int .i64 (D1 : Int)) w := fun w => by
        have := HT.out
        rw [run_max_int2]
        congr 2
        split <;> omega
      go_wp2_with fail
      ((with_reducible refine (HRe.out).mono ?_))
      rintro e w2 ⟨rfl, rfl⟩
      go_wp2_with fail
      go_round
      case rel => exact ⟨k + 1, by go_num, by rw [HD1.out], by omega⟩
      case measure => simp [intOf]; omega
    · obtain rfl : k = bs.length := by omega
      go_wp2_with fail
      go_ret
      exact ⟨rfl, rfl⟩

theorem n_depth : ∀ n, DepP n := fun n => by
  induction n using Nat.strongRecOn with
  | ind n ih => exact depth_step n ih
set_option maxRecDepth 100000 in
set_option maxHeartbeats 2000000 in
theorem law7_deep_q (MM : Int) (n : Nat) (w : World) (hm : w.cell? ⟨0, 0, none⟩ = some (.int .i64 MM)) (hn : n < 256) :
    Calls Tryz.prog 8 #[.int .u8 (n : Nat), .bool false] w fun e w' => e = .returned (.bool true) ∧ Below w.heap.size w w' := by
  have hp0 := World.block_lt_of_cell? _ _ hm
  have HM : Hid (∀ W, Below w.heap.size w W → W.cell? ⟨0, 0, none⟩ = some (.int .i64 MM)) := Lib.hid fun W h => (h.cell (p := ⟨0, 0, none⟩) hp0).trans hm
  have HA : Hid (∀ W, Below w.heap.size w W → Calls Tryz.prog 11 #[] W fun e w' => e = .returned (.bool true) ∧ Below W.heap.size W w') := Lib.hid fun W h => l7_awake MM W (HM.out W h)
  obtain ⟨r, hrr⟩ : ∃ r, r = n % 20 := ⟨_, rfl⟩
  have hr20 : r < 20 := by omega
  have hri : (n : Int) % 20 = (r : Int) := by omega
  have HB0 := Lib.hid ((Below.refl _ w).alloc (Nat.le_refl _) (.cells #[.string (mk (deepL 62 r))] 9))
  have HP : Hid (Calls Tryz.prog 12 #[.slice (some ⟨w.heap.size, 0, none⟩) 1 1] (w.alloc (.cells #[.string (mk (deepL 62 r))] 9)) (NsPPost (blocksN 16 [mk (deepL 62 r)]) (w.alloc (.cells #[.string (mk (deepL 62 r))] 9)))) := Lib.hid (n_Parse [mk (deepL 62 r)] _ 1 MM _ (lines_lit w [mk (deepL 62 r)] MM hm (show 1 ≤ 10000 by decide) (fun z hz => by rw [List.mem_singleton.1 hz, mk_size, ← deep_reps, List.length_append, reps_len]; simp; omega)) (Nat.le_refl 1) (by decide))
  have hD := deep_quote r hr20 16
  have E1 : ∀ i w, i ≤ 20 → (Op.stringOp .add (mk (repsL 62 i)) ⟨#[62, 32]⟩).run Tryz.prog w = .ok (.string (mk (repsL 62 (i + 1)))) w := fun i w h => cat_twoD w _ [62, 32] _ (by rw [reps_len]; simp; omega) (reps_snoc _ _)
  have E2 : ∀ w, (Op.stringOp .add (mk (repsL 62 r)) ⟨#[97]⟩).run Tryz.prog w = .ok (.string (mk (deepL 62 r))) w := fun w => cat_twoD w _ [97] _ (by rw [reps_len]; simp; omega) (deep_reps _ _)
  have E0 : mk (repsL 62 0) = ⟨#[]⟩ := rfl
  have hBD : (r + 1 ≤ 16 ∧ ∃ b rr, blocksN 16 [mk (deepL 62 r)] = some ([b], rr) ∧ depthL [b] = r + 1) ∨ (16 < r + 1 ∧ blocksN 16 [mk (deepL 62 r)] = none) := by
    unfold DeepR at hD
    by_cases h : r + 1 ≤ 16
    · rw [if_pos h] at hD; exact .inl ⟨h, hD⟩
    · rw [if_neg h] at hD; exact .inr ⟨by omega, hD⟩
  clear hrr hD hm
  obtain ⟨f, hf⟩ : ∃ f : Nat → ByteArray, ∀ i, mk (repsL 62 i) = f i := ⟨_, fun _ => rfl⟩
  generalize mk (deepL 62 r) = G at *
  simp only [hf] at E0 E1 E2
  clear hf
  unfold NsPPost at HP
  rcases hBD with ⟨hle, b, rr, hb, hd⟩ | ⟨hgt, hb⟩
  · rw [hb] at HP
    clear hb
    have y1 : decide ((16 : Int) < (r : Int) + 1) = false := decide_eq_false (by omega)
    have y2 : (((depthL [b] : Nat) : Int) == (r : Int) + 1) = true := by rw [beq_iff_eq, hd]; omega
    have hd10 : depthL [b] ≤ 1000 := by omega
    have HDp : Hid (∀ W A c, KidsV W (fun _ => True) (.slice A 1 c) [b] → Calls Tryz.prog 18 #[.slice A 1 c] W fun e w' => e = .returned (.int .i64 ((depthL [b] : Nat) : Int)) ∧ W = w') := Lib.hid fun W A c h => n_depth _ [b] (Nat.le_refl _) hd10 A c _ W h
    clear hd hd10
    generalize depthL [b] = D at *
    go_enter Tryz.func8, Tryz.ntmps8
    go_wp2_with fail
    go_loop [6, 7] (fun v6 v7 => ∃ i : Nat, v6 = .string (f i) ∧ v7 = .int .i64 i ∧ i ≤ r) (fun _ v7 => r - (intOf v7).toNat)
    case atStart => exact ⟨0, by rw [E0], rfl, Nat.zero_le _⟩
    case round =>
      obtain ⟨i, rfl, rfl, hi⟩ := hrel
      have e1 := fun w => E1 i w (by omega)
      by_cases hir : i < r
      · go_wp2_with fail
        go_round
        case rel => exact ⟨i + 1, rfl, by go_num, by omega⟩
        case measure => simp [intOf]; omega
      · obtain rfl : i = r := by omega
        clear e1 E1
        go_wp2_with fail
        ((with_reducible refine (HP.out).mono ?_))
        rintro e w2 ⟨b2, A2, c2, rfl, hk, -⟩
        have HB2 := Lib.hid (HB0.out.trans (b2.mono HB0.out.size))
        have HK2 := Lib.hid (hk.keep (w' := w2) (S' := fun _ => True) (fun _ _ => rfl) fun _ _ => trivial)
        clear b2 hk
        go_wp2_with fail
        ((with_reducible refine (HDp.out _ _ _ HK2.out).mono ?_))
        rintro e w3 ⟨rfl, rfl⟩
        go_wp2_with fail
        ((with_reducible refine (HA.out _ HB2.out).mono ?_))
        rintro e w4 ⟨rfl, b4⟩
        go_wp2_with fail
        go_ret
        exact ⟨rfl, HB2.out.trans (b4.mono HB2.out.size)⟩
  · rw [hb] at HP
    clear hb
    simp only [] at HP
    have y1 : decide ((16 : Int) < (r : Int) + 1) = true := decide_eq_true (by omega)
    go_enter Tryz.func8, Tryz.ntmps8
    go_wp2_with fail
    go_loop [6, 7] (fun v6 v7 => ∃ i : Nat, v6 = .string (f i) ∧ v7 = .int .i64 i ∧ i ≤ r) (fun _ v7 => r - (intOf v7).toNat)
    case atStart => exact ⟨0, by rw [E0], rfl, Nat.zero_le _⟩
    case round =>
      obtain ⟨i, rfl, rfl, hi⟩ := hrel
      have e1 := fun w => E1 i w (by omega)
      by_cases hir : i < r
      · go_wp2_with fail
        go_round
        case rel => exact ⟨i + 1, rfl, by go_num, by omega⟩
        case measure => simp [intOf]; omega
      · obtain rfl : i = r := by omega
        clear e1 E1
        go_wp2_with fail
        ((with_reducible refine (HP.out).mono ?_))
        rintro e w2 ⟨b2, rfl⟩
        have HB2 := Lib.hid (HB0.out.trans (b2.mono HB0.out.size))
        clear b2
        go_wp2_with fail
        ((with_reducible refine (HA.out _ HB2.out).mono ?_))
        rintro e w4 ⟨rfl, b4⟩
        go_wp2_with fail
        go_ret
        exact ⟨rfl, HB2.out.trans (b4.mono HB2.out.size)⟩

set_option maxRecDepth 100000 in
set_option maxHeartbeats 2000000 in
theorem law7_deep_i (MM : Int) (n : Nat) (w : World) (hm : w.cell? ⟨0, 0, none⟩ = some (.int .i64 MM)) (hn : n < 256) :
    Calls Tryz.prog 8 #[.int .u8 (n : Nat), .bool true] w fun e w' => e = .returned (.bool true) ∧ Below w.heap.size w w' := by
  have hp0 := World.block_lt_of_cell? _ _ hm
  have HM : Hid (∀ W, Below w.heap.size w W → W.cell? ⟨0, 0, none⟩ = some (.int .i64 MM)) := Lib.hid fun W h => (h.cell (p := ⟨0, 0, none⟩) hp0).trans hm
  have HA : Hid (∀ W, Below w.heap.size w W → Calls Tryz.prog 11 #[] W fun e w' => e = .returned (.bool true) ∧ Below W.heap.size W w') := Lib.hid fun W h => l7_awake MM W (HM.out W h)
  obtain ⟨r, hrr⟩ : ∃ r, r = n % 20 := ⟨_, rfl⟩
  have hr20 : r < 20 := by omega
  have hri : (n : Int) % 20 = (r : Int) := by omega
  have HB0 := Lib.hid ((Below.refl _ w).alloc (Nat.le_refl _) (.cells #[.string (mk (deepL 45 r))] 9))
  have HP : Hid (Calls Tryz.prog 12 #[.slice (some ⟨w.heap.size, 0, none⟩) 1 1] (w.alloc (.cells #[.string (mk (deepL 45 r))] 9)) (NsPPost (blocksN 16 [mk (deepL 45 r)]) (w.alloc (.cells #[.string (mk (deepL 45 r))] 9)))) := Lib.hid (n_Parse [mk (deepL 45 r)] _ 1 MM _ (lines_lit w [mk (deepL 45 r)] MM hm (show 1 ≤ 10000 by decide) (fun z hz => by rw [List.mem_singleton.1 hz, mk_size, ← deep_reps, List.length_append, reps_len]; simp; omega)) (Nat.le_refl 1) (by decide))
  have hD := deep_items r hr20 8
  have E1 : ∀ i w, i ≤ 20 → (Op.stringOp .add (mk (repsL 45 i)) ⟨#[45, 32]⟩).run Tryz.prog w = .ok (.string (mk (repsL 45 (i + 1)))) w := fun i w h => cat_twoD w _ [45, 32] _ (by rw [reps_len]; simp; omega) (reps_snoc _ _)
  have E2 : ∀ w, (Op.stringOp .add (mk (repsL 45 r)) ⟨#[97]⟩).run Tryz.prog w = .ok (.string (mk (deepL 45 r))) w := fun w => cat_twoD w _ [97] _ (by rw [reps_len]; simp; omega) (deep_reps _ _)
  have E0 : mk (repsL 45 0) = ⟨#[]⟩ := rfl
  have hBD : (2 * r + 1 ≤ 16 ∧ ∃ b rr, blocksN 16 [mk (deepL 45 r)] = some ([b], rr) ∧ depthL [b] = 2 * r + 1) ∨ (16 < 2 * r + 1 ∧ blocksN 16 [mk (deepL 45 r)] = none) := by
    unfold DeepR at hD
    by_cases h : 2 * r + 1 ≤ 16
    · rw [if_pos h] at hD; exact .inl ⟨h, hD⟩
    · rw [if_neg h] at hD; exact .inr ⟨by omega, hD⟩
  clear hrr hD hm
  obtain ⟨f, hf⟩ : ∃ f : Nat → ByteArray, ∀ i, mk (repsL 45 i) = f i := ⟨_, fun _ => rfl⟩
  generalize mk (deepL 45 r) = G at *
  simp only [hf] at E0 E1 E2
  clear hf
  unfold NsPPost at HP
  rcases hBD with ⟨hle, b, rr, hb, hd⟩ | ⟨hgt, hb⟩
  · rw [hb] at HP
    clear hb
    have y1 : decide ((16 : Int) < 2 * (r : Int) + 1) = false := decide_eq_false (by omega)
    have y2 : (((depthL [b] : Nat) : Int) == 2 * (r : Int) + 1) = true := by rw [beq_iff_eq, hd]; omega
    have hd10 : depthL [b] ≤ 1000 := by omega
    have HDp : Hid (∀ W A c, KidsV W (fun _ => True) (.slice A 1 c) [b] → Calls Tryz.prog 18 #[.slice A 1 c] W fun e w' => e = .returned (.int .i64 ((depthL [b] : Nat) : Int)) ∧ W = w') := Lib.hid fun W A c h => n_depth _ [b] (Nat.le_refl _) hd10 A c _ W h
    clear hd hd10
    generalize depthL [b] = D at *
    go_enter Tryz.func8, Tryz.ntmps8
    go_wp2_with fail
    go_loop [6, 7] (fun v6 v7 => ∃ i : Nat, v6 = .string (f i) ∧ v7 = .int .i64 i ∧ i ≤ r) (fun _ v7 => r - (intOf v7).toNat)
    case atStart => exact ⟨0, by rw [E0], rfl, Nat.zero_le _⟩
    case round =>
      obtain ⟨i, rfl, rfl, hi⟩ := hrel
      have e1 := fun w => E1 i w (by omega)
      by_cases hir : i < r
      · go_wp2_with fail
        go_round
        case rel => exact ⟨i + 1, rfl, by go_num, by omega⟩
        case measure => simp [intOf]; omega
      · obtain rfl : i = r := by omega
        clear e1 E1
        go_wp2_with fail
        ((with_reducible refine (HP.out).mono ?_))
        rintro e w2 ⟨b2, A2, c2, rfl, hk, -⟩
        have HB2 := Lib.hid (HB0.out.trans (b2.mono HB0.out.size))
        have HK2 := Lib.hid (hk.keep (w' := w2) (S' := fun _ => True) (fun _ _ => rfl) fun _ _ => trivial)
        clear b2 hk
        go_wp2_with fail
        ((with_reducible refine (HDp.out _ _ _ HK2.out).mono ?_))
        rintro e w3 ⟨rfl, rfl⟩
        go_wp2_with fail
        ((with_reducible refine (HA.out _ HB2.out).mono ?_))
        rintro e w4 ⟨rfl, b4⟩
        go_wp2_with fail
        go_ret
        exact ⟨rfl, HB2.out.trans (b4.mono HB2.out.size)⟩
  · rw [hb] at HP
    clear hb
    simp only [] at HP
    have y1 : decide ((16 : Int) < 2 * (r : Int) + 1) = true := decide_eq_true (by omega)
    go_enter Tryz.func8, Tryz.ntmps8
    go_wp2_with fail
    go_loop [6, 7] (fun v6 v7 => ∃ i : Nat, v6 = .string (f i) ∧ v7 = .int .i64 i ∧ i ≤ r) (fun _ v7 => r - (intOf v7).toNat)
    case atStart => exact ⟨0, by rw [E0], rfl, Nat.zero_le _⟩
    case round =>
      obtain ⟨i, rfl, rfl, hi⟩ := hrel
      have e1 := fun w => E1 i w (by omega)
      by_cases hir : i < r
      · go_wp2_with fail
        go_round
        case rel => exact ⟨i + 1, rfl, by go_num, by omega⟩
        case measure => simp [intOf]; omega
      · obtain rfl : i = r := by omega
        clear e1 E1
        go_wp2_with fail
        ((with_reducible refine (HP.out).mono ?_))
        rintro e w2 ⟨b2, rfl⟩
        have HB2 := Lib.hid (HB0.out.trans (b2.mono HB0.out.size))
        clear b2
        go_wp2_with fail
        ((with_reducible refine (HA.out _ HB2.out).mono ?_))
        rintro e w4 ⟨rfl, b4⟩
        go_wp2_with fail
        go_ret
        exact ⟨rfl, HB2.out.trans (b4.mono HB2.out.size)⟩

theorem law7_deep (MM : Int) (n : Nat) (q : Bool) (w : World) (hm : w.cell? ⟨0, 0, none⟩ = some (.int .i64 MM)) (hn : n < 256) :
    Calls Tryz.prog 8 #[.int .u8 (n : Nat), .bool q] w fun e w' => e = .returned (.bool true) ∧ Below w.heap.size w w' := by
  cases q
  · exact law7_deep_q MM n w hm hn
  · exact law7_deep_i MM n w hm hn
end Go.Proofs.YtpoafhgbhnblmaaGreatDoor
