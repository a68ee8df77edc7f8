/-
  Texts of the proof, put together (what this law reaches): EmL, MidC, EmM, EmN, EmO, EmP, EmT.
-/
import Derived.Test.YtfnloonmeilhlaaP04
import Derived.Test.YtfnloonmeilhlaaP03
import Derived.Deep.MidRow
import Derived.Deep.AppendLies
import Derived.Deep.CutBlock
import Derived.Test.YtfnloonmeilhlaaP02
set_option linter.unusedVariables false
set_option linter.unusedSimpArgs false
namespace Go.Pub
theorem popW_snoc (k x : Nat) (l : List Nat) : popW k (l ++ [x]) = if k < x then popW k l else l ++ [x] := by
  unfold popW
  rw [List.reverse_append, List.reverse_singleton, List.singleton_append, List.dropWhile_cons]
  by_cases h : k < x
  · rw [if_pos h, if_pos (decide_eq_true h)]
  · rw [if_neg h, if_neg (by simpa using h), List.reverse_cons, List.reverse_reverse]
/-- The lists of openers, the first n of them shortened. -/
def exclO (last n : Nat) (ops : Nat → List Nat) : Nat → List Nat := fun j => if j < n then popW last (ops j) else ops j
theorem exclO_succ (last n : Nat) (ops : Nat → List Nat) (j : Nat) : exclO last (n + 1) ops j = if j = n then popW last (ops n) else exclO last n ops j := by
  unfold exclO
  by_cases h : j = n
  · subst h; rw [if_pos (by omega), if_pos rfl]
  · rw [if_neg h]
    by_cases h2 : j < n
    · rw [if_pos (by omega), if_pos h2]
    · rw [if_neg (by omega), if_neg h2]
theorem exclO_at (last n : Nat) (ops : Nat → List Nat) : exclO last n ops n = ops n := by unfold exclO; rw [if_neg (by omega)]
end Go.Pub
namespace Go.Proofs.Ytfnloonmeilhlaa
open Go.RowKit Go.Pub
/-- Blocks that are known to stay. -/
def KpS (S : Nat → Prop) (w w' : World) : Prop := ∀ q, S q → w'.heap[q]? = w.heap[q]?
/-- Lists of openers in memory: what is left of EmR when elements and matches stay. -/
def ExPost (base p : Nat) (L vE vP : Value) (S : Nat → Prop) (vs : List (Array Value)) (st' : EmS) (w : World) (e : Ending) (w' : World) : Prop :=
  ∃ vO', e = .returned (.tuple #[]) ∧ EmR w' base p L vE vO' vP S vs st' ∧ Below base w w' ∧ KpS S w w'
theorem own_cap {w : World} {base n m s : Nat} {e : TypeId} {A : Option Addr} {c : Nat} {xs : List Value} (h : w.ownsRow base e s (.slice A n c) m xs) : m ≤ c := by
  rcases h.2 with ⟨e, h0⟩ | ⟨g', cap', cur, e, h0, hg, h1, _⟩
  · omega
  · injection e with e1 e2 e3
    omega
theorem own_prefix {w : World} {base n m : Nat} {e : TypeId} {A : Option Addr} {c : Nat} {l : List Nat} (h : w.ownsRow base e 1 (.slice A n c) n (intsV l)) (hm : m ≤ n) : w.ownsRow base e 1 (.slice A m c) m (intsV (l.take m)) := by
  have hl : l.length = n := by have := h.1; rw [intsV_len] at this; omega
  refine ⟨by rw [intsV_len, List.length_take]; omega, ?_⟩
  rcases h.2 with ⟨e, h0⟩ | ⟨g', cap', cur, e, h0, hg, h1, h2, h3, h4⟩
  · injection e with e1 e2 e3
    subst e1; subst e3
    exact .inl ⟨by rw [show m = 0 by omega], by omega⟩
  · injection e with e1 e2 e3
    subst e1; subst e3
    refine .inr ⟨g', c, cur, rfl, h0, hg, by omega, h2, h3, ?_⟩
    have : intsV (l.take m) = (intsV l).take m := by unfold intsV; rw [List.map_take]
    rw [this, ← h4, List.take_take]
    congr 1; omega
section
variable {w w' : World} {base p : Nat} {L vE vP : Value} {vO : Nat → Value} {S : Nat → Prop} {vs : List (Array Value)} {st : EmS}
theorem EmR.opsEq (h : EmR w base p L vE vO vP S vs st) {ops' : Nat → List Nat} (he : ∀ j, j < 18 → ops' j = st.ops j) : EmR w base p L vE vO vP S vs { st with ops := ops' } :=
  ⟨h.bp, h.cel, h.els, h.rep, fun j hj => by show World.ownsRow _ _ _ _ _ (ops' j).length (intsV (ops' j)); rw [he j hj]; exact h.ops j hj, h.prs, h.apart, h.low, h.fro⟩
theorem EmR.setOp (h : EmR w base p L vE vO vP S vs st) (j : Nat) (hj : j < 18) {v : Value} {l : List Nat} (hv : w.ownsRow base 3 1 v l.length (intsV l)) (hb : v.ownBlock = none ∨ v.ownBlock = (vO j).ownBlock) :
    EmR (w.setCell ⟨p, 2 + j, none⟩ v) base p L vE (fun i => if i = j then v else vO i) vP S vs { st with ops := fun i => if i = j then l else st.ops i } ∧ Below base w (w.setCell ⟨p, 2 + j, none⟩ v) ∧ ∀ q, S q → (w.setCell ⟨p, 2 + j, none⟩ v).heap[q]? = w.heap[q]? := by
  obtain ⟨cs, hbk, _⟩ := h.cel.blk
  have hkeep : ∀ {n s : Nat} {t : TypeId} {u : Value} {x : List Value}, w.ownsRow base t s u n x → t ≠ 69 → (w.setCell ⟨p, 2 + j, none⟩ v).ownsRow base t s u n x := fun ho h2 =>
    ho.kept (row := some p) ⟨rfl, rfl, rfl, by simp [World.setCell], fun k _ hk => Below.heap_setCell w ⟨p, 2 + j, none⟩ _ k (fun e => hk (by rw [e]))⟩ (.inr (own_blk ho hbk h2))
  refine ⟨⟨h.bp, h.cel.setO j hj v, hkeep h.els (by decide), h.rep.keep (fun k hk => Below.heap_setCell w ⟨p, 2 + j, none⟩ _ k (h.notS hk).1) fun _ h => h, fun i hi => ?_, hkeep h.prs (by decide), fun i k hi hk hne => ?_, h.low, fun k hk => ⟨by simpa [World.setCell] using (h.fro k hk).1, fun hbk => ?_⟩⟩, (Below.refl _ w).setCell (p := ⟨p, 2 + j, none⟩) h.bp v, fun q hq => Below.heap_setCell w ⟨p, 2 + j, none⟩ _ q (h.notS hq).1⟩
  · by_cases hij : i = j
    · subst hij
      show World.ownsRow _ _ _ _ (if i = i then v else vO i) (if i = i then l else st.ops i).length (intsV (if i = i then l else st.ops i))
      rw [if_pos rfl, if_pos rfl]
      exact hkeep hv (by decide)
    · show World.ownsRow _ _ _ _ (if i = j then v else vO i) (if i = j then l else st.ops i).length (intsV (if i = j then l else st.ops i))
      rw [if_neg hij, if_neg hij]
      exact hkeep (h.ops i hi) (by decide)
  · show (if i = j then v else vO i).ownBlock = none ∨ (if i = j then v else vO i).ownBlock ≠ (if k = j then v else vO k).ownBlock
    by_cases hij : i = j
    · rw [if_pos hij, if_neg (by omega)]
      rcases hb with hb | hb
      · exact .inl hb
      · rw [hb]; exact h.apart j k hj hk (by omega)
    · rw [if_neg hij]
      by_cases hkj : k = j
      · rw [if_pos hkj]
        rcases h.apart i j hi hj hij with hh | hh
        · exact .inl hh
        · rcases hb with hb | hb
          · rw [hb]
            cases hx : (vO i).ownBlock with
            | none => exact .inl rfl
            | some q => exact .inr (by simp)
          · rw [hb]; exact .inr hh
      · rw [if_neg hkj]; exact h.apart i k hi hk hne
  · obtain ⟨n1, n2, n3, n4⟩ := h.notS hk
    refine ⟨n1, n2, fun i hi => ?_, n4⟩
    show (if i = j then v else vO i).ownBlock ≠ some k
    by_cases hij : i = j
    · rw [if_pos hij]
      rcases hb with hb | hb
      · rw [hb]; simp
      · rw [hb]; exact n3 j hj
    · rw [if_neg hij]; exact n3 i hi
end
set_option maxRecDepth 100000 in
set_option maxHeartbeats 4000000 in
theorem e_exclude {base p : Nat} {L vE vP : Value} {vO : Nat → Value} {S : Nat → Prop} {vs : List (Array Value)} {st : EmS} (w : World) (h : EmR w base p L vE vO vP S vs st) (last : Nat) :
    Calls Try.prog 60 #[.pointer (some ⟨p, 0, none⟩), .int .i64 last] w (ExPost base p L vE vP S vs { st with ops := fun j => popW last (st.ops j) } w) := by
  have h0 : EmR w base p L vE vO vP S vs { st with ops := exclO last 0 st.ops } := h.opsEq (fun j _ => by unfold exclO; rw [if_neg (by omega)])
  have H0 : Hid (∃ vO', EmR w base p L vE vO' vP S vs { st with ops := exclO last 0 st.ops } ∧ Below base w w ∧ KpS S w w) := Lib.hid ⟨_, h0, Below.refl _ _, fun _ _ => rfl⟩
  clear h h0
  go_enter Try.func60, Try.ntmps60
  go_wp2_with fail
  go_loopw [8] (fun v8 wr => ∃ c : Nat, c ≤ 3 ∧ v8 = .int .i64 c ∧ Hid (∃ vO', EmR wr base p L vE vO' vP S vs { st with ops := exclO last (c * 6) st.ops } ∧ Below base w wr ∧ KpS S w wr)) (fun v8 _ => 3 - (intOf v8).toNat)
  case atStart => exact ⟨0, by omega, rfl, H0⟩
  case round =>
    clear H0
    obtain ⟨c, hc, rfl, HI⟩ := hrel
    rename World => w1
    by_cases hc3 : c < 3
    · have hci : (c : Int) < 3 := by omega
      have hc0 : (0 : Int) ≤ (c : Int) := by omega
      go_wp2_with fail
      go_loopw [11] (fun v11 wr => ∃ d : Nat, d ≤ 3 ∧ v11 = .int .i64 d ∧ Hid (∃ vO', EmR wr base p L vE vO' vP S vs { st with ops := exclO last (c * 6 + d * 2) st.ops } ∧ Below base w wr ∧ KpS S w wr)) (fun v11 _ => 3 - (intOf v11).toNat)
      case atStart => exact ⟨0, by omega, rfl, HI⟩
      case round =>
        clear HI
        obtain ⟨d, hd, rfl, HI⟩ := hrel
        rename World => w2
        by_cases hd3 : d < 3
        · have hdi : (d : Int) < 3 := by omega
          have hd0 : (0 : Int) ≤ (d : Int) := by omega
          go_wp2_with fail
          go_loopw [14] (fun v14 wr => ∃ b : Nat, b ≤ 2 ∧ v14 = .int .i64 b ∧ Hid (∃ vO', EmR wr base p L vE vO' vP S vs { st with ops := exclO last (c * 6 + d * 2 + b) st.ops } ∧ Below base w wr ∧ KpS S w wr)) (fun v14 _ => 2 - (intOf v14).toNat)
          case atStart => exact ⟨0, by omega, rfl, HI⟩
          case round =>
            clear HI
            obtain ⟨b, hb, rfl, HI⟩ := hrel
            rename World => w3
            by_cases hb2 : b < 2
            · have hbi : (b : Int) < 2 := by omega
              have hb0 : (0 : Int) ≤ (b : Int) := by omega
              obtain ⟨vO', hE, hB, hKp⟩ := HI.out
              have hj : c * 6 + d * 2 + b < 18 := by omega
              have hcell := hE.cel.cO _ hj
              have hfz := hE.cel.frozen (2 + (c * 6 + d * 2 + b))
              rw [show 2 + (c * 6 + d * 2 + b) = 2 + c * 6 + d * 2 + b by omega] at hcell hfz
              have hown : w3.ownsRow base 3 1 (vO' (c * 6 + d * 2 + b)) (st.ops (c * 6 + d * 2 + b)).length (intsV (st.ops (c * 6 + d * 2 + b))) := by
                have := hE.ops _ hj
                rw [show EmS.ops _ = exclO last (c * 6 + d * 2 + b) st.ops from rfl, exclO_at] at this
                exact this
              obtain ⟨A, ca, hv, hlm, hA⟩ := own_form hown
              unfold maxLen at hlm
              rw [hv] at hcell hown
              have HE := Lib.hid hE
              have HV := Lib.hid hv
              have HB := Lib.hid hB
              have HKp := Lib.hid hKp
              have hcap := own_cap hown
              have HO := Lib.hid hown
              have HA := Lib.hid hA
              have HX := Lib.hid (exclO_succ last (c * 6 + d * 2 + b) st.ops)
              clear hE hv hB hown hA HI hKp
              generalize hlo : st.ops (c * 6 + d * 2 + b) = lo at *
              have HLO := Lib.hid hlo
              clear hlo
              go_wp2_with fail
              go_loop [7] (fun v7 => ∃ m : Nat, m ≤ lo.length ∧ v7 = .slice A m ca ∧ Hid (popW last (lo.take m) = popW last lo)) (fun v7 => match v7 with | .slice _ n _ => n | _ => 0)
              case atStart => exact ⟨lo.length, Nat.le_refl _, rfl, Lib.hid (by rw [List.take_length])⟩
              case round =>
                obtain ⟨m, hm, rfl, HT⟩ := hrel
                have HEND : Hid (popW last lo = lo.take m → ∀ W, W = w3.setCell ⟨p, 2 + c * 6 + d * 2 + b, none⟩ (.slice A m ca) → ∃ vO'', EmR W base p L vE vO'' vP S vs { st with ops := exclO last (c * 6 + d * 2 + (b + 1)) st.ops } ∧ Below base w W ∧ KpS S w W) := Lib.hid fun hp W hW => by
                  subst hW
                  obtain ⟨q1, q2, q3⟩ := HE.out.setOp _ hj (v := .slice A m ca) (l := lo.take m) (by
                    have := own_prefix HO.out hm
                    rwa [show (lo.take m).length = m by rw [List.length_take]; omega]) (.inr (by rw [HV.out]; cases A <;> rfl))
                  rw [show 2 + (c * 6 + d * 2 + b) = 2 + c * 6 + d * 2 + b by omega] at q1 q2 q3
                  refine ⟨_, q1.opsEq (ops' := exclO last (c * 6 + d * 2 + (b + 1)) st.ops) (fun j hj => ?_), HB.out.trans q2, fun q hq => (q3 q hq).trans (HKp.out q hq)⟩
                  rw [show c * 6 + d * 2 + (b + 1) = c * 6 + d * 2 + b + 1 by omega, HX.out, hp]
                rcases m with _ | j
                · have HF := Lib.hid (HEND.out (by rw [← HT.out]; rfl) _ rfl)
                  clear HEND
                  go_wp2_with fail
                  go_roundw
                  case rel => exact ⟨b + 1, by omega, by go_num, HF⟩
                  case measure => simp [intOf]; omega
                · have hjl : j < lo.length := hm
                  obtain ⟨gg, hA', hgo, hc2⟩ := HA.out (by omega)
                  subst hA'
                  have hcj : w3.cell? ⟨gg, j, none⟩ = some (.int .i64 (lo[j] : Nat)) := hc2 j _ (by unfold intsV; simp [hjl])
                  have hts : lo.take (j + 1) = lo.take j ++ [lo[j]] := List.take_succ_eq_append_getElem hjl
                  have HP := Lib.hid (popW_snoc last lo[j] (lo.take j))
                  rw [← hts] at HP
                  have hji : (j : Int) < (lo.length : Int) := by omega
                  have hjc : j ≤ ca := by omega
                  have hj0 : (0 : Int) ≤ (j : Int) := by omega
                  have e1 : ((j + 1 : Nat) : Int) - 1 = (j : Int) := by omega
                  clear hc2 hts
                  generalize lo[j] = x at *
                  by_cases hx : last < x
                  · have d1 : decide (x > last) = true := decide_eq_true hx
                    have d2 : decide (last < x) = true := decide_eq_true hx
                    have HF : Hid (popW last (lo.take j) = popW last lo) := Lib.hid (by rw [← HT.out, HP.out, if_pos hx])
                    clear HEND HP HT
                    go_wp2_with fail
                    go_round
                    case rel => exact ⟨j, by omega, rfl, HF⟩
                    case measure => simp
                  · have d1 : decide (x > last) = false := decide_eq_false hx
                    have d2 : decide (last < x) = false := decide_eq_false hx
                    have HF := Lib.hid (HEND.out (by rw [← HT.out, HP.out, if_neg hx]) _ rfl)
                    clear HEND HP HT
                    go_wp2_with fail
                    go_roundw
                    case rel => exact ⟨b + 1, by omega, by go_num, HF⟩
                    case measure => simp [intOf]; omega
            · obtain rfl : b = 2 := by omega
              have HF : Hid (∃ vO', EmR w3 base p L vE vO' vP S vs { st with ops := exclO last (c * 6 + (d + 1) * 2) st.ops } ∧ Below base w w3 ∧ KpS S w w3) := Lib.hid (by rw [show c * 6 + (d + 1) * 2 = c * 6 + d * 2 + 2 by omega]; exact HI.out)
              clear HI
              go_wp2_with fail
              go_roundw
              case rel => exact ⟨d + 1, by omega, by go_num, HF⟩
              case measure => simp [intOf]; omega
        · obtain rfl : d = 3 := by omega
          have HF : Hid (∃ vO', EmR w2 base p L vE vO' vP S vs { st with ops := exclO last ((c + 1) * 6) st.ops } ∧ Below base w w2 ∧ KpS S w w2) := Lib.hid (by rw [show (c + 1) * 6 = c * 6 + 3 * 2 by omega]; exact HI.out)
          clear HI
          go_wp2_with fail
          go_roundw
          case rel => exact ⟨c + 1, by omega, by go_num, HF⟩
          case measure => simp [intOf]; omega
    · obtain rfl : c = 3 := by omega
      go_wp2_with fail
      go_end0
      obtain ⟨vO', q1, q2⟩ := HI.out
      exact ⟨vO', rfl, q1.opsEq (fun j hj => by show popW last (st.ops j) = exclO last 18 st.ops j; unfold exclO; rw [if_pos hj]), q2⟩

end Go.Proofs.Ytfnloonmeilhlaa
namespace Go.Pub
open Go.RowKit
/-- A list with others set from o on. -/
def setL : List Value → Nat → List Value → List Value
  | xs, _, [] => xs
  | xs, o, v :: r => setL (xs.set o v) (o + 1) r
theorem setL_app : ∀ (vs a b : List Value), b.length = vs.length → setL (a ++ b) a.length vs = a ++ vs
  | [], a, b, h => by
    have : b = [] := List.length_eq_zero_iff.1 h
    subst this; rfl
  | v :: r, a, b, h => by
    cases b with
    | nil => cases h
    | cons x b =>
      unfold setL
      rw [List.set_append_right _ _ (Nat.le_refl _), Nat.sub_self, List.set_cons_zero]
      have e : a ++ v :: b = (a ++ [v]) ++ b := by simp
      rw [e, show a.length + 1 = (a ++ [v]).length by simp, setL_app r (a ++ [v]) b (by simpa using h)]
      simp
theorem heap_setCells (g k : Nat) (h : k ≠ g) : ∀ (vs : List Value) (o : Nat) (W : World), (W.setCells g o vs).heap[k]? = W.heap[k]?
  | [], _, _ => rfl
  | v :: r, o, W => by
    rw [World.setCells, heap_setCells g k h r (o + 1) _]
    exact Below.heap_setCell W ⟨g, o, none⟩ v k h
theorem size_setCells (g : Nat) : ∀ (vs : List Value) (o : Nat) (W : World), (W.setCells g o vs).heap.size = W.heap.size
  | [], _, _ => rfl
  | v :: r, o, W => by
    rw [World.setCells, size_setCells g r (o + 1) _]
    simp [World.setCell]
theorem below_setCells {B : Nat} {w : World} (g : Nat) (hg : B ≤ g) : ∀ (vs : List Value) (o : Nat) (W : World), Below B w W → Below B w (W.setCells g o vs)
  | [], _, _, h => h
  | v :: r, o, W, h => by
    rw [World.setCells]
    exact below_setCells g hg r (o + 1) _ (h.setCell (p := ⟨g, o, none⟩) hg v)
theorem own_setCells {base : Nat} {e : TypeId} {size g cap n : Nat} : ∀ (vs : List Value) (o : Nat) (xs : List Value) (W : World), W.ownsRow base e size (.slice (some ⟨g, 0, none⟩) n cap) n xs → (W.setCells g o vs).ownsRow base e size (.slice (some ⟨g, 0, none⟩) n cap) n (setL xs o vs)
  | [], _, _, _, h => h
  | v :: r, o, xs, W, h => by
    rw [World.setCells]
    unfold setL
    exact own_setCells r (o + 1) _ _ (h.stored o v).1
end Go.Pub
namespace Go.Pub
theorem repL_eq (c : ByteArray) : ∀ n, Lib.repeatL c.data.toList n = repB c n
  | 0 => rfl
  | n + 1 => by
    show c.data.toList ++ Lib.repeatL c.data.toList n = _
    rw [repL_eq c n]
    show _ = c.toList ++ repB c n
    rw [Lib.toList_data]
end Go.Pub
namespace Go.Proofs.Ytfnloonmeilhlaa
open Go.RowKit Go.Pub
set_option maxRecDepth 100000 in
theorem inl_info : (Try.prog.info? 37).map (fun i => (i.zero, i.size, i.bytes)) = some (some (.agg #[.int .i64 0, .string ⟨#[]⟩, .string ⟨#[]⟩, .string ⟨#[]⟩, .string ⟨#[]⟩, .slice none 0 0, .slice none 0 0, .slice none 0 0, .slice none 0 0, .slice none 0 0]), 10, 192) := by kernel_rfl

theorem inl_size : (Try.prog.info? 37).map (·.size) = some 10 := by
  obtain ⟨i0, hi0, hz0, hz1, hz2⟩ := info_parts inl_info
  rw [hi0]; show some i0.size = _; rw [hz1]
set_option maxRecDepth 100000 in
theorem inl_fill (x0 x1 x2 x3 x4 x5 x6 x7 x8 x9 : Value) : Instr.fill (fun i => some (i * 10, 10)) ((Array.range (1 * 10)).map ((Value.agg #[.int .i64 0, .string ⟨#[]⟩, .string ⟨#[]⟩, .string ⟨#[]⟩, .string ⟨#[]⟩, .slice none 0 0, .slice none 0 0, .slice none 0 0, .slice none 0 0, .slice none 0 0]).cells[· % (Value.agg #[.int .i64 0, .string ⟨#[]⟩, .string ⟨#[]⟩, .string ⟨#[]⟩, .string ⟨#[]⟩, .slice none 0 0, .slice none 0 0, .slice none 0 0, .slice none 0 0, .slice none 0 0]).cells.size]!)) [(0, .agg #[x0, x1, x2, x3, x4, x5, x6, x7, x8, x9])] = some #[x0, x1, x2, x3, x4, x5, x6, x7, x8, x9] := by kernel_rfl

/-- A slice of one inline is laid. -/
theorem step_inSlice {ops : Array Oper} {o : Oper} {a : Act} {w : World} {K : Act → World → Prop} {Q : Exit → Act → World → Prop} {E : Prop} (hgd : o.guard = none) (x : Operand) (ho : o.op = .buildSlice 26 1 #[(0, x)])
    (x0 x1 x2 x3 x4 x5 x6 x7 x8 x9 : Value) (hx : a.eval x = .agg #[x0, x1, x2, x3, x4, x5, x6, x7, x8, x9])
    (h : K (a.put o.dst (.slice (some ⟨w.heap.size, 0, none⟩) 1 1)) (w.alloc (.cells #[x0, x1, x2, x3, x4, x5, x6, x7, x8, x9] 37))) :
    if Region.wanted o (yielded ops a.tmps) = true then Oper.wp Try.prog o a w K Q else E := by
  have hw : Region.wanted o (yielded ops a.tmps) = true := by simp [Region.wanted, hgd]
  rw [if_pos hw]
  obtain ⟨i0, hi0, hz0, hz1, hz2⟩ := info_parts inl_info
  refine wp_buildSlice 26 37 1 _ ho _ i0 _ Try.underlying26 hi0 hz0 (by rw [hz1]; decide) (by rw [hz1]; decide) ?_ h
  rw [hz1]
  have e : (#[((0 : Nat), x)].map fun (q : Nat × Operand) => (q.1, a.eval q.2)).toList = [(0, a.eval x)] := by simp
  rw [hx] at e
  show Instr.fill _ _ (#[((0 : Nat), x)].map fun (q : Nat × Operand) => (q.1, a.eval q.2)).toList = _
  rw [e]
  exact inl_fill x0 x1 x2 x3 x4 x5 x6 x7 x8 x9
/-- What the closure leaves. -/
def Bet1Post (B sb ob n : Nat) (S : Nat → Prop) (xs : List Value) (t : InT) (w : World) (e : Ending) (w' : World) : Prop :=
  ∃ g cap v, e = .returned (.tuple #[]) ∧ RepI w' S v t ∧ Blk w' ob 26 #[.slice (some ⟨g, 0, none⟩) (n + 1) cap] ∧ w'.ownsRow B 37 10 (.slice (some ⟨g, 0, none⟩) (n + 1) cap) (n + 1) (xs ++ v.toList) ∧ Below B w w' ∧ w'.heap[sb]? = w.heap[sb]?
/-- What the closure leaves, whichever of its two stores comes first. -/
theorem bet1_end {B sb ob n g2 cap2 : Nat} {S : Nat → Prop} {xs zs : List Value} {v : Value} {t : InT} {w W3 w2 : World} {u : Array Value} {cs : Array Value} {x : Obj} (hu : u.toList.length = 10) (hob : Blk w ob 26 #[v]) (hsb : Blk w sb 56 cs) (hso : sb ≠ ob) (hBs : B ≤ sb) (hBo : B ≤ ob) (hSB : ∀ g, S g → g < B)
    (hBw : B ≤ w.heap.size) (hown0 : w.ownsRow B 37 10 v n xs) (q1 : Below w.heap.size w W3) (q3 : RepI W3 S u t) (hown : w2.ownsRow B 37 10 (.slice (some ⟨g2, 0, none⟩) (n + 1) cap2) (n + 1) (xs ++ zs)) (hz : zs.length = 10) (hgrow : (W3.drew.alloc x).grownBy w2 v.ownBlock) :
    Blk w2 ob 26 #[v] ∧ g2 ≠ ob ∧ w2.there g2 (n * 10) 10 ∧ w2.heap[w.heap.size]? = (W3.drew.alloc x).heap[w.heap.size]? ∧ ∀ W5, (W5 = (w2.setCells g2 (n * 10) u.toList).setCell ⟨ob, 0, none⟩ (.slice (some ⟨g2, 0, none⟩) (n + 1) cap2) ∨ W5 = (w2.setCell ⟨ob, 0, none⟩ (.slice (some ⟨g2, 0, none⟩) (n + 1) cap2)).setCells g2 (n * 10) u.toList) → Bet1Post B sb ob n S xs t w (.returned (.tuple #[])) W5 := by
  have hxl : xs.length = n * 10 := hown0.1
  have hal : Below w.heap.size w (W3.drew.alloc x) := (q1.drew).alloc (by have := q1.size; show w.heap.size ≤ W3.heap.size; omega) x
  have hlt := hown0.lt
  have hvo : v.ownBlock ≠ some ob := own_blk hown0 hob (by decide)
  have hvs : v.ownBlock ≠ some sb := own_blk hown0 hsb (by decide)
  have hb2 : ∀ k, k < w.heap.size → v.ownBlock ≠ some k → w2.heap[k]? = w.heap[k]? := fun k hk hne => (hgrow.block k (by have := hal.size; omega) (fun e => hne e.symm)).trans (hal.block k hk)
  have hob2 : Blk w2 ob 26 #[v] := (hb2 ob hob.lt hvo).trans hob
  have hsb2 : Blk w2 sb 56 cs := (hb2 sb hsb.lt hvs).trans hsb
  have hgo : g2 ≠ ob := fun e => own_blk hown hob2 (by decide) (by rw [e]; rfl)
  have hgs : g2 ≠ sb := fun e => own_blk hown hsb2 (by decide) (by rw [e]; rfl)
  have hBg : B ≤ g2 := (hown.lt g2 rfl).1
  have hth : w2.there g2 (n * 10) 10 := fun j hj => by
    refine ⟨?_, hown.frozenAt _⟩
    rw [hown.cellAt _ (by omega), List.getElem?_eq_getElem (by rw [List.length_append]; omega)]
    rfl
  have hBel2 : Below B w w2 := ⟨hgrow.os.trans hal.os, hgrow.tape.trans hal.tape, hgrow.output.trans hal.output, by have := hgrow.size; have := hal.size; omega, fun k hk => hb2 k (by omega) (fun e => by have := (hlt k e).1; omega)⟩
  refine ⟨hob2, hgo, hth, hgrow.block w.heap.size (by rw [World.size_alloc]; have := q1.size; show w.heap.size < W3.heap.size + 1; omega) (fun e => by have := (hlt _ e.symm).2; omega), fun W5 hW => ?_⟩
  have hq3 : ∀ W5 : World, Below B w W5 → RepI W5 S u t := fun W5 hb => q3.keep (fun g hg => (hb.block g (hSB g hg)).trans (q1.block g (by have := hSB g hg; omega)).symm) fun _ h => h
  have hset : ∀ (W : World), W.ownsRow B 37 10 (.slice (some ⟨g2, 0, none⟩) (n + 1) cap2) (n + 1) (xs ++ zs) → (W.setCells g2 (n * 10) u.toList).ownsRow B 37 10 (.slice (some ⟨g2, 0, none⟩) (n + 1) cap2) (n + 1) (xs ++ u.toList) := fun W h => by
    have := own_setCells u.toList (n * 10) _ _ h
    rwa [show setL (xs ++ zs) (n * 10) u.toList = xs ++ u.toList by rw [← hxl]; exact setL_app _ _ _ (by omega)] at this
  have hst : ∀ (W : World), Blk W ob 26 #[v] → W.ownsRow B 37 10 (.slice (some ⟨g2, 0, none⟩) (n + 1) cap2) (n + 1) (xs ++ u.toList) ∨ W.ownsRow B 37 10 (.slice (some ⟨g2, 0, none⟩) (n + 1) cap2) (n + 1) (xs ++ zs) → True := fun _ _ _ => trivial
  have hk1 : ∀ (W : World) (ys : List Value), W.ownsRow B 37 10 (.slice (some ⟨g2, 0, none⟩) (n + 1) cap2) (n + 1) ys → (W.setCell ⟨ob, 0, none⟩ (.slice (some ⟨g2, 0, none⟩) (n + 1) cap2)).ownsRow B 37 10 (.slice (some ⟨g2, 0, none⟩) (n + 1) cap2) (n + 1) ys := fun W ys h =>
    h.kept (row := some ob) ⟨rfl, rfl, rfl, by simp [World.setCell], fun k _ hk => Below.heap_setCell W ⟨ob, 0, none⟩ _ k (fun e => hk (by rw [e]))⟩ (.inr (fun e => hgo (by simpa [Value.ownBlock] using e)))
  rcases hW with rfl | rfl
  · have hb5 : Below B w ((w2.setCells g2 (n * 10) u.toList).setCell ⟨ob, 0, none⟩ (.slice (some ⟨g2, 0, none⟩) (n + 1) cap2)) := (below_setCells g2 hBg _ _ _ hBel2).setCell (p := ⟨ob, 0, none⟩) hBo _
    refine ⟨g2, cap2, u, rfl, hq3 _ hb5, ?_, hk1 _ _ (hset _ hown), hb5, ?_⟩
    · exact Blk.set_ ((heap_setCells g2 ob (Ne.symm hgo) _ _ _).trans hob2) 0 _
    · exact (Below.heap_setCell _ ⟨ob, 0, none⟩ _ sb hso).trans ((heap_setCells g2 sb (Ne.symm hgs) _ _ _).trans (hb2 sb hsb.lt hvs))
  · have hb5 : Below B w ((w2.setCell ⟨ob, 0, none⟩ (.slice (some ⟨g2, 0, none⟩) (n + 1) cap2)).setCells g2 (n * 10) u.toList) := below_setCells g2 hBg _ _ _ (hBel2.setCell (p := ⟨ob, 0, none⟩) hBo _)
    refine ⟨g2, cap2, u, rfl, hq3 _ hb5, ?_, hset _ (hk1 _ _ hown), hb5, ?_⟩
    · exact (heap_setCells g2 ob (Ne.symm hgo) _ _ _).trans (Blk.set_ hob2 0 _)
    · exact (heap_setCells g2 sb (Ne.symm hgs) _ _ _).trans ((Below.heap_setCell _ ⟨ob, 0, none⟩ _ sb hso).trans (hb2 sb hsb.lt hvs))
theorem step_store_mid {ops : Array Oper} {o : Oper} {a : Act} {w : World} {K : Act → World → Prop} {Q : Exit → Act → World → Prop} {E : Prop} (hgd : o.guard = none) (ty : TypeId) (x y : Operand) (ho : o.op = .store ty x y)
    (b f : Nat) (cells : Array Value) (hx : a.eval x = .pointer (some ⟨b, f, none⟩)) (hy : a.eval y = .agg cells) (ht : w.there b f cells.size) (hi : (Try.prog.info? ty).map (·.size) = some cells.size) (h1 : cells.all (·.oneCell') = true)
    (h : K (a.put o.dst undef) (w.setCells b f cells.toList)) : if Region.wanted o (yielded ops a.tmps) = true then Oper.wp Try.prog o a w K Q else E := by
  have hw : Region.wanted o (yielded ops a.tmps) = true := by simp [Region.wanted, hgd]
  rw [if_pos hw]
  exact wp_store_mid ty x y ho b f cells hx hy ht hi h1 h
set_option maxRecDepth 100000 in
set_option maxHeartbeats 4000000 in
theorem e_bet1 {B sb ob p n : Nat} {S : Nat → Prop} {L v : Value} {ps : List PcT} {xs : List Value} (w : World) (hL : PcsR w S L ps) (hSB : ∀ g, S g → g < B) (hp : p < B) (c0 : w.cell? ⟨p, 0, none⟩ = some L)
    (hsb : Blk w sb 56 #[.pointer (some ⟨p, 0, none⟩)]) (hob : Blk w ob 26 #[v]) (hBs : B ≤ sb) (hBo : B ≤ ob) (hown : w.ownsRow B 37 10 v n xs) (hn : n ≤ 1000000)
    (x0 x1 x2 x3 x4 x5 x6 x7 x8 x9 : Value) (e : ElL) (hr : RepI w S #[x0, x1, x2, x3, x4, x5, x6, x7, x8, x9] e.t) (hrun : e.run = true → e.pc < ps.length ∧ (pcX ps e.pc).ch.size * e.left ≤ 1000000 ∧ e.left ≤ 1000000) :
    Calls Try.prog 38 #[.agg #[x0, x1, x2, x3, x4, x5, x6, x7, x8, x9, .bool e.run, .int .i64 e.pc, .int .i64 e.left, .int .i64 e.before, .int .i64 e.next], .pointer (some ⟨sb, 0, none⟩), .pointer (some ⟨ob, 0, none⟩)] w (Bet1Post B sb ob n S xs (toI ps e) w) := by
  have hBw : B ≤ w.heap.size := by have := hsb.lt; omega
  have hso : sb ≠ ob := fun h => by
    subst h
    unfold Blk at hsb hob
    rw [hsb] at hob
    injection hob with hob
    injection hob with _ ht
    exact absurd ht (by decide)
  have s1 : w.cell? ⟨sb, 0, none⟩ = some (.pointer (some ⟨p, 0, none⟩)) := hsb.cell 0
  have HK : Hid (∀ W' x0' x1' x2' x3' x4' x5' x6' x7' x8' x9', Below w.heap.size w W' → W'.rangeAt w.heap.size 0 [x0', x1', x2', x3', x4', x5', x6', x7', x8', x9'] → RepI W' S #[x0', x1', x2', x3', x4', x5', x6', x7', x8', x9'] (toI ps e) → True) := Lib.hid fun _ _ _ _ _ _ _ _ _ _ _ _ _ _ => trivial
  have hz1 := hsb.lt
  have hz2 := hob.lt
  have HO := Lib.hid hob
  have HS := Lib.hid hsb
  have HW := Lib.hid hown
  have HR := Lib.hid hr
  have H10 := Lib.hid hr.one
  clear hsb hob hown hr HK
  obtain ⟨t, run, pc, left, bfr, nxt⟩ := e
  cases run
  have HT : Hid (toI ps ⟨t, false, pc, left, bfr, nxt⟩ = t) := Lib.hid (by unfold toI; rw [if_neg (by simp)])
  generalize toI ps ⟨t, false, pc, left, bfr, nxt⟩ = R at *
  clear hrun
  go_enter Try.func38, Try.ntmps38
  go_wp2_with fail
  have HX : ∃ u0 u1 u2 u3 u4 u5 u6 u7 u8 u9, Hid (Below w.heap.size w (w.alloc (.cells #[x0, x1, x2, x3, x4, x5, x6, x7, x8, x9, .bool false, .int .i64 pc, .int .i64 left, .int .i64 bfr, .int .i64 nxt] 76)) ∧ (w.alloc (.cells #[x0, x1, x2, x3, x4, x5, x6, x7, x8, x9, .bool false, .int .i64 pc, .int .i64 left, .int .i64 bfr, .int .i64 nxt] 76)).rangeAt w.heap.size 0 [u0, u1, u2, u3, u4, u5, u6, u7, u8, u9] ∧ RepI (w.alloc (.cells #[x0, x1, x2, x3, x4, x5, x6, x7, x8, x9, .bool false, .int .i64 pc, .int .i64 left, .int .i64 bfr, .int .i64 nxt] 76)) S #[u0, u1, u2, u3, u4, u5, u6, u7, u8, u9] R ∧ w.heap.size < (w.alloc (.cells #[x0, x1, x2, x3, x4, x5, x6, x7, x8, x9, .bool false, .int .i64 pc, .int .i64 left, .int .i64 bfr, .int .i64 nxt] 76)).heap.size) := by
    have hb : Below w.heap.size w (w.alloc (.cells #[x0, x1, x2, x3, x4, x5, x6, x7, x8, x9, .bool false, .int .i64 pc, .int .i64 left, .int .i64 bfr, .int .i64 nxt] 76)) := (Below.refl _ w).alloc (Nat.le_refl _) _
    have hk := Blk.new w 76 #[x0, x1, x2, x3, x4, x5, x6, x7, x8, x9, .bool false, .int .i64 pc, .int .i64 left, .int .i64 bfr, .int .i64 nxt]
    refine ⟨x0, x1, x2, x3, x4, x5, x6, x7, x8, x9, Lib.hid ⟨hb, fun j u hj => ?_, ?_, by simp⟩⟩
    · have hj10 := (List.getElem?_eq_some_iff.1 hj).1
      simp only [List.length_cons, List.length_nil] at hj10
      rw [Nat.zero_add, hk.cell j, ← hj, ← Array.getElem?_toList]
      exact (List.getElem?_append_left (l₁ := [x0, x1, x2, x3, x4, x5, x6, x7, x8, x9]) (l₂ := [.bool false, .int .i64 pc, .int .i64 left, .int .i64 bfr, .int .i64 nxt]) (by simpa using hj10))
    · rw [HT.out]
      exact HR.out.keep (fun g hg => hb.block g (by have := hSB g hg; omega)) fun _ h => h
  generalize w.alloc (.cells #[x0, x1, x2, x3, x4, x5, x6, x7, x8, x9, .bool false, .int .i64 pc, .int .i64 left, .int .i64 bfr, .int .i64 nxt] 76) = W3 at *
  clear s1 c0 hL
  rotate_left
  obtain ⟨hpcl, hsz, hlf⟩ := hrun (by simp)
  try dsimp only at hpcl hsz hlf
  obtain ⟨bb, off, cl, rfl, hSb, hpc⟩ := hL.opn (by omega)
  obtain ⟨y0, y1, y2, y3, y4, y5, y6, y7, y8, y9, -, hrg, -⟩ := hpc pc hpcl
  have hch : w.cell? ⟨bb, off + pc * 18 + 11, none⟩ = some (.string (pcX ps pc).ch) := hrg 11 _ rfl
  have hbl : bb < w.heap.size := by have := hSB bb hSb; omega
  have hpw : p < w.heap.size := by omega
  have hpi : (pc : Int) < (ps.length : Int) := by omega
  have hp0 : (0 : Int) ≤ (pc : Int) := by omega
  have HREP := Lib.hid fun W => Try.strings_Repeat (pcX ps pc).ch left W (by omega) (by omega)
  have HT : Hid (toI ps ⟨t, true, pc, left, bfr, nxt⟩ = txtT 1 ⟨(Lib.repeatL (pcX ps pc).ch.data.toList left).toArray⟩) := Lib.hid (by unfold toI; rw [if_pos rfl, repL_eq])
  generalize toI ps ⟨t, true, pc, left, bfr, nxt⟩ = R at *
  generalize (⟨(Lib.repeatL (pcX ps pc).ch.data.toList left).toArray⟩ : ByteArray) = tx at *
  generalize (pcX ps pc).ch = ch at *
  clear hrun hrg hpc hL
  go_enter Try.func38, Try.ntmps38
  go_wp2_with fail
  go_quiet (fail)
  go_wp2_with fail
  have hb1 : Below w.heap.size w ((w.alloc (.cells #[x0, x1, x2, x3, x4, x5, x6, x7, x8, x9, .bool true, .int .i64 pc, .int .i64 left, .int .i64 bfr, .int .i64 nxt] 76)).drewN nq) := below_drewN ((Below.refl _ w).alloc (Nat.le_refl _) _) nq
  have hk1 : Blk ((w.alloc (.cells #[x0, x1, x2, x3, x4, x5, x6, x7, x8, x9, .bool true, .int .i64 pc, .int .i64 left, .int .i64 bfr, .int .i64 nxt] 76)).drewN nq) w.heap.size 76 #[x0, x1, x2, x3, x4, x5, x6, x7, x8, x9, .bool true, .int .i64 pc, .int .i64 left, .int .i64 bfr, .int .i64 nxt] := Blk.new w 76 #[x0, x1, x2, x3, x4, x5, x6, x7, x8, x9, .bool true, .int .i64 pc, .int .i64 left, .int .i64 bfr, .int .i64 nxt]
  generalize (w.alloc (.cells #[x0, x1, x2, x3, x4, x5, x6, x7, x8, x9, .bool true, .int .i64 pc, .int .i64 left, .int .i64 bfr, .int .i64 nxt] 76)).drewN nq = W1 at *
  ((with_reducible refine (HREP.out _).mono ?_))
  rintro e W2 ⟨rfl, hb2⟩
  have hk2 := hk1.below hb2 hk1.lt
  have hb3 := hb1.trans (hb2.mono hb1.size)
  have hth : W2.there w.heap.size 0 10 := fun j hj => by
    refine ⟨?_, by rw [Nat.zero_add]; exact hk2.frozen j⟩
    rw [Nat.zero_add, hk2.cell j, Array.getElem?_eq_getElem (by show j < 15; omega)]
    rfl
  have HTH := Lib.hid hth
  have HB3 := Lib.hid hb3
  have HK2 := Lib.hid hk2
  clear hth hb3 hk2 hb2 hk1 hb1 s1 hch c0
  go_wp2_with (refine wpList_store_mid rfl 37 (.tmp 21) (.tmp 20) rfl w.heap.size 0 #[.int .i64 1, .string tx, .string ⟨#[]⟩, .string ⟨#[]⟩, .string ⟨#[]⟩, .slice none 0 0, .slice none 0 0, .slice none 0 0, .slice none 0 0, .slice none 0 0] rfl rfl HTH.out inl_size (by simp [Value.oneCell']) ?_)
  have HX : ∃ u0 u1 u2 u3 u4 u5 u6 u7 u8 u9, Hid (Below w.heap.size w (W2.setCells w.heap.size 0 #[.int .i64 1, .string tx, .string ⟨#[]⟩, .string ⟨#[]⟩, .string ⟨#[]⟩, .slice none 0 0, .slice none 0 0, .slice none 0 0, .slice none 0 0, .slice none 0 0].toList) ∧ (W2.setCells w.heap.size 0 #[.int .i64 1, .string tx, .string ⟨#[]⟩, .string ⟨#[]⟩, .string ⟨#[]⟩, .slice none 0 0, .slice none 0 0, .slice none 0 0, .slice none 0 0, .slice none 0 0].toList).rangeAt w.heap.size 0 [u0, u1, u2, u3, u4, u5, u6, u7, u8, u9] ∧ RepI (W2.setCells w.heap.size 0 #[.int .i64 1, .string tx, .string ⟨#[]⟩, .string ⟨#[]⟩, .string ⟨#[]⟩, .slice none 0 0, .slice none 0 0, .slice none 0 0, .slice none 0 0, .slice none 0 0].toList) S #[u0, u1, u2, u3, u4, u5, u6, u7, u8, u9] R ∧ w.heap.size < (W2.setCells w.heap.size 0 #[.int .i64 1, .string tx, .string ⟨#[]⟩, .string ⟨#[]⟩, .string ⟨#[]⟩, .slice none 0 0, .slice none 0 0, .slice none 0 0, .slice none 0 0, .slice none 0 0].toList).heap.size) := by
    refine ⟨.int .i64 1, .string tx, .string ⟨#[]⟩, .string ⟨#[]⟩, .string ⟨#[]⟩, .slice none 0 0, .slice none 0 0, .slice none 0 0, .slice none 0 0, .slice none 0 0, Lib.hid ⟨below_setCells _ (Nat.le_refl _) _ _ _ HB3.out, World.rangeAt_setCells_same _ _ _ _ HTH.out, ?_, by rw [size_setCells]; exact HK2.out.lt⟩⟩
    rw [HT.out]
    exact .mk 1 tx ⟨#[]⟩ ⟨#[]⟩ noAt [] [] [] none none none none none 0 0 0 0 0 [] ReadsS.none_ ReadsS.none_ ReadsS.none_ ReadsS.none_ .nil ReadsS.none_
  generalize W2.setCells w.heap.size 0 #[.int .i64 1, .string tx, .string ⟨#[]⟩, .string ⟨#[]⟩, .string ⟨#[]⟩, .slice none 0 0, .slice none 0 0, .slice none 0 0, .slice none 0 0, .slice none 0 0].toList = W3 at *
  clear HTH HB3 HK2 HT HREP
  rotate_left
  all_goals
    obtain ⟨u0, u1, u2, u3, u4, u5, u6, u7, u8, u9, HX⟩ := HX
    obtain ⟨q1, q2, q3, q4⟩ := HX.out
    obtain ⟨A, cc, hv, hlm, -⟩ := own_form HW.out
    subst hv
    obtain ⟨i0, hi0, hz0, hz1, hz2'⟩ := info_parts inl_info
    have o1 : W3.cell? ⟨ob, 0, none⟩ = some (.slice A n cc) := (HO.out.below q1 hz2).cell 0
    have HW3 := own_below HW.out q1
    have HK : Hid (∀ W' : World, W'.heap[w.heap.size]? = W3.heap[w.heap.size]? → W'.rangeAt w.heap.size 0 [u0, u1, u2, u3, u4, u5, u6, u7, u8, u9]) := Lib.hid fun W' h j u hj => (World.cell?_of_block h).trans (q2 j u hj)
    have H1 := Lib.hid q3.one
    have HEND := Lib.hid fun (w2 : World) (g2 cap2 : Nat) (x : Obj) (zs : List Value) (hown : w2.ownsRow B 37 10 (.slice (some ⟨g2, 0, none⟩) (n + 1) cap2) (n + 1) (xs ++ zs)) (hz : zs.length = 10) (hgrow : (W3.drew.alloc x).grownBy w2 (Value.slice A n cc).ownBlock) => bet1_end (u := #[u0, u1, u2, u3, u4, u5, u6, u7, u8, u9]) rfl HO.out HS.out hso hBs hBo hSB hBw HW.out q1 q3 hown hz hgrow
    have hz3 := q1.size
    have HQ3 := Lib.hid q3
    have HQ1 := Lib.hid q1
    clear q1 q2 q3 HX HR
    refine wp_region_held_drew (S := fun W' => W'.heap[w.heap.size]? = W3.heap[w.heap.size]?) (by kernel_rfl) rfl (fun hHeld => ?_)
    refine tk 1 (.pointer (some ⟨w.heap.size, 0, none⟩)) rfl hHeld (fun W' hSw => ?_) ?_
    · go_simp
    refine tkm 2 37 (.tmp 23) w.heap.size 0 [u0, u1, u2, u3, u4, u5, u6, u7, u8, u9] _ rfl hHeld rfl HK.out Try.underlying37 rfl inl_size ?_
    refine wpAnyH_ready (rs := [0, 4]) (by kernel_rfl) (by simp) (AllReadyH.cons rfl (fun K hK => ?_) (AllReadyH.cons rfl (fun K hK => ?_) AllReadyH.nil))
    go_simp
    refine hK.out _ _ rfl (fun hHeld => ?_)
    clear hK K
    refine tk 3 (.int .i64 n) rfl hHeld (fun W' hSw => ?_) ?_
    · go_simp
    refine rd1 4 rfl (fun K hK => ?_)
    refine step_inSlice rfl _ rfl (.int .i64 0) (.string ⟨#[]⟩) (.string ⟨#[]⟩) (.string ⟨#[]⟩) (.string ⟨#[]⟩) (.slice none 0 0) (.slice none 0 0) (.slice none 0 0) (.slice none 0 0) (.slice none 0 0) rfl ?_
    refine hK.out _ _ (Below.heap_alloc W3.drew _ _ (by show w.heap.size < W3.heap.size; omega)) (fun hHeld => ?_)
    clear hK K
    refine rd1 5 rfl (fun K hK => ?_)
    refine step_append_lies _ rfl (.tmp 22) (.tmp 26) 26 rfl B 37 i0 _ 10 192 Try.underlying26 hi0 hz0 hz1 hz2' rfl (by decide) _ _ _ rfl (HW3.alloc _) ⟨W3.heap.size, 0, none⟩ 1 1 [.int .i64 0, .string ⟨#[]⟩, .string ⟨#[]⟩, .string ⟨#[]⟩, .string ⟨#[]⟩, .slice none 0 0, .slice none 0 0, .slice none 0 0, .slice none 0 0, .slice none 0 0] rfl rfl ?c1 ?c2 (by decide) ?c3 ?c4 ?c5 (W3.heap.size + 1) ?c6 ?_
    case c1 => exact World.news_of_block (t := 37) (fr := (0, 0)) (heap_alloc_new W3.drew _)
    case c2 => simp [Value.oneCell']
    case c3 => unfold maxLen; omega
    case c4 => omega
    case c5 => simp; omega
    case c6 => simp
    intro g2 cap2 w2 hown hgrow0 hlies hlt2
    have hs2 : w2.heap[w.heap.size]? = W3.heap[w.heap.size]? := (HEND.out w2 g2 cap2 _ _ hown rfl hgrow0).2.2.2.1.trans (Below.heap_alloc W3.drew _ _ (by show w.heap.size < W3.heap.size; omega))
    have HE := Lib.hid (HEND.out w2 g2 cap2 _ _ hown rfl hgrow0)
    have hg2 : g2 ≠ w.heap.size := by
      rcases hlies with hl | hl
      · have := (HW.out.lt g2 (show (Value.slice A n cc).ownBlock = some g2 from hl)).2
        omega
      · omega
    clear hown hgrow0 hlies
    refine hK.out _ _ hs2 (fun hHeld => ?_)
    clear hK K
    rotate_left
    refine step_inSlice rfl _ rfl (.int .i64 0) (.string ⟨#[]⟩) (.string ⟨#[]⟩) (.string ⟨#[]⟩) (.string ⟨#[]⟩) (.slice none 0 0) (.slice none 0 0) (.slice none 0 0) (.slice none 0 0) (.slice none 0 0) rfl ?_
    refine hK.out _ _ (Below.heap_alloc W3.drew _ _ (by show w.heap.size < W3.heap.size; omega)) (fun hHeld => ?_)
    clear hK K
    have o2 : (W3.alloc (.cells #[.int .i64 0, .string ⟨#[]⟩, .string ⟨#[]⟩, .string ⟨#[]⟩, .string ⟨#[]⟩, .slice none 0 0, .slice none 0 0, .slice none 0 0, .slice none 0 0, .slice none 0 0] 37)).cell? ⟨ob, 0, none⟩ = some (.slice A n cc) := (World.cell?_alloc_lt W3 _ ⟨ob, 0, none⟩ (by show ob < W3.heap.size; omega)).trans o1
    refine rd1 0 rfl (fun K hK => ?_)
    go_simp
    refine hK.out _ _ (Below.heap_alloc W3.drew _ _ (by show w.heap.size < W3.heap.size; omega)) (fun hHeld => ?_)
    clear hK K o2
    refine tk 3 (.int .i64 n) rfl hHeld (fun W' hSw => ?_) ?_
    · go_simp
    refine rd1 5 rfl (fun K hK => ?_)
    refine step_append_lies _ rfl (.tmp 22) (.tmp 26) 26 rfl B 37 i0 _ 10 192 Try.underlying26 hi0 hz0 hz1 hz2' rfl (by decide) _ _ _ rfl (HW3.alloc _) ⟨W3.heap.size, 0, none⟩ 1 1 [.int .i64 0, .string ⟨#[]⟩, .string ⟨#[]⟩, .string ⟨#[]⟩, .string ⟨#[]⟩, .slice none 0 0, .slice none 0 0, .slice none 0 0, .slice none 0 0, .slice none 0 0] rfl rfl ?d1 ?d2 (by decide) ?d3 ?d4 ?d5 (W3.heap.size + 1) ?d6 ?_
    case d1 => exact World.news_of_block (t := 37) (fr := (0, 0)) (heap_alloc_new W3.drew _)
    case d2 => simp [Value.oneCell']
    case d3 => unfold maxLen; omega
    case d4 => omega
    case d5 => simp; omega
    case d6 => simp
    intro g2 cap2 w2 hown hgrow0 hlies hlt2
    have hs2 : w2.heap[w.heap.size]? = W3.heap[w.heap.size]? := (HEND.out w2 g2 cap2 _ _ hown rfl hgrow0).2.2.2.1.trans (Below.heap_alloc W3.drew _ _ (by show w.heap.size < W3.heap.size; omega))
    have HE := Lib.hid (HEND.out w2 g2 cap2 _ _ hown rfl hgrow0)
    have hg2 : g2 ≠ w.heap.size := by
      rcases hlies with hl | hl
      · have := (HW.out.lt g2 (show (Value.slice A n cc).ownBlock = some g2 from hl)).2
        omega
      · omega
    clear hown hgrow0 hlies
    refine hK.out _ _ hs2 (fun hHeld => ?_)
    clear hK K
    rotate_left
    all_goals
      obtain ⟨e1, e2, e3, -, e5⟩ := HE.out
      have f1 := e1.frozen 0
      have e1c := e1.cell 0
      have hn1 : (n : Int) < (n : Int) + 1 := by omega
      have HE1 := Lib.hid e1
      have HE3 := Lib.hid e3
      have HE5 := Lib.hid e5
      have hob1 := e1.lt
      clear e1 e3 e5 HE HEND
      refine tk 6 (.pointer (some ⟨g2, n * 10, none⟩)) rfl hHeld (fun W' hSw => ?_) ?_
      · go_simp
      refine wpAnyH_ready (rs := [7, 8]) (by kernel_rfl) (by simp) (AllReadyH.cons rfl (fun K hK => ?_) (AllReadyH.cons rfl (fun K hK => ?_) AllReadyH.nil))
      · refine step_store_mid rfl 37 (.tmp 28) (.tmp 24) rfl g2 (n * 10) #[u0, u1, u2, u3, u4, u5, u6, u7, u8, u9] (by kernel_rfl) (by kernel_rfl) HE3.out inl_size (by simpa using H1.out) ?_
        have hsA : (w2.setCells g2 (n * 10) #[u0, u1, u2, u3, u4, u5, u6, u7, u8, u9].toList).heap[w.heap.size]? = W3.heap[w.heap.size]? := (heap_setCells g2 _ (Ne.symm hg2) _ _ _).trans hs2
        refine hK.out _ _ hsA (fun hHeld => ?_)
        clear hK K
        have e1' : Blk (w2.setCells g2 (n * 10) #[u0, u1, u2, u3, u4, u5, u6, u7, u8, u9].toList) ob 26 #[.slice A n cc] := (heap_setCells g2 ob (Ne.symm e2) _ _ _).trans HE1.out
        have e1c' := e1'.cell 0
        have f1' := e1'.frozen 0
        have HF := Lib.hid (HE5.out _ (.inl rfl))
        clear e1c f1 e1'
        generalize w2.setCells g2 (n * 10) #[u0, u1, u2, u3, u4, u5, u6, u7, u8, u9].toList = w4 at *
        refine rd1 8 rfl (fun K hK => ?_)
        go_simp
        refine hK.out _ _ ((Below.heap_setCell w4 ⟨ob, 0, none⟩ _ _ (by show w.heap.size ≠ ob; omega)).trans hsA) (fun hHeld => ?_)
        clear hK K
        refine wpAnyH_done (by kernel_rfl) ?_ _
        go_wp2_with fail
        go_end0
        exact HF.out
      · go_simp
        have hsA : (w2.setCell ⟨ob, 0, none⟩ (.slice (some ⟨g2, 0, none⟩) (n + 1) cap2)).heap[w.heap.size]? = W3.heap[w.heap.size]? := (Below.heap_setCell w2 ⟨ob, 0, none⟩ _ _ (by show w.heap.size ≠ ob; omega)).trans hs2
        refine hK.out _ _ hsA (fun hHeld => ?_)
        clear hK K
        refine rd1 7 rfl (fun K hK => ?_)
        have hth : (w2.setCell ⟨ob, 0, none⟩ (.slice (some ⟨g2, 0, none⟩) (n + 1) cap2)).there g2 (n * 10) 10 := fun j hj => by
          have h3 := HE3.out j hj
          have hb := Below.heap_setCell w2 ⟨ob, 0, none⟩ (.slice (some ⟨g2, 0, none⟩) (n + 1) cap2) g2 e2
          exact ⟨by rw [World.cell?_of_block (a := ⟨g2, n * 10 + j, none⟩) hb]; exact h3.1, by rw [World.frozen?_of_block (a := ⟨g2, n * 10 + j, none⟩) hb]; exact h3.2⟩
        refine step_store_mid rfl 37 (.tmp 28) (.tmp 24) rfl g2 (n * 10) #[u0, u1, u2, u3, u4, u5, u6, u7, u8, u9] (by kernel_rfl) (by kernel_rfl) hth inl_size (by simpa using H1.out) ?_
        refine hK.out _ _ ((heap_setCells g2 _ (Ne.symm hg2) _ _ _).trans hsA) (fun hHeld => ?_)
        clear hK K
        have HF := Lib.hid (HE5.out _ (.inr rfl))
        refine wpAnyH_done (by kernel_rfl) ?_ _
        go_wp2_with fail
        go_end0
        exact HF.out

end Go.Proofs.Ytfnloonmeilhlaa
namespace Go.Pub
def hdOr : List Nat → Nat → Nat
  | [], c => c
  | i :: _, _ => i
theorem LinkL.hd {xs : List ElL} : ∀ {l : List Nat} {a b : Nat}, LinkL xs a l b → nx xs a = hdOr l b
  | [], _, _, h => h.1
  | _ :: _, _, _, h => h.1
end Go.Pub
namespace Go.Proofs.Ytfnloonmeilhlaa
open Go.RowKit Go.Pub
def BetPost (S : Nat → Prop) (B : Nat) (l : List InT) (w : World) (e : Ending) (w' : World) : Prop :=
  ∃ v vs, e = .returned v ∧ RepIs w' S vs l ∧ w'.ownsRow B 37 10 v l.length (vs.flatMap Array.toList) ∧ Below B w w'
/-- What holds in the loop: the first elements are done. -/
structure BtW (w : World) (B sb ob p : Nat) (S : Nat → Prop) (ps : List PcT) (xs : List ElL) (o c : Nat) (done rest : List Nat) (wr : World) : Prop where
  link : LinkL xs (lastOf o done) rest c
  sb_ : Blk wr sb 56 #[.pointer (some ⟨p, 0, none⟩)]
  row : ∃ v vs, Blk wr ob 26 #[v] ∧ RepIs wr S vs (done.map fun i => toI ps (elX xs i)) ∧ wr.ownsRow B 37 10 v done.length (vs.flatMap Array.toList)
  bel : Below B w wr
set_option maxRecDepth 100000 in
set_option maxHeartbeats 4000000 in
theorem e_between {base p g n cap : Nat} {L vP : Value} {vO : Nat → Value} {S : Nat → Prop} {vs : List (Array Value)} {st : EmS} {ps : List PcT} (w : World) (h : EmR w base p L (.slice (some ⟨g, 0, none⟩) n cap) vO vP S vs st) (hL : PcsR w S L ps)
    (o c : Nat) (m : List Nat) (ho : o < st.xs.length) (hlk : LinkL st.xs o m c) (hm : ∀ i ∈ m, i ≠ c ∧ i < st.xs.length) (hrun : ∀ i ∈ m, runX st.xs i = true → pX st.xs i < ps.length ∧ (pcX ps (pX st.xs i)).ch.size * lfX st.xs i ≤ 1000000 ∧ lfX st.xs i ≤ 1000000) (hlen : m.length ≤ 1000000) :
    Calls Try.prog 26 #[.pointer (some ⟨p, 0, none⟩), .int .i64 o, .int .i64 c] w (BetPost S w.heap.size (m.map fun i => toI ps (elX st.xs i)) w) := by
  have hn := own_len h.els
  subst hn
  have c1 : w.cell? ⟨p, 1, none⟩ = some (.slice (some ⟨g, 0, none⟩) st.xs.length cap) := h.cel.c1
  obtain ⟨-, -, -, co⟩ := h.at_ o ho
  have hpw := h.cel.lt
  have hgw := (h.els.lt g rfl).2
  have hoi : (o : Int) < (st.xs.length : Int) := by omega
  have hnx : nx st.xs o = hdOr m c := hlk.hd
  rw [hnx] at co
  obtain ⟨k0, hk0⟩ : ∃ k0, k0 = hdOr m c := ⟨_, rfl⟩
  rw [← hk0] at co
  have HK0 := Lib.hid hk0
  clear hk0
  have H0 : Hid (BtW w w.heap.size w.heap.size (w.heap.size + 1) p S ps st.xs o c [] m ((w.alloc (.cells #[.pointer (some ⟨p, 0, none⟩)] 56)).alloc (.cells #[.slice none 0 0] 26))) := Lib.hid ⟨hlk, (Blk.new _ _ _).alloc _, ⟨.slice none 0 0, [], by
    have := Blk.new (w.alloc (.cells #[.pointer (some ⟨p, 0, none⟩)] 56)) 26 #[.slice none 0 0]
    rw [World.size_alloc] at this
    exact this, .nil, World.ownsRow_nil _ _ _ _⟩, ((Below.refl _ w).alloc (Nat.le_refl _) _).alloc (by simp) _⟩
  have HH := Lib.hid h
  have HL := Lib.hid hL
  have HM := Lib.hid hm
  have HRUN := Lib.hid hrun
  have HSB := Lib.hid fun g hg => (h.fro g hg).1
  clear h hL hm hrun hlk hnx
  go_enter Try.func26, Try.ntmps26
  go_wp2_with fail
  go_loopw [9] (fun v9 wr => ∃ done rest : List Nat, m = done ++ rest ∧ v9 = .int .i64 (hdOr rest c : Nat) ∧ Hid (BtW w w.heap.size w.heap.size (w.heap.size + 1) p S ps st.xs o c done rest wr)) (fun _ wr => match wr.cell? ⟨w.heap.size + 1, 0, none⟩ with | some (.slice _ n _) => m.length - n | _ => 0)
  case atStart => exact ⟨[], m, rfl, by rw [HK0.out], H0⟩
  case round =>
    clear H0
    obtain ⟨done, rest, hmd, rfl, HI⟩ := hrel
    obtain ⟨b1, b2, ⟨v, vs', b3, b4, b5⟩, b6⟩ := HI.out
    obtain ⟨A, cc, hv, -, -⟩ := own_form b5
    subst hv
    have hE := HH.out.below b6
    have r1 := hE.cel.c1
    have s1 : wr.cell? ⟨w.heap.size, 0, none⟩ = some (.pointer (some ⟨p, 0, none⟩)) := b2.cell 0
    have s2 : wr.cell? ⟨w.heap.size + 1, 0, none⟩ = some (.slice A done.length cc) := b3.cell 0
    cases rest with
    | nil =>
      have d1 : ((c : Int) != (c : Int)) = false := by simp
      rw [List.append_nil] at hmd
      subst hmd
      have HF : Hid (RepIs wr S vs' (m.map fun i => toI ps (elX st.xs i)) ∧ wr.ownsRow w.heap.size 37 10 (.slice A m.length cc) m.length (vs'.flatMap Array.toList) ∧ Below w.heap.size w wr) := Lib.hid ⟨b4, b5, b6⟩
      clear b1 b2 b3 b4 b5 b6 HI hE r1
      show Code.wp _ _ _ ⟨_, _⟩ _
      simp only [hdOr]
      go_wp2_with fail
      go_ret
      obtain ⟨f1, f2, f3⟩ := HF.out
      refine ⟨.slice A m.length cc, vs', rfl, f1, ?_, f3⟩
      rw [List.length_map]; exact f2
    | cons k rest =>
      have hk := HM.out k (by rw [hmd]; simp)
      obtain ⟨x0, x1, x2, x3, x4, x5, x6, x7, x8, x9, hr, hrg, h1⟩ := hE.cells15 k hk.2
      obtain ⟨-, -, -, cn⟩ := hE.at_ k hk.2
      obtain ⟨-, -, b1'⟩ := b1
      rw [b1'.hd] at cn
      obtain ⟨kr, hkr⟩ : ∃ kr, kr = hdOr rest c := ⟨_, rfl⟩
      rw [← hkr] at cn
      have HKR := Lib.hid hkr
      clear hkr
      have hml : m.length = done.length + (rest.length + 1) := by rw [hmd]; simp
      have hkL : PcsR wr S L ps := HL.out.keep (fun g hg => b6.block g (HSB.out g hg)) fun _ h => h
      have HC : Hid (Calls Try.prog 38 #[.agg #[x0, x1, x2, x3, x4, x5, x6, x7, x8, x9, .bool (runX st.xs k), .int .i64 (pX st.xs k), .int .i64 (lfX st.xs k), .int .i64 (bf st.xs k), .int .i64 (nx st.xs k)], .pointer (some ⟨w.heap.size, 0, none⟩), .pointer (some ⟨w.heap.size + 1, 0, none⟩)] wr (Bet1Post w.heap.size w.heap.size (w.heap.size + 1) done.length S (vs'.flatMap Array.toList) (toI ps (elX st.xs k)) wr)) := Lib.hid (e_bet1 (B := w.heap.size) wr hkL HSB.out hpw hE.cel.c0 b2 b3 (Nat.le_refl _) (by omega) b5 (by omega) x0 x1 x2 x3 x4 x5 x6 x7 x8 x9 (elX st.xs k) hr (HRUN.out k (by rw [hmd]; simp)))
      have HG := Lib.hid hrg
      have HNX : Hid (∀ W4, Below w.heap.size wr W4 → W4.cell? ⟨p, 1, none⟩ = some (.slice (some ⟨g, 0, none⟩) st.xs.length cap) ∧ W4.cell? ⟨g, k * 15 + 14, none⟩ = some (.int .i64 (kr : Nat))) := Lib.hid fun W4 hb => ⟨(hb.cell (p := ⟨p, 1, none⟩) hpw).trans r1, (hb.cell (p := ⟨g, k * 15 + 14, none⟩) hgw).trans cn⟩
      have hki : (k : Int) < (st.xs.length : Int) := by omega
      have hk0 : (0 : Int) ≤ (k : Int) := by omega
      have d1 : ((k : Int) != (c : Int)) = true := bne_iff_ne.2 (by omega)
      have HB4 := Lib.hid b4
      have HB5 := Lib.hid b5
      have HB6 := Lib.hid b6
      have HB2 := Lib.hid b2
      have HB1 := Lib.hid b1'
      clear b1' b2 b3 b4 b5 b6 hr hrg h1 hE cn hkL HI
      simp only [hdOr]
      go_wp2_with (first | (refine wpList_load_mid rfl 76 (.tmp 36) rfl g (k * 15) rfl _ _ HG.out Try.underlying76 rfl elem_size ?_) | fail)
      ((with_reducible refine HC.out.mono ?_))
      rintro e W4 ⟨g2, cap2, v2, rfl, p1, p2, p3, p4, p5⟩
      obtain ⟨n1, n2⟩ := HNX.out W4 p4
      have n3 : W4.cell? ⟨w.heap.size, 0, none⟩ = some (.pointer (some ⟨p, 0, none⟩)) := (World.cell?_of_block p5).trans s1
      have n4 : W4.cell? ⟨w.heap.size + 1, 0, none⟩ = some (.slice (some ⟨g2, 0, none⟩) (done.length + 1) cap2) := p2.cell 0
      have HF : Hid (BtW w w.heap.size w.heap.size (w.heap.size + 1) p S ps st.xs o c (done ++ [k]) rest W4) := Lib.hid ⟨by rw [lastOf_snoc]; exact HB1.out, p5.trans HB2.out, ⟨_, vs' ++ [v2], p2, by
        rw [List.map_append]
        exact (HB4.out.keep (fun g hg => p4.block g (HSB.out g hg)) fun _ h => h).snoc p1, by
        rw [List.length_append, List.length_singleton, List.flatMap_append]
        simpa using p3⟩, HB6.out.trans p4⟩
      clear p1 p2 p3 p4 p5 HC HNX HB4 HB5 HB6 HB2 HB1 HG
      go_wp2_with fail
      go_roundw
      case rel => exact ⟨done ++ [k], rest, by rw [hmd]; simp, congrArg (fun x : Nat => Value.int .i64 (x : Int)) HKR.out, HF⟩
      case measure => simp [n4, s2]; omega

end Go.Proofs.Ytfnloonmeilhlaa
namespace Go.Pub
theorem nodup_le : ∀ (n : Nat) (l : List Nat), l.Nodup → (∀ i ∈ l, i < n) → l.length ≤ n
  | 0, [], _, _ => Nat.le_refl _
  | 0, i :: l, _, h => absurd (h i (by simp)) (by omega)
  | n + 1, l, hn, h => by
    by_cases hm : n ∈ l
    · have h1 := nodup_le n (l.erase n) (hn.erase n) fun i hi => by
        have h2 := h i (List.mem_of_mem_erase hi)
        have h3 := (List.Nodup.mem_erase_iff hn).1 hi
        omega
      rw [List.length_erase_of_mem hm] at h1
      omega
    · have h1 := nodup_le n l hn fun i hi => by
        have h2 := h i hi
        have : i ≠ n := fun e => hm (e ▸ hi)
        omega
      omega
theorem betF_eq {ps : List PcT} {xs : List ElL} {c : Nat} : ∀ (m : List Nat) (a f : Nat), LinkL xs a m c → (∀ i ∈ m, i ≠ c) → m.length ≤ f → betF ps xs c f (elX xs a).next = m.map fun i => toI ps (elX xs i)
  | [], a, 0, _, _, _ => rfl
  | [], a, f + 1, h, _, _ => by
    unfold betF
    rw [if_pos (show (elX xs a).next = c from h.1)]; rfl
  | i :: m, a, 0, _, _, hf => absurd hf (by simp)
  | i :: m, a, f + 1, h, hm, hf => by
    have e : (elX xs a).next = i := h.1
    unfold betF
    rw [e, if_neg (hm i (by simp)), betF_eq m i f h.2.2 (fun j hj => hm j (List.mem_cons_of_mem _ hj)) (by simpa using hf)]
    rfl
theorem RingI.len {xs : List ElL} {ids : List Nat} (h : RingI xs ids) : ids.length + 1 ≤ xs.length := nodup_le xs.length (0 :: ids) h.nd h.bd0
theorem betA_eq {ps : List PcT} {xs : List ElL} {A B : List Nat} {o c : Nat} (h : RingI xs (A ++ o :: (B ++ [c]))) : betA ps xs o c = B.map (fun i => toI ps (elX xs i)) ∧ LinkL xs o B c ∧ (∀ i ∈ B, i ≠ c ∧ i < xs.length) := by
  have hl : LinkL xs o B c := by
    have := (LinkL.app.1 (LinkL.app.1 h.link).2).1
    exact this
  have hn := h.nd
  rw [← List.cons_append, List.nodup_append] at hn
  have hn2 := (List.nodup_cons.1 hn.2.1).2
  rw [List.nodup_append] at hn2
  have hne : ∀ i ∈ B, i ≠ c := fun i hi => hn2.2.2 i hi c (by simp)
  have hlen := h.len
  refine ⟨betF_eq B o _ hl hne (by simp at hlen; omega), hl, fun i hi => ⟨hne i hi, h.bd i (by simp [hi])⟩⟩
end Go.Pub
namespace Go.Proofs.Ytfnloonmeilhlaa
open Go.RowKit Go.Pub
section
variable {w w' : World} {base p : Nat} {L vE vP : Value} {vO : Nat → Value} {S : Nat → Prop} {vs : List (Array Value)} {st : EmS}
theorem trips_snoc (l : List (Nat × Nat × Nat)) (x : Nat × Nat × Nat) : trips (l ++ [x]) = trips l ++ [.int .i64 x.1, .int .i64 x.2.1, .int .i64 x.2.2] := by
  unfold trips; rw [List.flatMap_append]; simp
/-- A match more. -/
theorem EmR.pushP {w2 : World} {x : Nat × Nat × Nat} {g cap H : Nat} (h : EmR w base p L vE vO vP S vs st) (hbase : base ≤ w.heap.size)
    (hown : w2.ownsRow base 30 3 (.slice (some ⟨g, 0, none⟩) (st.prs.length + 1) cap) (st.prs.length + 1) (trips st.prs ++ [.int .i64 x.1, .int .i64 x.2.1, .int .i64 x.2.2])) (hgrow : w.grownBy w2 vP.ownBlock) (hlies : vP.ownBlock = some g ∨ g = H) (hH : w.heap.size ≤ H) :
    EmR (w2.setCell ⟨p, 20, none⟩ (.slice (some ⟨g, 0, none⟩) (st.prs.length + 1) cap)) base p L vE vO (.slice (some ⟨g, 0, none⟩) (st.prs.length + 1) cap) S vs { st with prs := st.prs ++ [x] } ∧
      Below base w (w2.setCell ⟨p, 20, none⟩ (.slice (some ⟨g, 0, none⟩) (st.prs.length + 1) cap)) ∧ ∀ k, S k → (w2.setCell ⟨p, 20, none⟩ (.slice (some ⟨g, 0, none⟩) (st.prs.length + 1) cap)).heap[k]? = w.heap[k]? := by
  have hpl := h.cel.lt
  obtain ⟨cs, hbk, _⟩ := h.cel.blk
  have hEp : vP.ownBlock ≠ some p := own_blk h.prs hbk (by decide)
  have hcel : StC w2 p L vE vO vP := h.cel.keep (hgrow.block p hpl (fun e => hEp e.symm))
  have hrows : ∀ k, S k → (w2.setCell ⟨p, 20, none⟩ (.slice (some ⟨g, 0, none⟩) (st.prs.length + 1) cap)).heap[k]? = w.heap[k]? := fun k hk => by
    obtain ⟨n1, -, -, n4⟩ := h.notS hk
    exact (Below.heap_setCell w2 ⟨p, 20, none⟩ _ k n1).trans (hgrow.block k (h.fro k hk).1 (fun e => n4 e.symm))
  obtain ⟨cs2, hbk2, _⟩ := hcel.blk
  have hkeepO : ∀ {n s : Nat} {t : TypeId} {u : Value} {x' : List Value}, w.ownsRow base t s u n x' → t ≠ 30 → t ≠ 69 → (w2.setCell ⟨p, 20, none⟩ (.slice (some ⟨g, 0, none⟩) (st.prs.length + 1) cap)).ownsRow base t s u n x' := fun ho h1 h2 => by
    have a1 := ho.kept hgrow (own_apart ho h.prs h1)
    have hne := own_blk a1 hbk2 h2
    exact a1.kept (row := some p) ⟨rfl, rfl, rfl, by simp [World.setCell], fun k _ hk => Below.heap_setCell w2 ⟨p, 20, none⟩ _ k (fun e => hk (by rw [e]))⟩ (.inr hne)
  have hgp : g ≠ p := fun e => own_blk hown hbk2 (by decide) (by rw [e]; rfl)
  have hbg : Below base w w2 := ⟨hgrow.os, hgrow.tape, hgrow.output, hgrow.size, fun k hk => hgrow.block k (by omega) (fun e => by have := (h.prs.lt k e.symm).1; omega)⟩
  refine ⟨⟨h.bp, hcel.setP _, hkeepO h.els (by decide) (by decide), h.rep.keep hrows fun _ h => h, fun j hj => hkeepO (h.ops j hj) (by decide) (by decide), ?_, h.apart, h.low, fun k hk => ⟨?_, fun hbk => ?_⟩⟩, hbg.setCell (p := ⟨p, 20, none⟩) h.bp _, hrows⟩
  · show World.ownsRow _ _ _ _ _ (st.prs ++ [x]).length (trips (st.prs ++ [x]))
    rw [List.length_append, List.length_singleton, trips_snoc]
    exact hown.kept (row := some p) ⟨rfl, rfl, rfl, by simp [World.setCell], fun k _ hk => Below.heap_setCell w2 ⟨p, 20, none⟩ _ k (fun e => hk (by rw [e]))⟩ (.inr (fun e => hgp (by simpa [Value.ownBlock] using e)))
  · have := (h.fro k hk).1
    have := hgrow.size
    simp [World.setCell]; omega
  · obtain ⟨n1, n2, n3, n4⟩ := h.notS hk
    refine ⟨n1, n2, n3, fun e => ?_⟩
    have e' : g = k := by simpa [Value.ownBlock] using e
    subst e'
    rcases hlies with hl | hl
    · exact n4 hl
    · have := (h.fro g hk).1; omega
end
/-- The cells of an inline that holds others alone. -/
def inK (k : Int) (A : Option Addr) (n c : Nat) : Array Value := #[.int .i64 k, .string ⟨#[]⟩, .string ⟨#[]⟩, .string ⟨#[]⟩, .string ⟨#[]⟩, .slice none 0 0, .slice none 0 0, .slice none 0 0, .slice none 0 0, .slice A n c]
theorem inK_rep {w : World} {S : Nat → Prop} {B n c : Nat} {A : Option Addr} {vs : List (Array Value)} {l : List InT} (k : Int) (h : RepIs w S vs l) (hown : w.ownsRow B 37 10 (.slice A n c) l.length (vs.flatMap Array.toList)) : RepI w (fun g => S g ∨ (B ≤ g ∧ g < w.heap.size)) (inK k A l.length c) (kidT k l) := by
  have hr : w.ownsRow B 37 10 (.slice A l.length c) l.length (vs.flatMap Array.toList) := by
    rcases hown.2 with ⟨e, h0⟩ | ⟨g', cap', cur, e, _⟩
    · injection e with e1 e2 e3
      rw [h0] at hown ⊢
      rw [e2] at hown
      exact hown
    · injection e with e1 e2 e3
      rw [e2] at hown
      exact hown
  exact .mk k ⟨#[]⟩ ⟨#[]⟩ ⟨#[]⟩ noAt [] [] l none none none none A 0 0 0 0 c vs ReadsS.none_ ReadsS.none_ ReadsS.none_ ReadsS.none_ (h.keep (fun _ _ => rfl) fun _ h => .inl h) ((ReadsS.of_own hr).keep (fun _ _ => rfl) fun _ h => .inr h)
end Go.Proofs.Ytfnloonmeilhlaa
namespace Go.Pub
theorem RingI.nb {xs : List ElL} {l r : List Nat} {i : Nat} (h : RingI xs (l ++ i :: r)) : bf xs i < xs.length ∧ nx xs i < xs.length := by
  obtain ⟨a1, a2⟩ := LinkL.app.1 h.link
  refine ⟨?_, ?_⟩
  · rw [a1.bf_]
    have hl := lastOf_mem l 0
    refine h.bd0 _ ?_
    rcases List.mem_cons.1 hl with e | e
    · rw [e]; simp
    · exact List.mem_cons_of_mem _ (List.mem_append_left _ e)
  · rw [a2.hd]
    cases r with
    | nil => exact h.pos
    | cons b r => exact h.bd b (by simp [hdOr])
theorem RingI.rmZ {xs : List ElL} {l r : List Nat} {k : Nat} (h : RingI xs (l ++ k :: r)) : ∃ l', RingI (rmZ xs k) (l' ++ r) ∧ ((elX xs k).left = 0 → l' = l) := by
  unfold Pub.rmZ
  by_cases hz : (elX xs k).left = 0
  · rw [if_pos hz]; exact ⟨l, h.rm, fun _ => rfl⟩
  · rw [if_neg hz]; exact ⟨l ++ [k], by simpa using h, fun e => absurd e hz⟩
end Go.Pub
namespace Go.Proofs.Ytfnloonmeilhlaa
open Go.RowKit Go.Pub
/-- A state in the midst of a match. -/
def MidS (base p : Nat) (L vE : Value) (vO : Nat → Value) (vP : Value) (S : Nat → Prop) (w0 w1 : World) (st : EmS) (w : World) : Prop := ∃ vs, EmR w base p L vE vO vP S vs st ∧ Below base w0 w ∧ ∀ q, S q → w.heap[q]? = w1.heap[q]?
/-- A state has followed, in more memory. -/
def PairPost (base p : Nat) (L : Value) (S : Nat → Prop) (st' : EmS) (w : World) (e : Ending) (w' : World) : Prop :=
  ∃ vE' vO' vP' S' vs', e = .returned (.tuple #[]) ∧ EmR w' base p L vE' vO' vP' S' vs' st' ∧ (∀ g, S g → S' g) ∧ Below base w w' ∧ ∀ q, S q → w'.heap[q]? = w.heap[q]?
theorem inK_one (k : Int) (A : Option Addr) (n c : Nat) : (inK k A n c).all (·.oneCell') = true := by unfold inK; simp [Value.oneCell']
theorem trip_info : (Try.prog.info? 30).map (fun i => (i.zero, i.size, i.bytes)) = some (some (.agg #[.int .i64 0, .int .i64 0, .int .i64 0]), 3, 24) := by kernel_rfl
set_option maxRecDepth 100000 in
set_option maxHeartbeats 8000000 in
theorem e_pair {base p g n cap : Nat} {L vP : Value} {vO : Nat → Value} {S : Nat → Prop} {vs : List (Array Value)} {st : EmS} {ps : List PcT} {A B : List Nat} {o c : Nat} (w : World) (h : EmR w base p L (.slice (some ⟨g, 0, none⟩) n cap) vO vP S vs st) (hI : RingI st.xs (A ++ o :: (B ++ [c]))) (hL : PcsR w (fun g => g < base) L ps) (hbase : base ≤ w.heap.size)
    (hpo : pX st.xs o < ps.length) (hpc : pX st.xs c < ps.length) (hrun : ∀ i ∈ B, runX st.xs i = true → pX st.xs i < ps.length ∧ (pcX ps (pX st.xs i)).ch.size * lfX st.xs i ≤ 1000000 ∧ lfX st.xs i ≤ 1000000) (hlen : st.xs.length ≤ 200000) (hprs : st.prs.length ≤ 200000)
    (hlo : 1 ≤ lfX st.xs o) (hlc : 1 ≤ lfX st.xs c) (hlo2 : lfX st.xs o ≤ 1000000) (hlc2 : lfX st.xs c ≤ 1000000) :
    Calls Try.prog 48 #[.pointer (some ⟨p, 0, none⟩), .int .i64 o, .int .i64 c] w (PairPost base p L S (mtchA ps st o c) w) := by
  have hn := own_len h.els
  subst hn
  obtain ⟨hbet, hlk, hBm⟩ := betA_eq (ps := ps) hI
  have ho : o < st.xs.length := hI.bd o (by simp)
  have hc : c < st.xs.length := hI.bd c (by simp)
  have hBl : B.length ≤ 1000000 := by have := hI.len; simp at this; omega
  have hoc : o ≠ c := fun e => by
    have hn := hI.nd
    rw [← List.cons_append, List.nodup_append] at hn
    exact (List.nodup_cons.1 hn.2.1).1 (by rw [e]; simp)
  have hLS : PcsR w S L ps := hL.keep (fun _ _ => rfl) h.low
  obtain ⟨b, off, cl, rfl, hSb, hpcs⟩ := hL.opn (by omega)
  obtain ⟨y0, y1, y2, y3, y4, y5, y6, y7, y8, y9, -, hrg, -⟩ := hpcs _ hpc
  have hch0 : w.cell? ⟨b, off + pX st.xs c * 18 + 11, none⟩ = some (.string (pcX ps (pX st.xs c)).ch) := hrg 11 _ rfl
  have c0 : w.cell? ⟨p, 0, none⟩ = some (.slice (some ⟨b, off, none⟩) ps.length cl) := h.cel.c0
  have c1 : w.cell? ⟨p, 1, none⟩ = some (.slice (some ⟨g, 0, none⟩) st.xs.length cap) := h.cel.c1
  obtain ⟨cpo', clo', -, -⟩ := h.at_ o ho
  obtain ⟨cpc', clc', -, -⟩ := h.at_ c hc
  have cpo : w.cell? ⟨g, o * 15 + 11, none⟩ = some (.int .i64 (pX st.xs o : Nat)) := cpo'
  have clo : w.cell? ⟨g, o * 15 + 12, none⟩ = some (.int .i64 (lfX st.xs o : Nat)) := clo'
  have cpc : w.cell? ⟨g, c * 15 + 11, none⟩ = some (.int .i64 (pX st.xs c : Nat)) := cpc'
  have clc : w.cell? ⟨g, c * 15 + 12, none⟩ = some (.int .i64 (lfX st.xs c : Nat)) := clc'
  clear cpo' clo' cpc' clc'
  have HN : Hid (pairN st.xs o c = if 2 ≤ lfX st.xs o ∧ 2 ≤ lfX st.xs c then 2 else 1) := Lib.hid rfl
  have HKd : Hid (pairK ps st.xs o c = if (pcX ps (pX st.xs c)).ch.toList = [126] then 8 else if pairN st.xs o c = 2 then 7 else 6) := Lib.hid rfl
  have HX : Hid (pairX ps st.xs o c = setLf (setLf (insX (setBf (setN st.xs o c) c o) { t := kidT (pairK ps st.xs o c) (betA ps st.xs o c) } c) o ((elX (insX (setBf (setN st.xs o c) c o) { t := kidT (pairK ps st.xs o c) (betA ps st.xs o c) } c) o).left - pairN st.xs o c)) c ((elX (setLf (insX (setBf (setN st.xs o c) c o) { t := kidT (pairK ps st.xs o c) (betA ps st.xs o c) } c) o ((elX (insX (setBf (setN st.xs o c) c o) { t := kidT (pairK ps st.xs o c) (betA ps st.xs o c) } c) o).left - pairN st.xs o c)) c).left - pairN st.xs o c)) := Lib.hid rfl
  have HM : Hid (mtchA ps st o c = { xs := rmZ (rmZ (pairX ps st.xs o c) o) c, ops := fun j => popW (if (elX (pairX ps st.xs o c) o).left = 0 then o - 1 else o) (st.ops j), prs := st.prs ++ [(pX st.xs o, pX st.xs c, pairN st.xs o c)] }) := Lib.hid rfl
  have HBE := Lib.hid fun (w1 : World) (h1 : EmR w1 base p (.slice (some ⟨b, off, none⟩) ps.length cl) (.slice (some ⟨g, 0, none⟩) st.xs.length cap) vO vP S vs st) (h2 : PcsR w1 S (.slice (some ⟨b, off, none⟩) ps.length cl) ps) => e_between w1 h1 h2 o c B ho hlk hBm hrun hBl
  rw [← hbet] at HBE
  have HH := Lib.hid h
  have HLS := Lib.hid hLS
  have HI := Lib.hid hI
  have hbl : b < base := hSb
  clear h hI hLS hL hpcs hrg hlk hBm hrun hbet
  generalize hNN : pairN st.xs o c = N at *
  generalize hKK : pairK ps st.xs o c = KK at *
  generalize hpp : pcX ps (pX st.xs c) = PC at *
  clear hNN hKK hpp
  generalize hlfo : lfX st.xs o = lo at *
  generalize hlfc : lfX st.xs c = lc at *
  generalize hpo' : pX st.xs o = po at *
  generalize hpc' : pX st.xs c = pc at *
  generalize betA ps st.xs o c = kids at *
  have HLO := Lib.hid hlfo
  have HLC := Lib.hid hlfc
  clear hlfo hlfc hpo' hpc'
  obtain ⟨i1, i2, i3, i4, i5, i6⟩ : (o : Int) < (st.xs.length : Int) ∧ (c : Int) < (st.xs.length : Int) ∧ (0 : Int) ≤ (o : Int) ∧ (0 : Int) ≤ (c : Int) ∧ (pc : Int) < (ps.length : Int) ∧ (0 : Int) ≤ (pc : Int) := by omega
  go_enter Try.func48, Try.ntmps48
  go_wp2_with fail
  go_quiet (fail)
  have HBW : Hid (Below w.heap.size w (w.drewN nq)) := Lib.hid (below_drewN (Below.refl _ w) nq)
  have g0 : (w.drewN nq).cell? ⟨p, 0, none⟩ = some (.slice (some ⟨b, off, none⟩) ps.length cl) := c0
  have g1 : (w.drewN nq).cell? ⟨p, 1, none⟩ = some (.slice (some ⟨g, 0, none⟩) st.xs.length cap) := c1
  have g2 : (w.drewN nq).cell? ⟨g, o * 15 + 12, none⟩ = some (.int .i64 (lo : Nat)) := clo
  have g3 : (w.drewN nq).cell? ⟨g, c * 15 + 12, none⟩ = some (.int .i64 (lc : Nat)) := clc
  have g4 : (w.drewN nq).cell? ⟨b, off + pc * 18 + 11, none⟩ = some (.string PC.ch) := hch0
  have hz : (w.drewN nq).heap.size = w.heap.size := rfl
  have HZ := Lib.hid hz
  clear c0 c1 clo clc cpo cpc hch0 hz
  generalize w.drewN nq = w1 at *
  go_upto_region 2 with fail
  go_cut [46] (fun s46 wx => s46 = .bool (decide (N = 2)) ∧ w1 = wx)
  case first =>
    by_cases h1 : 2 ≤ lo
    · have d1 : decide ((lo : Int) ≥ 2) = true := decide_eq_true (by omega)
      by_cases h2 : 2 ≤ lc
      · have d2 : decide ((lc : Int) ≥ 2) = true := decide_eq_true (by omega)
        have hN : N = 2 := by rw [HN.out, if_pos ⟨h1, h2⟩]
        have HN' := Lib.hid hN
        clear hN
        go_wp2_with fail
        go_meet
        exact ⟨by rw [HN'.out]; rfl, rfl⟩
      · have d2 : decide ((lc : Int) ≥ 2) = false := decide_eq_false (by omega)
        have hN : N = 1 := by rw [HN.out, if_neg (by omega)]
        have HN' := Lib.hid hN
        clear hN
        go_wp2_with fail
        go_meet
        exact ⟨by rw [HN'.out]; rfl, rfl⟩
    · have d1 : decide ((lo : Int) ≥ 2) = false := decide_eq_false (by omega)
      have hN : N = 1 := by rw [HN.out, if_neg (by omega)]
      have HN' := Lib.hid hN
      clear hN
      go_wp2_with fail
      go_meet
      exact ⟨by rw [HN'.out]; rfl, rfl⟩
  case rest =>
  obtain ⟨rfl, rfl⟩ := hcut
  go_upto_if 46 with fail
  go_cut [8] (fun s8 wx => s8 = .int .i64 (N : Nat) ∧ w1 = wx)
  case first =>
    by_cases h1 : N = 2
    · have d1 : decide (N = 2) = true := decide_eq_true h1
      have HN' := Lib.hid h1
      clear h1
      go_wp2_with fail
      go_meet
      exact ⟨by rw [HN'.out]; rfl, rfl⟩
    · have d1 : decide (N = 2) = false := decide_eq_false h1
      have hN : N = 1 := by
        have := HN.out
        split at this <;> omega
      have HN' := Lib.hid hN
      clear hN
      go_wp2_with fail
      go_meet
      exact ⟨by rw [HN'.out]; rfl, rfl⟩
  case rest =>
  obtain ⟨rfl, rfl⟩ := hcut
  have hN1 : 1 ≤ N ∧ N ≤ 2 ∧ N ≤ lo ∧ N ≤ lc := by rw [HN.out]; split <;> omega
  go_wp2_with fail
  have hE1 := HH.out.below HBW.out
  ((with_reducible refine (HBE.out w1 hE1 (HLS.out.keep (fun g hg => HBW.out.block g (HH.out.fro g hg).1) fun _ h => h)).mono ?_))
  rintro e W1 ⟨v, vsk, rfl, k1, k2, k3⟩
  obtain ⟨A5, n5, hv5, -, -⟩ := own_form k2
  subst hv5
  have HE1 := Lib.hid (hE1.moreNew k3 (by have := HBW.out.size; omega))
  have HK1 := Lib.hid k1
  have HK2 := Lib.hid k2
  have HK3 := Lib.hid k3
  have HBT : Hid (Below base w W1) := Lib.hid ((HBW.out.mono hbase).trans (k3.mono (by have := HBW.out.size; omega)))
  clear k1 k2 k3 hE1 g1 g2 g3
  have HB6 := Lib.hid fun (k : Int) => inK_one k A5 kids.length n5
  have hE2 := HE1.out
  have c0 := hE2.cel.c0
  have hbW : b < W1.heap.size := by have := HBT.out.size; omega
  have hch : W1.cell? ⟨b, off + pc * 18 + 11, none⟩ = some (.string PC.ch) := (HK3.out.cell (p := ⟨b, off + pc * 18 + 11, none⟩) (by show b < w1.heap.size; have := HBW.out.size; omega)).trans g4
  have hpW := hE2.cel.lt
  clear hE2 g4 g0
  go_upto_block 0 with (refine wpList_store_row rfl 37 (.tmp 9) (.tmp 51) rfl W1.heap.size (inK 6 A5 kids.length n5) rfl rfl 37 _ (Blk.new _ _ _) inl_size (by rfl) (HB6.out 6) ?_; rw [World.setRow_alloc_new]; simp only [Act.put])
  have X0 : Hid (Blk (W1.alloc (.cells (inK 6 A5 kids.length n5) 37)) W1.heap.size 37 (inK 6 A5 kids.length n5) ∧ Below W1.heap.size W1 (W1.alloc (.cells (inK 6 A5 kids.length n5) 37))) := Lib.hid ⟨Blk.new _ _ _, (Below.refl _ W1).alloc (Nat.le_refl _) _⟩
  have c0' : (W1.alloc (.cells (inK 6 A5 kids.length n5) 37)).cell? ⟨p, 0, none⟩ = some (.slice (some ⟨b, off, none⟩) ps.length cl) := (World.cell?_alloc_lt W1 _ ⟨p, 0, none⟩ hpW).trans c0
  have hch' : (W1.alloc (.cells (inK 6 A5 kids.length n5) 37)).cell? ⟨b, off + pc * 18 + 11, none⟩ = some (.string PC.ch) := (World.cell?_alloc_lt W1 _ ⟨b, off + pc * 18 + 11, none⟩ hbW).trans hch
  clear c0 hch
  generalize W1.alloc (.cells (inK 6 A5 kids.length n5) 37) = W2 at *
  go_cut [] (fun wx => Blk wx W1.heap.size 37 (inK KK A5 kids.length n5) ∧ Below W1.heap.size W1 wx)
  case first =>
    obtain ⟨x0, x00⟩ := X0.out
    have x1 := x0.frozen 0
    have x2 : W2.cell? ⟨W1.heap.size, 0, none⟩ = some (.int .i64 6) := x0.cell 0
    have HB := Lib.hid fun (k : Int) (hk : KK = k) => (show Blk (W2.setCell ⟨W1.heap.size, 0, none⟩ (.int .i64 k)) W1.heap.size 37 (inK KK A5 kids.length n5) ∧ Below W1.heap.size W1 (W2.setCell ⟨W1.heap.size, 0, none⟩ (.int .i64 k)) by
      subst hk
      exact ⟨x0.set_ 0 (.int .i64 KK), x00.setCell (p := ⟨W1.heap.size, 0, none⟩) (Nat.le_refl _) _⟩)
    have HB6 : Hid (KK = 6 → Blk W2 W1.heap.size 37 (inK KK A5 kids.length n5) ∧ Below W1.heap.size W1 W2) := Lib.hid fun hk => by subst hk; exact ⟨x0, x00⟩
    clear x0 x00
    by_cases ht : PC.ch.toList = [126]
    · have d1 : (PC.ch.toList == [126]) = true := beq_iff_eq.2 ht
      have HF := Lib.hid (HB.out 8 (by rw [HKd.out, if_pos ht]))
      clear ht HB HB6
      go_wp2_with fail
      go_meet
      exact HF.out
    · have d1 : (PC.ch.toList == [126]) = false := beq_eq_false_iff_ne.2 ht
      by_cases h2 : N = 2
      · have d2 : ((N : Int) == 2) = true := beq_iff_eq.2 (by omega)
        have HF := Lib.hid (HB.out 7 (by rw [HKd.out, if_neg ht, if_pos h2]))
        clear h2 HB HB6
        go_wp2_with fail
        go_meet
        exact HF.out
      · have d2 : ((N : Int) == 2) = false := beq_eq_false_iff_ne.2 (by omega)
        have HF := Lib.hid (HB6.out (by rw [HKd.out, if_neg ht, if_neg h2]))
        clear HB HB6
        go_wp2_with fail
        go_meet
        exact HF.out
  case rest =>
  obtain ⟨q1, q2⟩ := hcut
  have hE3 := HE1.out.below q2
  have hI3 : RepI wc (fun g' => S g' ∨ (w1.heap.size ≤ g' ∧ g' < W1.heap.size)) (inK KK A5 kids.length n5) (kidT KK kids) := (inK_rep KK HK1.out HK2.out).keep (fun g' hg' => q2.block g' (by
    rcases hg' with h | h
    · have := (HH.out.fro g' h).1; have := HBW.out.size; have := HK3.out.size; omega
    · exact h.2)) fun _ h => h
  clear c0' hch' X0
  obtain ⟨⟨v4, e4⟩, b4, kp4⟩ := hE3.stN o c (by omega)
  obtain ⟨⟨v5, e5⟩, b5, kp5⟩ := e4.stB c o (by show c < (setN _ _ _).length; rw [len_setN]; omega)
  have m1 := hE3.cel.c1
  obtain ⟨-, -, -, mo⟩ := hE3.at_ o (by omega)
  obtain ⟨-, -, mc, -⟩ := hE3.at_ c (by omega)
  have fz := hE3.frE
  have hne := hE3.ne
  have hne' := hne.symm
  have hgx : W1.heap.size ≠ g := by have := (HH.out.els.lt g rfl).2; have := HBW.out.size; have := HK3.out.size; omega
  have hx5 : Blk ((wc.setCell ⟨g, o * 15 + 14, none⟩ (.int .i64 c)).setCell ⟨g, c * 15 + 13, none⟩ (.int .i64 o)) W1.heap.size 37 (inK KK A5 kids.length n5) := (q1.far (p := ⟨g, o * 15 + 14, none⟩) hgx _).far (p := ⟨g, c * 15 + 13, none⟩) hgx _
  have hI5 := hI3.keep (w' := (wc.setCell ⟨g, o * 15 + 14, none⟩ (.int .i64 c)).setCell ⟨g, c * 15 + 13, none⟩ (.int .i64 o)) (fun g' hg' => (Below.heap_setCell _ ⟨g, c * 15 + 13, none⟩ _ g' (by
    have := (hE3.notS hg').2.1
    exact fun e => this (by rw [e]; rfl))).trans (Below.heap_setCell _ ⟨g, o * 15 + 14, none⟩ _ g' (by
    have := (hE3.notS hg').2.1
    exact fun e => this (by rw [e]; rfl)))) fun _ h => h
  have HX5 : Hid (Blk ((wc.setCell ⟨g, o * 15 + 14, none⟩ (.int .i64 c)).setCell ⟨g, c * 15 + 13, none⟩ (.int .i64 o)) W1.heap.size 37 #[.int .i64 KK, .string ⟨#[]⟩, .string ⟨#[]⟩, .string ⟨#[]⟩, .string ⟨#[]⟩, .slice none 0 0, .slice none 0 0, .slice none 0 0, .slice none 0 0, .slice A5 kids.length n5]) := Lib.hid hx5
  have HE5 := Lib.hid e5
  have HB5 : Hid (Below base w ((wc.setCell ⟨g, o * 15 + 14, none⟩ (.int .i64 c)).setCell ⟨g, c * 15 + 13, none⟩ (.int .i64 o))) := Lib.hid (HBT.out.trans ((q2.mono (by have := HBT.out.size; omega)).trans (b4.trans b5)))
  have HI5 := Lib.hid hI5
  have HKP5 : Hid (∀ q, (S q ∨ (w1.heap.size ≤ q ∧ q < W1.heap.size)) → ((wc.setCell ⟨g, o * 15 + 14, none⟩ (.int .i64 c)).setCell ⟨g, c * 15 + 13, none⟩ (.int .i64 o)).heap[q]? = W1.heap[q]?) := Lib.hid fun q hq => (kp5 q hq).trans ((kp4 q hq).trans (q2.block q (by
    rcases hq with h | h
    · have := (HH.out.fro q h).1; have := HBW.out.size; have := HK3.out.size; omega
    · exact h.2)))
  have HKW : Hid (∀ q, S q → W1.heap[q]? = w.heap[q]?) := Lib.hid fun q hq => (HK3.out.block q (by have := (HH.out.fro q hq).1; have := HBW.out.size; omega)).trans (HBW.out.block q (HH.out.fro q hq).1)
  clear kp4 kp5
  clear hx5 e5 e4 b4 b5 hI5 hI3 hE3 q1 q2
  go_wp2_with (refine wpList_load_row rfl 37 (.tmp 9) rfl W1.heap.size rfl 37 #[.int .i64 KK, .string ⟨#[]⟩, .string ⟨#[]⟩, .string ⟨#[]⟩, .string ⟨#[]⟩, .slice none 0 0, .slice none 0 0, .slice none 0 0, .slice none 0 0, .slice A5 kids.length n5] _ _ HX5.out Try.underlying37 rfl inl_size ?_)
  have HINS : Hid (Calls Try.prog 32 #[.pointer (some ⟨p, 0, none⟩), .agg #[.int .i64 KK, .string ⟨#[]⟩, .string ⟨#[]⟩, .string ⟨#[]⟩, .string ⟨#[]⟩, .slice none 0 0, .slice none 0 0, .slice none 0 0, .slice none 0 0, .slice A5 kids.length n5, .bool false, .int .i64 0, .int .i64 0, .int .i64 0, .int .i64 0], .int .i64 c] ((wc.setCell ⟨g, o * 15 + 14, none⟩ (.int .i64 c)).setCell ⟨g, c * 15 + 13, none⟩ (.int .i64 o)) (InsPost base p (.slice (some ⟨b, off, none⟩) ps.length cl) vO vP (fun g' => S g' ∨ (w1.heap.size ≤ g' ∧ g' < W1.heap.size)) { st with xs := setBf (setN st.xs o c) c o } { st with xs := insX (setBf (setN st.xs o c) c o) { t := kidT KK kids } c } ((wc.setCell ⟨g, o * 15 + 14, none⟩ (.int .i64 c)).setCell ⟨g, c * 15 + 13, none⟩ (.int .i64 o)))) :=
    Lib.hid (e_insert ((wc.setCell ⟨g, o * 15 + 14, none⟩ (.int .i64 c)).setCell ⟨g, c * 15 + 13, none⟩ (.int .i64 o)) HE5.out (by have := HB5.out.size; omega) _ _ _ _ _ _ _ _ _ _ (kidT KK kids) false 0 0 0 0 c HI5.out (by show c < (setBf _ _ _).length; rw [len_setBf, len_setN]; omega) (by show bf (setBf _ _ _) c ≤ (setBf _ _ _).length; rw [bf_setBf, len_setBf, len_setN, if_pos ⟨rfl, by omega⟩]; omega) (by show (setBf _ _ _).length ≤ _; rw [len_setBf, len_setN]; omega) { t := kidT KK kids } rfl)
  ((with_reducible refine HINS.out.mono ?_))
  rintro e W6 ⟨vE6, vs6, rfl, f1, f2, f3⟩
  have HKP6 : Hid (∀ q, (S q ∨ (w1.heap.size ≤ q ∧ q < W1.heap.size)) → W6.heap[q]? = W1.heap[q]?) := Lib.hid fun q hq => (f3 q hq).trans (HKP5.out q hq)
  clear f3 HKP5
  have hlX : (insX (setBf (setN st.xs o c) c o) { t := kidT KK kids } c).length = st.xs.length + 1 := by rw [len_ins, len_setBf, len_setN]
  have hcX : ∀ j, j < st.xs.length → lfX (insX (setBf (setN st.xs o c) c o) { t := kidT KK kids } c) j = lfX st.xs j := fun j hj => (core_eq (by rw [core_ins, len_setBf, len_setN, if_neg (by omega), core_setBf, core_setN] : core (insX (setBf (setN st.xs o c) c o) { t := kidT KK kids } c) j = core st.xs j)).2.2.2
  have hlo6 := hcX o (by omega)
  have hlc6 := hcX c (by omega)
  rw [HLO.out] at hlo6
  rw [HLC.out] at hlc6
  obtain ⟨AP, cP, hvP, hlmP, -⟩ := own_form f1.prs
  dsimp only at hvP
  subst hvP
  generalize hX3 : insX (setBf (setN st.xs o c) c o) { t := kidT KK kids } c = X3 at *
  have HX3 := Lib.hid hX3
  clear hX3 hcX
  obtain ⟨g6, cap6, hv6, -, -, hgp6, fz6, -⟩ := f1.row (by show 0 < X3.length; omega)
  dsimp only at hv6
  rw [hlX] at hv6
  subst hv6
  have hp6 := f1.cel.lt
  have m20 : W6.cell? ⟨p, 20, none⟩ = some (.slice AP st.prs.length cP) := f1.cel.cP
  have f20 := f1.cel.frozen 20
  obtain ⟨i0, hi0, hz0, hz1, hz2⟩ := info_parts trip_info
  have hAl : Below W6.heap.size W6 (W6.alloc (.cells #[.int .i64 po, .int .i64 pc, .int .i64 N] 30)) := (Below.refl _ W6).alloc (Nat.le_refl _) _
  have HF1 := Lib.hid f1
  have HAL := Lib.hid hAl
  have HB6' : Hid (Below base w W6) := Lib.hid (HB5.out.trans f2)
  have HPU := Lib.hid fun (W7 : World) (g7 cap7 : Nat) hown hgrow hlies => (f1.below hAl).pushP (w2 := W7) (x := (po, pc, N)) (g := g7) (cap := cap7) (H := W6.heap.size + 1) (by rw [World.size_alloc]; have := HB6'.out.size; omega) hown hgrow hlies (by rw [World.size_alloc]; exact Nat.le_refl _)
  have HNP := Lib.hid fun (W7 : World) (hgrow : (W6.alloc (.cells #[.int .i64 po, .int .i64 pc, .int .i64 N] 30)).grownBy W7 (Value.slice AP st.prs.length cP).ownBlock) => (show W7.cell? ⟨p, 20, none⟩ = some (.slice AP st.prs.length cP) ∧ W7.frozen? ⟨p, 20, none⟩ = false by
    have hne : (Value.slice AP st.prs.length cP).ownBlock ≠ some p := by
      obtain ⟨cs, hbk, _⟩ := f1.cel.blk
      exact own_blk f1.prs hbk (by decide)
    have hb : W7.heap[p]? = W6.heap[p]? := (hgrow.block p (by rw [World.size_alloc]; omega) (fun e => hne e.symm)).trans (hAl.block p hp6)
    exact ⟨(World.cell?_of_block (a := ⟨p, 20, none⟩) hb).trans m20, (World.frozen?_of_block (a := ⟨p, 20, none⟩) hb).trans f20⟩)
  have hWb : base ≤ W6.heap.size := by have := HB6'.out.size; omega
  clear f1 f2 hAl HINS HE5 HB5 HI5 HX5 HE1 HK1 HK2 HK3 HBT HBE m1 mo mc fz
  go_wp2_with (at_builtin; refine wpList_append_lies _ rfl _ _ 28 rfl base 30 i0 _ 3 24 Try.underlying28 hi0 hz0 hz1 hz2 rfl (by decide) _ _ _ rfl (HF1.out.prs.alloc _) ⟨W6.heap.size, 0, none⟩ 1 1 [.int .i64 po, .int .i64 pc, .int .i64 N] rfl rfl ?c1 ?c2 (by decide) ?c3 ?c4 ?c5 (W6.heap.size + 1) ?c6 ?_)
  case c1 => exact World.news_of_block (t := 30) (fr := (0, 0)) (heap_alloc_new W6 _)
  case c2 => simp [Value.oneCell']
  case c3 => unfold maxLen; omega
  case c4 => omega
  case c5 => simp; omega
  case c6 => simp
  intro g7 cap7 W7 hown hgrow hlies hlt7
  obtain ⟨n20, nf20⟩ := HNP.out W7 hgrow
  obtain ⟨p1, p2, p3⟩ := HPU.out W7 g7 cap7 hown hgrow hlies
  have HKP8 : Hid (∀ q, (S q ∨ (w1.heap.size ≤ q ∧ q < W1.heap.size)) → (W7.setCell ⟨p, 20, none⟩ (.slice (some ⟨g7, 0, none⟩) (st.prs.length + 1) cap7)).heap[q]? = W1.heap[q]?) := Lib.hid fun q hq => (p3 q hq).trans ((HAL.out.block q (HF1.out.fro q hq).1).trans (HKP6.out q hq))
  have HP1 := Lib.hid p1
  have HP2 := Lib.hid (HB6'.out.trans ((HAL.out.mono hWb).trans p2))
  clear p1 p2 p3 HKP6 hown hgrow hlies hlt7 HNP HPU HF1 HAL HB6' m20 f20
  go_upto_region 13 with fail
  generalize W7.setCell ⟨p, 20, none⟩ (.slice (some ⟨g7, 0, none⟩) (st.prs.length + 1) cap7) = W8 at *
  obtain ⟨lo', hlo'⟩ : ∃ lo', lo' = lo - N := ⟨_, rfl⟩
  obtain ⟨lc', hlc'⟩ : ∃ lc', lc' = lc - N := ⟨_, rfl⟩
  have s1 : (lo : Int) - (N : Int) = (lo' : Int) := by omega
  have s2 : (lc : Int) - (N : Int) = (lc' : Int) := by omega
  have hX5 : pairX ps st.xs o c = setLf (setLf X3 o lo') c lc' := by
    rw [HX.out]
    have e1 : (elX X3 o).left = lo := hlo6
    rw [e1, ← hlo']
    have e2 : (elX (setLf X3 o lo') c).left = lc := by
      rw [elX_setLf, if_neg (fun h => hoc h.1.symm)]; exact hlc6
    rw [e2, ← hlc']
  have E8 := HP1.out
  have z1 := E8.cel.c1
  obtain ⟨-, z2', -, -⟩ := E8.at_ o (by show o < X3.length; omega)
  obtain ⟨-, z3', -, -⟩ := E8.at_ c (by show c < X3.length; omega)
  have z2 : W8.cell? ⟨g6, o * 15 + 12, none⟩ = some (.int .i64 (lo : Nat)) := by rw [z2']; exact congrArg (fun x : Nat => some (Value.int .i64 (x : Int))) hlo6
  have z3 : W8.cell? ⟨g6, c * 15 + 12, none⟩ = some (.int .i64 (lc : Nat)) := by rw [z3']; exact congrArg (fun x : Nat => some (Value.int .i64 (x : Int))) hlc6
  clear z2' z3'
  have z4 := E8.frE
  have z5 := E8.ne
  have z6 := z5.symm
  obtain ⟨⟨v9, E9⟩, B9, K9⟩ := E8.stL o lo' (by show o < X3.length; omega)
  obtain ⟨⟨v10, E10⟩, B10, K10⟩ := E9.stL c lc' (by show c < (setLf X3 o lo').length; rw [len_setLf]; omega)
  have HE10 : Hid (EmR ((W8.setCell ⟨g6, o * 15 + 12, none⟩ (.int .i64 lo')).setCell ⟨g6, c * 15 + 12, none⟩ (.int .i64 lc')) base p (.slice (some ⟨b, off, none⟩) ps.length cl) (.slice (some ⟨g6, 0, none⟩) (st.xs.length + 1) cap6) vO (.slice (some ⟨g7, 0, none⟩) (st.prs.length + 1) cap7) (fun g' => S g' ∨ (w1.heap.size ≤ g' ∧ g' < W1.heap.size)) v10 { xs := pairX ps st.xs o c, ops := st.ops, prs := st.prs ++ [(po, pc, N)] }) := Lib.hid (by rw [hX5]; exact E10)
  have HB10 : Hid (Below base w ((W8.setCell ⟨g6, o * 15 + 12, none⟩ (.int .i64 lo')).setCell ⟨g6, c * 15 + 12, none⟩ (.int .i64 lc'))) := Lib.hid (HP2.out.trans (B9.trans B10))
  have HKP10 : Hid (∀ q, (S q ∨ (w1.heap.size ≤ q ∧ q < W1.heap.size)) → ((W8.setCell ⟨g6, o * 15 + 12, none⟩ (.int .i64 lo')).setCell ⟨g6, c * 15 + 12, none⟩ (.int .i64 lc')).heap[q]? = W1.heap[q]?) := Lib.hid fun q hq => (K10 q hq).trans ((K9 q hq).trans (HKP8.out q hq))
  clear K9 K10
  have hl5 : (pairX ps st.xs o c).length = st.xs.length + 1 := len_pairX ps st.xs o c
  have hR5 : RingI (pairX ps st.xs o c) (A ++ o :: (st.xs.length :: [c])) := RingI.pairX HI.out
  have hoL : lfX (pairX ps st.xs o c) o = lo' := by rw [hX5]; unfold lfX; rw [elX_setLf, if_neg (fun h => hoc h.1), elX_setLf, if_pos ⟨rfl, by omega⟩]
  have hcL : lfX (pairX ps st.xs o c) c = lc' := by rw [hX5]; unfold lfX; rw [elX_setLf, if_pos ⟨rfl, by rw [len_setLf]; omega⟩]
  have ho1 : 1 ≤ o := by
    have := hR5.two.2.2.2 o (by simp)
    omega
  have s3 : (o : Int) - 1 = ((o - 1 : Nat) : Int) := by omega
  have j1 : (o : Int) < (st.xs.length : Int) + 1 := by omega
  have j2 : (c : Int) < (st.xs.length : Int) + 1 := by omega
  obtain ⟨last, hlast⟩ : ∃ last, last = if lo' = 0 then o - 1 else o := ⟨_, rfl⟩
  have HLAST := Lib.hid hlast
  have HLX := Lib.hid hl5
  have HR5 := Lib.hid hR5
  have HOL := Lib.hid hoL
  have HCL := Lib.hid hcL
  have HMF : Hid (mtchA ps st o c = { xs := rmZ (rmZ (pairX ps st.xs o c) o) c, ops := fun j => popW last (st.ops j), prs := st.prs ++ [(po, pc, N)] }) := Lib.hid (by
    rw [HM.out]
    have e : (elX (pairX ps st.xs o c) o).left = lo' := hoL
    rw [e, ← hlast])
  clear E8 E9 E10 B9 B10 hX5 hlo6 hlc6 HP1 HP2 hlo' hlc' hlast hl5 hR5 hoL hcL HM HX HX3
  generalize pairX ps st.xs o c = X5 at *
  go_upto_if 134 with fail
  have hbR : base ≤ ((W8.setCell ⟨g6, o * 15 + 12, none⟩ (.int .i64 lo')).setCell ⟨g6, c * 15 + 12, none⟩ (.int .i64 lc')).heap.size := by have := HB10.out.size; omega
  clear z1 z2 z3 z4 z5 z6
  generalize (W8.setCell ⟨g6, o * 15 + 12, none⟩ (.int .i64 lo')).setCell ⟨g6, c * 15 + 12, none⟩ (.int .i64 lc') = W10 at *
  go_cut [10] (fun s10 wx => s10 = .int .i64 (last : Nat) ∧ MidS base p (.slice (some ⟨b, off, none⟩) ps.length cl) (.slice (some ⟨g6, 0, none⟩) (st.xs.length + 1) cap6) vO (.slice (some ⟨g7, 0, none⟩) (st.prs.length + 1) cap7) (fun g' => S g' ∨ (w1.heap.size ≤ g' ∧ g' < W1.heap.size)) w W1 { xs := rmZ X5 o, ops := st.ops, prs := st.prs ++ [(po, pc, N)] } wx)
  case first =>
    by_cases hz : lo' = 0
    · have d1 : ((lo' : Int) == 0) = true := beq_iff_eq.2 (by omega)
      have hl : last = o - 1 := by rw [HLAST.out, if_pos hz]
      have hrm : rmZ X5 o = rmX X5 o := by unfold rmZ; rw [if_pos (by rw [← hz]; exact HOL.out)]
      obtain ⟨nb1, nb2⟩ := HR5.out.nb
      have HRM := Lib.hid (e_remove W10 HE10.out hbR o (by show o < X5.length; rw [HLX.out]; omega) nb1 nb2)
      have HL := Lib.hid hl
      have HRX := Lib.hid hrm
      clear hz hl hrm nb1 nb2
      go_wp2_with fail
      ((with_reducible refine HRM.out.mono ?_))
      rintro e W11 ⟨v11, rfl, E11, B11, K11⟩
      have HK11 := Lib.hid K11
      clear K11
      have HE11 := Lib.hid E11
      have HB11 := Lib.hid B11
      clear E11 B11 HRM
      go_wp2_with fail
      go_meet
      exact ⟨by rw [HL.out], v11, by rw [HRX.out]; exact HE11.out, HB10.out.trans HB11.out, fun q hq => (HK11.out q hq).trans (HKP10.out q hq)⟩
    · have d1 : ((lo' : Int) == 0) = false := beq_eq_false_iff_ne.2 (by omega)
      have hl : last = o := by rw [HLAST.out, if_neg hz]
      have hrm : rmZ X5 o = X5 := by unfold rmZ; rw [if_neg (fun h => hz (by rw [← HOL.out]; exact h))]
      have HL := Lib.hid hl
      have HRX := Lib.hid hrm
      clear hl hrm
      go_wp2_with fail
      go_meet
      exact ⟨by rw [HL.out], v10, by rw [HRX.out]; exact HE10.out, HB10.out, HKP10.out⟩
  case rest =>
  obtain ⟨rfl, v11, E11, B11, K11⟩ := hcut
  have HKP11 := Lib.hid K11
  clear K11
  have hl6 : (rmZ X5 o).length = st.xs.length + 1 := by rw [len_rmZ, HLX.out]
  have hc6 : lfX (rmZ X5 o) c = lc' := by rw [(core_eq (core_rmZ X5 o c)).2.2.2]; exact HCL.out
  obtain ⟨A6, hR6, -⟩ := RingI.rmZ HR5.out
  have hR6' : RingI (rmZ X5 o) ((A6 ++ [st.xs.length]) ++ c :: []) := by simpa using hR6
  have z1 := E11.cel.c1
  obtain ⟨-, z3', -, -⟩ := E11.at_ c (by show c < (rmZ X5 o).length; omega)
  have z3 : wc.cell? ⟨g6, c * 15 + 12, none⟩ = some (.int .i64 (lc' : Nat)) := by rw [z3']; exact congrArg (fun x : Nat => some (Value.int .i64 (x : Int))) hc6
  clear z3'
  have hbR2 : base ≤ wc.heap.size := by have := B11.size; omega
  have HE11 := Lib.hid E11
  have HB11 := Lib.hid B11
  have HR6 := Lib.hid hR6'
  have HC6 := Lib.hid hc6
  have HL6 := Lib.hid hl6
  clear E11 B11 hR6 hR6' hc6 hl6 HE10 HB10
  generalize rmZ X5 o = X6 at *
  go_upto_if 148 with fail
  clear z1 z3
  go_cut [] (fun wx => MidS base p (.slice (some ⟨b, off, none⟩) ps.length cl) (.slice (some ⟨g6, 0, none⟩) (st.xs.length + 1) cap6) vO (.slice (some ⟨g7, 0, none⟩) (st.prs.length + 1) cap7) (fun g' => S g' ∨ (w1.heap.size ≤ g' ∧ g' < W1.heap.size)) w W1 { xs := rmZ X6 c, ops := st.ops, prs := st.prs ++ [(po, pc, N)] } wx)
  case first =>
    by_cases hz : lc' = 0
    · have d1 : ((lc' : Int) == 0) = true := beq_iff_eq.2 (by omega)
      have hrm : rmZ X6 c = rmX X6 c := by unfold rmZ; rw [if_pos (by rw [← hz]; exact HC6.out)]
      obtain ⟨nb1, nb2⟩ := HR6.out.nb
      have HRM := Lib.hid (e_remove wc HE11.out hbR2 c (by show c < X6.length; rw [HL6.out]; omega) nb1 nb2)
      have HRX := Lib.hid hrm
      clear hz hrm nb1 nb2
      go_wp2_with fail
      ((with_reducible refine HRM.out.mono ?_))
      rintro e W12 ⟨v12, rfl, E12, B12, K12⟩
      have HK12 := Lib.hid K12
      clear K12
      have HE12 := Lib.hid E12
      have HB12 := Lib.hid B12
      clear E12 B12 HRM
      go_wp2_with fail
      go_meet
      exact ⟨v12, by rw [HRX.out]; exact HE12.out, HB11.out.trans HB12.out, fun q hq => (HK12.out q hq).trans (HKP11.out q hq)⟩
    · have d1 : ((lc' : Int) == 0) = false := beq_eq_false_iff_ne.2 (by omega)
      have hrm : rmZ X6 c = X6 := by unfold rmZ; rw [if_neg (fun h => hz (by rw [← HC6.out]; exact h))]
      have HRX := Lib.hid hrm
      clear hrm
      go_wp2_with fail
      go_meet
      exact ⟨v11, by rw [HRX.out]; exact HE11.out, HB11.out, HKP11.out⟩
  case rest =>
  rename World => wd
  obtain ⟨v13, E13, B13, K13⟩ := hcut
  have HKP13 := Lib.hid K13
  clear K13
  have HEX := Lib.hid (e_exclude wd E13 last)
  have HB13 := Lib.hid B13
  clear E13 B13 HE11 HB11
  go_wp2_with fail
  ((with_reducible refine HEX.out.mono ?_))
  rintro e W14 ⟨vO', rfl, E14, B14, K14⟩
  have HF : Hid (PairPost base p (.slice (some ⟨b, off, none⟩) ps.length cl) S (mtchA ps st o c) w (.returned (.tuple #[])) W14) := Lib.hid ⟨_, vO', _, (fun g' => S g' ∨ (w1.heap.size ≤ g' ∧ g' < W1.heap.size)), _, rfl, by rw [HMF.out]; exact E14, fun _ h => Or.inl h, HB13.out.trans B14, fun q hq => (K14 q (Or.inl hq)).trans ((HKP13.out q (Or.inl hq)).trans (HKW.out q hq))⟩
  clear E14 B14 HEX K14
  go_wp2_with fail
  go_end0
  exact HF.out

end Go.Proofs.Ytfnloonmeilhlaa
namespace Go.Proofs.Ytfnloonmeilhlaa
open Go.RowKit Go.Pub
/-- What holds in the loop. -/
structure ClW (base p : Nat) (L : Value) (S : Nat → Prop) (ps : List PcT) (i c k l : Nat) (st0 : EmS) (w0 wr : World) : Prop where
  ex : ∃ vE vO vP S' vs st ids f, EmR wr base p L vE vO vP S' vs st ∧ ClI ps i c st ids ∧ closeF ps c f st = clsA ps c st0 ∧ lfX st.xs c ≤ f ∧ lfX st.xs c = l ∧ (∀ g, S g → S' g) ∧ st.xs.length + l ≤ k ∧ st.prs.length + l ≤ k
  bel : Below base w0 wr
  kp : ∀ q, S q → wr.heap[q]? = w0.heap[q]?
/-- How much of the closer is left, in memory. -/
def leftW (p c : Nat) (wr : World) : Nat :=
  match wr.cell? ⟨p, 1, none⟩ with
  | some (.slice (some a) _ _) => match wr.cell? ⟨a.block, c * 15 + 12, none⟩ with
    | some (.int _ n) => n.toNat
    | _ => 0
  | _ => 0
theorem leftW_eq {base p c g n cap : Nat} {L vP : Value} {vO : Nat → Value} {S : Nat → Prop} {vs : List (Array Value)} {st : EmS} {w : World} (h : EmR w base p L (.slice (some ⟨g, 0, none⟩) n cap) vO vP S vs st) (hc : c < st.xs.length) : leftW p c w = lfX st.xs c := by
  unfold leftW
  rw [h.cel.c1]
  obtain ⟨-, h2, -, -⟩ := h.at_ c hc
  dsimp only
  rw [h2]
  rfl
set_option maxRecDepth 100000 in
set_option maxHeartbeats 4000000 in
theorem e_closeRun {base p i c k : Nat} {L vE vP : Value} {vO : Nat → Value} {S : Nat → Prop} {vs : List (Array Value)} {st : EmS} {ps : List PcT} {ids : List Nat} (w : World) (h : EmR w base p L vE vO vP S vs st) (hI : ClI ps i c st ids) (hL : PcsR w (fun g => g < base) L ps) (hbase : base ≤ w.heap.size)
    (hk1 : st.xs.length + lfX st.xs c ≤ k) (hk2 : st.prs.length + lfX st.xs c ≤ k) (hk : k ≤ 190000) (hip : i < ps.length) (hn1 : 1 ≤ (pcX ps i).n) (hn2 : (pcX ps i).n ≤ 262144) :
    Calls Try.prog 33 #[.pointer (some ⟨p, 0, none⟩), .int .i64 c] w (PairPost base p L S (clsA ps c st) w) := by
  have H0 : Hid (ClW base p L S ps i c k (lfX st.xs c) st w w) := Lib.hid ⟨⟨vE, vO, vP, S, vs, st, ids, lfX st.xs c, h, hI, rfl, Nat.le_refl _, rfl, fun _ h => h, hk1, hk2⟩, Below.refl _ _, fun _ _ => rfl⟩
  have HL := Lib.hid hL
  have hp0 := h.cel.lt
  clear h hI hL hk1 hk2
  generalize lfX st.xs c = l0 at *
  go_enter Try.func33, Try.ntmps33
  go_wp2_with fail
  go_loopw [4] (fun v4 wr => ∃ l, Hid (ClW base p L S ps i c k l st w wr)) (fun _ wr => leftW p c wr)
  case atStart => exact ⟨l0, H0⟩
  case round =>
    clear H0
    obtain ⟨l, HI⟩ := hrel
    obtain ⟨⟨vE, vO, vP, S', vs, st1, ids1, f, h1, h2, h3, h4, h5, h6, h7, h8⟩, hb, hkp⟩ := HI.out
    have hpos : 0 < st1.xs.length := h2.em.ring.pos
    obtain ⟨g, cap, rfl, -, -, hgp, hfr, -⟩ := h1.row hpos
    have hlt := h2.lt
    have hci : (c : Int) < (st1.xs.length : Int) := by omega
    have m1 := h1.cel.c1
    obtain ⟨-, mc, -, -⟩ := h1.at_ c hlt
    have mc' : wr.cell? ⟨g, c * 15 + 12, none⟩ = some (.int .i64 (l : Nat)) := by rw [mc]; exact congrArg (fun x : Nat => some (Value.int .i64 (x : Int))) h5
    clear mc
    have hms := leftW_eq h1 hlt
    by_cases hl : l = 0
    · have d1 : decide ((l : Int) > 0) = false := decide_eq_false (by omega)
      have HF : Hid (PairPost base p L S (clsA ps c st) w (.returned (.tuple #[])) wr) := Lib.hid ⟨_, _, _, S', _, rfl, by rw [← h3, closeF_zero (by omega)]; exact h1, h6, hb, hkp⟩
      subst hl
      clear h1 h2 h3 h4 h5 h6 h7 h8 hb hkp HI hms d1
      go_wp2_with fail
      go_end0
      exact HF.out
    · have d1 : decide (l > 0) = true := decide_eq_true (by omega)
      have hl0 : lfX st1.xs c ≠ 0 := by omega
      have hbb : base ≤ wr.heap.size := by have := hb.size; omega
      have hLb : PcsR wr (fun g => g < base) L ps := HL.out.keep (fun g hg => hb.block g hg) fun _ h => h
      have HOP : Hid (Calls Try.prog 47 #[.pointer (some ⟨p, 0, none⟩), .int .i64 c] wr fun e w' => e = .returned (.tuple #[.int .i64 (clO ps st1 c : Nat), .bool (decide (0 < clO ps st1 c))]) ∧ Below wr.heap.size wr w') := Lib.hid (by
        have hpc := h2.pc
        exact e_opener wr h1 (hLb.keep (fun _ _ => rfl) h1.low) hbb c hlt (by rw [hpc]; exact hip) (by rw [hpc]; exact hn1) (by rw [hpc]; exact hn2) (fun k x hx => h2.em.ring.bd x (h2.em.ops k x hx).1) (by omega))
      by_cases hR : clO ps st1 c = 0
      · have HF : Hid (∀ W, Below wr.heap.size wr W → PairPost base p L S (clsA ps c st) w (.returned (.tuple #[])) W) := Lib.hid fun W hW => ⟨_, _, _, S', _, rfl, by rw [← h3, closeF_none hR]; exact h1.below hW, h6, hb.trans (hW.mono hbb), fun q hq => (hW.block q (h1.fro q (h6 q hq)).1).trans (hkp q hq)⟩
        rw [hR] at HOP
        clear h1 h2 h3 h4 h5 h6 h7 h8 hb hkp HI hms hLb hR
        go_wp2_with fail
        ((with_reducible refine HOP.out.mono ?_))
        rintro e W2 ⟨rfl, hb2⟩
        have HF2 := Lib.hid (HF.out _ hb2)
        clear hb2 HF HOP
        go_wp2_with fail
        go_end0
        exact HF2.out
      · obtain ⟨A, B, L', e1, hB, e2, q1, q2, q3, q4, q5, q6, q7, q8, q9⟩ := h2.pair hl0 hR
        have hpR := h2.rb _ q2
        have HPA := Lib.hid fun (W : World) (hW : Below wr.heap.size wr W) => e_pair (o := clO ps st1 c) (c := c) W (h1.below hW) q1 (hLb.keep (fun g hg => hW.block g (by omega)) fun _ h => h) (by have := hW.size; omega) hpR.1 (by rw [h2.pc]; exact hip) (fun x hx hr => by
            obtain ⟨r1, r2, r3⟩ := h2.rb x hr
            have r4 := (runP_spec r2).2.2.1
            exact ⟨r1, by rw [runP_size r2]; omega, by omega⟩) (by omega) (by omega) (by omega) (by omega) (by have := (runP_spec hpR.2.1).2.2.1; have := hpR.2.2; omega) (by have := h2.rb c h2.run; have := (runP_spec this.2.1).2.2.1; have := this; omega)
        have HF : Hid (∀ W2 W3, Below wr.heap.size wr W2 → PairPost base p L S' (mtchA ps st1 (clO ps st1 c) c) W2 (.returned (.tuple #[])) W3 → (∃ l, ClW base p L S ps i c k l st w W3) ∧ leftW p c W3 < leftW p c wr) := Lib.hid fun W2 W3 hW2 hP => by
          obtain ⟨vE3, vO3, vP3, S3, vs3, -, f1, f2, f3, f4⟩ := hP
          have hpos3 : 0 < (mtchA ps st1 (clO ps st1 c) c).xs.length := by omega
          obtain ⟨g3, cap3, hv3, -⟩ := f1.row hpos3
          subst hv3
          obtain ⟨f', rfl⟩ : ∃ f', f = f' + 1 := ⟨f - 1, by omega⟩
          refine ⟨⟨_, ⟨_, vO3, vP3, S3, vs3, _, L', f', f1, q6, by rw [← h3, closeF_some hl0 hR], by omega, rfl, fun g hg => f2 g (h6 g hg), by omega, by omega⟩, (hb.trans (hW2.mono hbb)).trans f3, fun q hq => (f4 q (h6 q hq)).trans ((hW2.block q (h1.fro q (h6 q hq)).1).trans (hkp q hq))⟩, ?_⟩
          rw [leftW_eq f1 (by omega), hms]
          exact q7
        obtain ⟨R, hRR⟩ : ∃ R, R = clO ps st1 c := ⟨_, rfl⟩
        rw [← hRR] at HOP HPA HF hR
        have d2 : decide (0 < R) = true := decide_eq_true (by omega)
        clear h1 h2 h3 h4 h5 h6 h7 h8 hb hkp HI hms hLb e1 e2 q1 q2 q3 q4 q5 q6 q7 q8 q9 hpR hRR
        go_wp2_with fail
        ((with_reducible refine HOP.out.mono ?_))
        rintro e W2 ⟨rfl, hb2⟩
        have HPA2 := Lib.hid (HPA.out W2 hb2)
        have HB2 := Lib.hid hb2
        clear hb2 HPA HOP
        go_wp2_with fail
        ((with_reducible refine HPA2.out.mono ?_))
        rintro e W3 hP
        have he : e = .returned (.tuple #[]) := by obtain ⟨_, _, _, _, _, he, _⟩ := hP; exact he
        subst he
        obtain ⟨⟨l', f1⟩, f2⟩ := HF.out W2 W3 HB2.out hP
        have HF1 := Lib.hid f1
        have HF2 := Lib.hid f2
        clear f1 f2 HF hP HPA2 HB2
        go_wp2_with fail
        go_roundw
        case rel => exact ⟨l', HF1⟩
        case measure => exact HF2.out

end Go.Proofs.Ytfnloonmeilhlaa
