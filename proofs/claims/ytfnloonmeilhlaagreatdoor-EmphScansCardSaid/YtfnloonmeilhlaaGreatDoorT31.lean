/-
  Texts of the proof, put together (what this law reaches): ScAA.
-/
import Derived.Test.YtfnloonmeilhlaaGreatDoorT29
import Derived.Test.YtfnloonmeilhlaaGreatDoorT30
import Derived.Test.YtfnloonmeilhlaaGreatDoorT21
import Derived.Test.YtfnloonmeilhlaaGreatDoorT27
import Derived.RangeFuncNested
import Derived.RangeFuncBound
import Derived.RangeFuncCalls
import Derived.RangeFuncLeaves
import Derived.OwnWalkIn
import Derived.TacticsInMore
import Derived.Laws.OwnMore
set_option linter.unusedVariables false
set_option linter.unusedSimpArgs false
namespace Go.Pub
def d0C : CitL := ⟨⟨#[]⟩, ⟨#[]⟩, ⟨#[]⟩, false⟩
theorem allC_some : ∀ ps : List (List UInt8), (∀ p ∈ ps, (citedI (mk p)).isSome = true) → allC ps = some (ps.map fun p => (citedI (mk p)).getD d0C)
  | [], _ => rfl
  | p :: ps, h => by
    have h1 := h p List.mem_cons_self
    unfold allC
    cases hc : citedI (mk p) with
    | none => rw [hc] at h1; cases h1
    | some c => rw [allC_some ps fun q hq => h q (List.mem_cons_of_mem _ hq)]; simp [hc]
theorem allC_none : ∀ (ps : List (List UInt8)) (p : List UInt8), p ∈ ps → citedI (mk p) = none → allC ps = none
  | q :: ps, p, h, hn => by
    unfold allC
    rcases List.mem_cons.1 h with rfl | h
    · rw [hn]; rfl
    · rw [allC_none ps p h hn]; cases citedI (mk q) <;> rfl
theorem semi_len : ∀ (l : List UInt8), (semiL l).length ≤ l.length + 1 ∧ ∀ p ∈ semiL l, p.length ≤ l.length
  | [] => ⟨by simp [semiL], fun p hp => by simp [semiL] at hp; subst hp; simp⟩
  | c :: l => by
    obtain ⟨h1, h2⟩ := semi_len l
    unfold semiL
    split
    · refine ⟨by simp; omega, fun p hp => ?_⟩
      rcases List.mem_cons.1 hp with rfl | hp
      · simp
      · have := h2 p hp; simp; omega
    · split
      · exact ⟨by simp, fun p hp => by simp at hp; subst hp; simp⟩
      · rename_i q qs he
        rw [he] at h1 h2
        refine ⟨by simp at h1 ⊢; omega, fun p hp => ?_⟩
        rcases List.mem_cons.1 hp with rfl | hp
        · have := h2 q List.mem_cons_self; simp; omega
        · have := h2 p (List.mem_cons_of_mem _ hp); simp; omega
theorem bad_set (l : List UInt8) : l.any ([91, 93, 123, 96, 36, 10].contains ·) = l.any badC := by
  congr 1; funext b
  unfold badC
  show (b == 91 || (b == 93 || (b == 123 || (b == 96 || (b == 36 || (b == 10 || false)))))) = _
  rw [Bool.or_false]; simp only [Bool.or_assoc]
end Go.Pub
namespace Go.Proofs.YtfnloonmeilhlaaGreatDoor
open Go.RowKit Go.Pub
attribute [local go_sem] Oper.semAt_some
/-- The citations of a string, or that it has none. -/
def CitesPost (r : Option (List CitL)) (w : World) (e : Ending) (w' : World) : Prop :=
  Below w.heap.size w w' ∧ match r with
  | none => e = .returned (.tuple #[.slice none 0 0, .bool false])
  | some cs => ∃ A c, e = .returned (.tuple #[.slice A cs.length c, .bool true]) ∧ ReadsS w' (Rg w.heap.size w') 4 A cs.length (citCs cs)
def citG (x : StrP) : CitL := (citedI x.1).getD d0C
def citF (pre : List StrP) : List Value := pre.flatMap fun x => citC (citG x)
theorem cited_info : (Tryz.prog.info? 99).map (fun i => (i.zero, i.size, i.bytes)) = some (some (.agg #[.string ⟨#[]⟩, .string ⟨#[]⟩, .string ⟨#[]⟩, .bool false]), 4, 56) := by kernel_rfl
theorem asc_bad : ∀ b ∈ bytesL (⟨#[91, 93, 123, 96, 36, 10]⟩ : ByteArray), b.toNat < 128 := by
  intro b hb
  have h : b ∈ ([91, 93, 123, 96, 36, 10] : List UInt8) := hb
  have : ∀ b ∈ ([91, 93, 123, 96, 36, 10] : List UInt8), b.toNat < 128 := by decide
  exact this b h
theorem appendedS {W w1 : World} {B n₀ : Nat} {t e : TypeId} {size : Nat} {v v' : Value} {k m : Nat} {xs ys : List Value} {tmp : Obj}
    (hv : Boxed W B t v) (hB : B < n₀) (hrow : W.ownsRow n₀ e size v k xs) (hz : n₀ ≤ W.heap.size) (hown' : w1.ownsRow n₀ e size v' m ys) (hgrow : (W.alloc tmp).grownBy w1 v.ownBlock) :
    Boxed w1 B t v ∧ Boxed (w1.setCell ⟨B, 0, none⟩ v') B t v' ∧ (w1.setCell ⟨B, 0, none⟩ v').ownsRow n₀ e size v' m ys ∧ KeepsOthers W (w1.setCell ⟨B, 0, none⟩ v') ∧ Below B W (w1.setCell ⟨B, 0, none⟩ v') ∧ (∀ g, g < n₀ → g ≠ B → (w1.setCell ⟨B, 0, none⟩ v').heap[g]? = W.heap[g]?) := by
  have hv1 : Boxed w1 B t v := (hv.alloc tmp).kept hgrow (own_far hrow hB)
  refine ⟨hv1, hv1.set v', hown'.kept (grownBy_setCell' w1 B v') (.inr (own_far hown' hB).symm), ?_, ?_, fun g hg hne => ?_⟩
  · refine ((KeepsOthers.alloc W tmp).trans (KeepsOthers.of_grownBy hgrow fun j o ej hj => ?_)).trans (KeepsOthers.setCell _ _ _)
    rcases (hrow.alloc tmp).2 with ⟨rfl, _⟩ | ⟨g, cap, cur, rfl, _, hgb, _⟩
    · simp [Value.ownBlock] at ej
    · obtain rfl : g = j := by simpa [Value.ownBlock] using ej
      rw [hgb] at hj; cases hj; rfl
  · refine (((Below.refl B W).alloc (by omega) tmp).grown hgrow (by simp; omega) fun j ej => ?_).setCell (p := ⟨B, 0, none⟩) (Nat.le_refl _) v'
    rcases Nat.lt_or_ge j B with h | h
    · exact absurd ej.symm (own_far hrow (by omega))
    · exact h
  · exact (Below.heap_setCell w1 ⟨B, 0, none⟩ v' g hne).trans ((hgrow.block g (by simp; omega) (own_far hrow hg)).trans (Below.heap_alloc W tmp g (by omega)))
set_option maxRecDepth 100000 in
set_option maxHeartbeats 4000000 in
theorem s_Cites (s : ByteArray) (w : World) (hs : s.size ≤ 1000000) : Calls Tryz.prog 61 #[.string s] w (CitesPost (citesI s) w) := by
  have HC : Hid (∀ W, Calls Tryz.prog 85 #[.string s, .string ⟨#[91, 93, 123, 96, 36, 10]⟩] W fun e w' => e = .returned (.bool ((bytesL s).any badC)) ∧ Below W.heap.size W w') := Lib.hid fun W => by
    have := containsX s ⟨#[91, 93, 123, 96, 36, 10]⟩ W asc_bad (by decide) (by decide) hs
    rwa [show bytesL (⟨#[91, 93, 123, 96, 36, 10]⟩ : ByteArray) = [91, 93, 123, 96, 36, 10] from rfl, bad_set] at this
  have HS := Lib.hid fun W => split_seq s W
  have hlen := semi_len (bytesL s)
  rw [bytesL_length] at hlen
  have HI : Hid (citesI s = if (bytesL s).any badC = true then none else allC (semiL (bytesL s))) := Lib.hid rfl
  generalize citesI s = R at *
  obtain ⟨i0, hi0, hz0, hz1, hz2⟩ := info_parts cited_info
  refine (callsIn_wide (n := 5)).1 ?_
  refine callsIn_of_wp_marks Tryz.func61 rfl trivial ?_ rfl
  simp only [Tryz.ntmps61, List.size_toArray, List.length_cons, List.length_nil, Nat.reduceAdd, Nat.reduceSub, Array.replicate_succ, Array.replicate_zero, List.push_toArray, List.append_toArray, List.nil_append, List.cons_append]
  gi_wp2_with fail
  refine ⟨trivial, ?_⟩
  ((with_reducible refine (callsIn_wide.2 (HC.out _)).mono ?_))
  rintro e W1 ⟨rfl, q1⟩
  have hr0 := Boxed.new w 29 (.slice none 0 0)
  have hr1 := Boxed.new (w.alloc (.cells #[.slice none 0 0] 29)) 4 (.bool false)
  rw [World.size_alloc] at hr1
  have R0 : Boxed W1 w.heap.size 29 (.slice none 0 0) := (q1.block _ (by simp; omega)).trans (hr0.alloc _)
  have R1 : Boxed W1 (w.heap.size + 1) 4 (.bool false) := (q1.block _ (by simp)).trans hr1
  have QB : Below w.heap.size w W1 := (((Below.refl _ w).alloc (Nat.le_refl _) _).alloc (by simp) _).trans (q1.mono (by simp; omega))
  have z1 := R1.lt
  clear q1 hr0 hr1
  cases hbad : (bytesL s).any badC
  · rw [hbad, if_neg (by simp)] at HI
    gi_wp2_with fail
    refine ⟨trivial, ?_⟩
    ((with_reducible refine (callsIn_wide.2 (HS.out _)).mono ?_))
    rintro e W2 ⟨rfl, rfl⟩
    gi_wp2_with fail
    have BB : Boxed ((((W1.alloc (.cells #[.slice none 0 0] 29)).alloc (.cells #[.string s] 9)).alloc (.cells #[.string ⟨#[59]⟩] 9)).alloc (.cells #[.int .i64 0] 3)) W1.heap.size 29 (.slice none 0 0) := (((Boxed.new W1 _ _).alloc _).alloc _).alloc _
    have SB : SqB (W1.heap.size + 1) (W1.heap.size + 1 + 1) (W1.heap.size + 1 + 2) s ((((W1.alloc (.cells #[.slice none 0 0] 29)).alloc (.cells #[.string s] 9)).alloc (.cells #[.string ⟨#[59]⟩] 9)).alloc (.cells #[.int .i64 0] 3)) := by
      have x1 := Boxed.new (W1.alloc (.cells #[.slice none 0 0] 29)) 9 (.string s)
      have x2 := Boxed.new ((W1.alloc (.cells #[.slice none 0 0] 29)).alloc (.cells #[.string s] 9)) 9 (.string ⟨#[59]⟩)
      have x3 := Boxed.new (((W1.alloc (.cells #[.slice none 0 0] 29)).alloc (.cells #[.string s] 9)).alloc (.cells #[.string ⟨#[59]⟩] 9)) 3 (.int .i64 0)
      simp only [World.size_alloc] at x1 x2 x3
      exact ⟨(x1.alloc _).alloc _, x2.alloc _, x3⟩
    have RX0 : Boxed ((((W1.alloc (.cells #[.slice none 0 0] 29)).alloc (.cells #[.string s] 9)).alloc (.cells #[.string ⟨#[59]⟩] 9)).alloc (.cells #[.int .i64 0] 3)) w.heap.size 29 (.slice none 0 0) := (((R0.alloc _).alloc _).alloc _).alloc _
    have RX1 : Boxed ((((W1.alloc (.cells #[.slice none 0 0] 29)).alloc (.cells #[.string s] 9)).alloc (.cells #[.string ⟨#[59]⟩] 9)).alloc (.cells #[.int .i64 0] 3)) (w.heap.size + 1) 4 (.bool false) := (((R1.alloc _).alloc _).alloc _).alloc _
    have QX : Below w.heap.size w ((((W1.alloc (.cells #[.slice none 0 0] 29)).alloc (.cells #[.string s] 9)).alloc (.cells #[.string ⟨#[59]⟩] 9)).alloc (.cells #[.int .i64 0] 3)) := (((QB.alloc (by omega) _).alloc (by simp; omega) _).alloc (by simp; omega) _).alloc (by simp; omega) _
    have zX : ((((W1.alloc (.cells #[.slice none 0 0] 29)).alloc (.cells #[.string s] 9)).alloc (.cells #[.string ⟨#[59]⟩] 9)).alloc (.cells #[.int .i64 0] 3)).heap.size = W1.heap.size + 4 := by simp
    generalize ((((W1.alloc (.cells #[.slice none 0 0] 29)).alloc (.cells #[.string s] 9)).alloc (.cells #[.string ⟨#[59]⟩] 9)).alloc (.cells #[.int .i64 0] 3)) = X at *
    clear R0 R1 QB
    refine range_steps rfl (by omega) (gf := 112) (lb := #[.pointer (some ⟨W1.heap.size + 1 + 1, 0, none⟩), .pointer (some ⟨W1.heap.size + 1, 0, none⟩), .pointer (some ⟨W1.heap.size + 1 + 2, 0, none⟩)]) rfl trivial (enters_of Tryz.func112 (by kernel_rfl) rfl)
      (Kp := KpS (W1.heap.size + 1) (W1.heap.size + 1 + 1) (W1.heap.size + 1 + 2)) (St := StB (W1.heap.size + 1)) (split_stops 4 (by omega) (W1.heap.size + 1) (W1.heap.size + 1 + 1) (W1.heap.size + 1 + 2) (by omega) (by omega) s hs _ SB)
      (fun h1 h2 => ⟨h2.1.trans h1.1, h2.2.1.trans h1.2.1, h2.2.2.trans h1.2.2⟩)
      (fun W l o o' hl ho hc _ => ⟨World.putObj_heap_other (by omega), World.putObj_heap_other (by omega), World.putObj_heap_other (by omega)⟩) (fun _ => rfl)
      (fun (pre : List StrP) W => (∃ v, Boxed W W1.heap.size 29 v ∧ W.ownsRow (W1.heap.size + 4) 99 4 v pre.length (citF pre) ∧ (∀ x ∈ pre, (citedI x.1).isSome = true)) ∧ (Boxed W w.heap.size 29 (.slice none 0 0) ∧ (Boxed W (w.heap.size + 1) 4 (.bool false) ∧ Below w.heap.size X W)))
      (fun c pre W => (c = Code.ret ∧ ∃ x ∈ pre, citedI x.1 = none) ∧ (Boxed W w.heap.size 29 (.slice none 0 0) ∧ (Boxed W (w.heap.size + 1) 4 (.bool false) ∧ Below w.heap.size X W)))
      (OwnFrom.and (Own.from (holdsRow_own (W1.heap.size + 4) W1.heap.size 29 99 4 (fun (pre : List StrP) => pre.length) (fun pre => citF pre) (fun pre _ => ∀ x ∈ pre, (citedI x.1).isSome = true)) _) (OwnFrom.and (Own.from (boxed_own w.heap.size 29 (fun _ => .slice none 0 0)) _) (OwnFrom.and (Own.from (boxed_own (w.heap.size + 1) 4 (fun _ => .bool false)) _) (ownFrom_below QX.size QX.size))))
      (fun c => OwnFrom.and (fun _ _ _ _ hs _ _ => hs) (OwnFrom.and (Own.from (boxed_own w.heap.size 29 (fun _ => .slice none 0 0)) _) (OwnFrom.and (Own.from (boxed_own (w.heap.size + 1) 4 (fun _ => .bool false)) _) (ownFrom_below QX.size QX.size))))
      (fun pre A B h hst => by
        obtain ⟨v, rfl⟩ := hst
        obtain ⟨⟨u, k1, k2, k3⟩, k4, k5, k6⟩ := h
        exact ⟨⟨u, k1.other (by omega) _, ownsRow_setCell_below k2 (by show W1.heap.size + 1 < W1.heap.size + 4; omega) _, k3⟩, k4.other (by omega) _, k5.other (by omega) _, k6.setCell (p := ⟨W1.heap.size + 1, 0, none⟩) (by show w.heap.size ≤ W1.heap.size + 1; omega) _⟩)
      (fun A B hst k hk => by
        obtain ⟨v, rfl⟩ := hst
        exact Below.heap_setCell _ _ _ k (by show k ≠ W1.heap.size + 1; omega))
      ⟨⟨_, BB, World.ownsRow_nil _ _ _ _, by simp⟩, RX0, RX1, Below.refl _ _⟩
      (fun (x : StrP) => { tmps := #[.string s, undef, .pointer (some ⟨w.heap.size, 0, none⟩), .pointer (some ⟨w.heap.size + 1, 0, none⟩), .pointer (some ⟨W1.heap.size, 0, none⟩), .string x.1, undef, undef, .string s, .bool false, .string s, .func (.func 112) #[] #[.pointer (some ⟨W1.heap.size + 1 + 1, 0, none⟩), .pointer (some ⟨W1.heap.size + 1, 0, none⟩), .pointer (some ⟨W1.heap.size + 1 + 2, 0, none⟩)], .string x.1, undef, undef, undef, undef, undef, undef, undef, undef, undef, undef, undef, undef], defers := [] }) ?assign ?body ?done ?stop
    case assign =>
      intro l x W K hK
      gi_wp2_with fail
      exact hK
    case body =>
      rintro l pre x W ⟨⟨v, hv, hrow, hsome⟩, hr0, hr1, hB⟩ hlt
      have hcd := fun W => s_cited x.1 W x.2
      have hzW := hv.lt
      cases hc : citedI x.1 with
      | none =>
        rw [hc] at hcd
        have HCd : Hid (∀ W, Calls Tryz.prog 87 #[.string x.1] W fun e w' => e = .returned (.tuple #[.agg #[.string ⟨#[]⟩, .string ⟨#[]⟩, .string ⟨#[]⟩, .bool false], .bool false]) ∧ Below W.heap.size W w') := Lib.hid hcd
        clear hcd
        gi_wp2_with fail
        refine ⟨trivial, ?_⟩
        ((with_reducible refine (CallsIn.inRound l (callsIn_wide.2 (HCd.out _))).mono ?_))
        rintro e W4 ⟨rfl, b4⟩
        have k0 : Boxed W4 w.heap.size 29 (.slice none 0 0) := (b4.block _ hr0.lt).trans hr0
        have k1 : Boxed W4 (w.heap.size + 1) 4 (.bool false) := (b4.block _ hr1.lt).trans hr1
        have hB4 := hB.trans (b4.mono (Nat.le_trans QX.size hB.size))
        have a0 := (k0.alloc (.cells #[.string ⟨#[]⟩, .string ⟨#[]⟩, .string ⟨#[]⟩, .bool false] 99))
        have a1 := (k1.alloc (.cells #[.string ⟨#[]⟩, .string ⟨#[]⟩, .string ⟨#[]⟩, .bool false] 99))
        have f0 := a0.frozen
        have f1 := a1.frozen
        have c0 := a0.cell
        have c1 := a1.cell
        have d0 := (a0.set (.slice none 0 0)).other (B' := w.heap.size + 1) (by omega) (.bool false)
        have d1 := (a1.other (B' := w.heap.size) (by omega) (.slice none 0 0)).set (.bool false)
        have KO := ((keeps_of_below b4).trans (KeepsOthers.alloc W4 (.cells #[.string ⟨#[]⟩, .string ⟨#[]⟩, .string ⟨#[]⟩, .bool false] 99))).trans ((KeepsOthers.setCell _ ⟨w.heap.size, 0, none⟩ (.slice none 0 0)).trans (KeepsOthers.setCell _ ⟨w.heap.size + 1, 0, none⟩ (.bool false)))
        have hB5 := ((hB4.alloc (Nat.le_trans QX.size hB4.size) (.cells #[.string ⟨#[]⟩, .string ⟨#[]⟩, .string ⟨#[]⟩, .bool false] 99)).setCell (p := ⟨w.heap.size, 0, none⟩) (Nat.le_refl _) (.slice none 0 0)).setCell (p := ⟨w.heap.size + 1, 0, none⟩) (by show w.heap.size ≤ w.heap.size + 1; omega) (.bool false)
        have H5 := Lib.hid (And.intro d0 (And.intro d1 hB5))
        have HK := Lib.hid KO
        clear a0 a1 d0 d1 hB5 KO k0 k1 hB4
        gi_wp2_with fail
        exact ⟨HK.out.from _, ⟨rfl, x, by simp, hc⟩, H5.out.1, H5.out.2.1, H5.out.2.2⟩
      | some c =>
        rw [hc] at hcd
        obtain ⟨Av, cv, rfl⟩ := own_slice hrow
        have HCd : Hid (∀ W, Calls Tryz.prog 87 #[.string x.1] W fun e w' => e = .returned (.tuple #[.agg #[.string c.key, .string c.pre, .string c.suf, .bool c.bare], .bool true]) ∧ Below W.heap.size W w') := Lib.hid hcd
        clear hcd
        gi_wp2_with fail
        refine ⟨trivial, ?_⟩
        ((with_reducible refine (CallsIn.inRound l (callsIn_wide.2 (HCd.out _))).mono ?_))
        rintro e W4 ⟨rfl, b4⟩
        obtain ⟨C, hC⟩ : ∃ C, C = (Obj.cells #[.string c.key, .string c.pre, .string c.suf, .bool c.bare] 99 : Obj) := ⟨_, rfl⟩
        have hv4 : Boxed (W4.alloc (.cells #[.string c.key, .string c.pre, .string c.suf, .bool c.bare] 99)) W1.heap.size 29 (.slice Av pre.length cv) := Boxed.alloc ((b4.block _ hv.lt).trans hv) _
        have hrow4 : (W4.alloc (.cells #[.string c.key, .string c.pre, .string c.suf, .bool c.bare] 99)).ownsRow (W1.heap.size + 4) 99 4 (.slice Av pre.length cv) pre.length (citF pre) := World.ownsRow.alloc (own_below hrow b4) _
        have k0 : Boxed (W4.alloc (.cells #[.string c.key, .string c.pre, .string c.suf, .bool c.bare] 99)) w.heap.size 29 (.slice none 0 0) := Boxed.alloc ((b4.block _ hr0.lt).trans hr0) _
        have k1 : Boxed (W4.alloc (.cells #[.string c.key, .string c.pre, .string c.suf, .bool c.bare] 99)) (w.heap.size + 1) 4 (.bool false) := Boxed.alloc ((b4.block _ hr1.lt).trans hr1) _
        have hB4 := (hB.trans (b4.mono (Nat.le_trans QX.size hB.size))).alloc (Nat.le_trans QX.size (hB.trans (b4.mono (Nat.le_trans QX.size hB.size))).size) (.cells #[.string c.key, .string c.pre, .string c.suf, .bool c.bare] 99)
        have hz4 := b4.size
        have hXW : W1.heap.size + 4 ≤ W.heap.size := by have := hB.size; omega
        have KO4 := (keeps_of_below b4).trans (KeepsOthers.alloc W4 (.cells #[.string c.key, .string c.pre, .string c.suf, .bool c.bare] 99))
        have hvc := hv4.cell
        have hpl : pre.length ≤ 1000001 := by omega
        have c6 := cit_facts (Blk.new W4 99 #[.string c.key, .string c.pre, .string c.suf, .bool c.bare])
        obtain ⟨y0, y1, y2, y3, _⟩ := c6
        have hvb := (hv4.alloc (.cells #[.string c.key, .string c.pre, .string c.suf, .bool c.bare] 99)).cell
        gi_wp2_with (first
          | (gi_at_builtin; refine wpListIn_append_own _ rfl _ _ 29 rfl (W1.heap.size + 4) 99 i0 _ 4 56 Tryz.underlying29 hi0 hz0 hz1 hz2 rfl (by decide) (.slice Av pre.length cv) pre.length (citF pre) rfl (hrow4.alloc _) ⟨W4.heap.size + 1, 0, none⟩ 1 1 [.string c.key, .string c.pre, .string c.suf, .bool c.bare] rfl rfl ?c1 ?c2 ?c3 ?c4 ?c5 ?_)
          | fail)
        case c1 => exact World.news_of_block (t := 99) (fr := (0, 0)) (cs := #[.string c.key, .string c.pre, .string c.suf, .bool c.bare]) (by have := heap_alloc_new (W4.alloc (.cells #[.string c.key, .string c.pre, .string c.suf, .bool c.bare] 99)) (.cells #[.string c.key, .string c.pre, .string c.suf, .bool c.bare] 99); rwa [World.size_alloc] at this)
        case c2 => intro u hu; simp at hu; rcases hu with rfl | rfl | rfl | rfl <;> rfl
        case c3 => unfold maxLen; omega
        case c4 => omega
        case c5 => simp; omega
        intro v' w5 hown5 hgrow5 _
        obtain ⟨A5, c5, rfl⟩ := own_slice hown5
        obtain ⟨p1, p2, p3, p4, p5, p6⟩ := appendedS hv4 (by omega) hrow4 (by simp; omega) hown5 hgrow5
        have pc := p1.cell
        have pf := p1.frozen
        have hW4 : ∀ b, b < W.heap.size → (W4.alloc (.cells #[.string c.key, .string c.pre, .string c.suf, .bool c.bare] 99)).heap[b]? = W.heap[b]? := fun b hb => (Below.heap_alloc W4 _ b (by omega)).trans (b4.block b hb)
        have KP : KpS (W1.heap.size + 1) (W1.heap.size + 1 + 1) (W1.heap.size + 1 + 2) W (w5.setCell ⟨W1.heap.size, 0, none⟩ (.slice A5 (pre.length + 1) c5)) := ⟨(p6 _ (by omega) (by omega)).trans (hW4 _ (by omega)), (p6 _ (by omega) (by omega)).trans (hW4 _ (by omega)), (p6 _ (by omega) (by omega)).trans (hW4 _ (by omega))⟩
        have q0 : Boxed (w5.setCell ⟨W1.heap.size, 0, none⟩ (.slice A5 (pre.length + 1) c5)) w.heap.size 29 (.slice none 0 0) := (p6 _ (by omega) (by omega)).trans k0
        have q1 : Boxed (w5.setCell ⟨W1.heap.size, 0, none⟩ (.slice A5 (pre.length + 1) c5)) (w.heap.size + 1) 4 (.bool false) := (p6 _ (by omega) (by omega)).trans k1
        have e5 : citF (pre ++ [x]) = citF pre ++ [.string c.key, .string c.pre, .string c.suf, .bool c.bare] := by
          unfold citF citG
          rw [List.flatMap_append]
          simp [hc, citC]
        have s5 : ∀ y ∈ pre ++ [x], (citedI y.1).isSome = true := fun y hy => by
          rcases List.mem_append.1 hy with h | h
          · exact hsome y h
          · rw [List.mem_singleton.1 h, hc]; rfl
        have hB5 := hB4.trans (p5.mono (by omega))
        have KK := KO4.trans p4
        have HH := Lib.hid (And.intro KK (And.intro KP (And.intro p2 (And.intro p3 (And.intro q0 (And.intro q1 hB5))))))
        clear KK KP p2 p3 p4 p5 p6 q0 q1 hB5 hown5 hgrow5 hrow4 hv4
        gi_wp2_with fail
        exact ⟨HH.out.1.from _, HH.out.2.1, ⟨_, HH.out.2.2.1, by rw [e5, List.length_append]; exact HH.out.2.2.2.1, s5⟩, HH.out.2.2.2.2.1, HH.out.2.2.2.2.2.1, HH.out.2.2.2.2.2.2⟩
    case done =>
      rintro D ys W hD rfl ⟨⟨v, hv, hrow, hsome⟩, hr0, hr1, hB⟩ hK
      obtain ⟨Av, cv, rfl⟩ := own_slice hrow
      have hvc := hv.cell
      have f0 := hr0.frozen
      have f1 := hr1.frozen
      have c0 := hr0.cell
      have c1 := hr1.cell
      have hTv : ∀ p ∈ semiL (bytesL s), (toStr p).1 = mk p := fun p hp => toStr_val p (Nat.le_trans (hlen.2 p hp) hs)
      have HF : Hid (R = some ((semiL (bytesL s)).map fun p => (citedI (mk p)).getD d0C)) := Lib.hid (by
        rw [HI.out]
        refine allC_some _ fun p hp => ?_
        have := hsome (toStr p) (List.mem_map_of_mem hp)
        rwa [hTv p hp] at this)
      have eC : citF ((semiL (bytesL s)).map toStr) = citCs ((semiL (bytesL s)).map fun p => (citedI (mk p)).getD d0C) := by
        unfold citF citCs
        rw [List.flatMap_map, List.flatMap_map]
        have : ∀ l : List (List UInt8), (∀ p ∈ l, (toStr p).1 = mk p) → l.flatMap (fun a => citC (citG (toStr a))) = l.flatMap fun a => citC ((citedI (mk a)).getD d0C) := by
          intro l
          induction l with
          | nil => intro _; rfl
          | cons a l ih =>
            intro h
            rw [List.flatMap_cons, List.flatMap_cons, ih fun p hp => h p (List.mem_cons_of_mem _ hp)]
            unfold citG
            rw [h a List.mem_cons_self]
        exact this _ hTv
      rw [eC, List.length_map] at hrow
      rw [List.length_map] at hvc
      clear hsome eC hTv
      generalize hcs : (semiL (bytesL s)).map (fun p => (citedI (mk p)).getD d0C) = cs at *
      have hcl : cs.length = (semiL (bytesL s)).length := by rw [← hcs, List.length_map]
      have KO := (KeepsOthers.setCell W ⟨w.heap.size, 0, none⟩ (.slice Av (semiL (bytesL s)).length cv)).trans (KeepsOthers.setCell _ ⟨w.heap.size + 1, 0, none⟩ (.bool true))
      have hK2 := KO.same D _ hK rfl
      have d0 := (hr0.set (.slice Av (semiL (bytesL s)).length cv)).other (B' := w.heap.size + 1) (by omega) (.bool true)
      have d1 := (hr1.other (B' := w.heap.size) (by omega) (.slice Av (semiL (bytesL s)).length cv)).set (.bool true)
      have o1 := ownsRow_setCell_below (ownsRow_setCell_below hrow (a := ⟨w.heap.size, 0, none⟩) (by show w.heap.size < W1.heap.size + 4; omega) (.slice Av (semiL (bytesL s)).length cv)) (a := ⟨w.heap.size + 1, 0, none⟩) (by show w.heap.size + 1 < W1.heap.size + 4; omega) (.bool true)
      have o2 := ownsRow_putObj o1 (.deferred none) hK2 rfl
      have g0 := Boxed.cell (v := .slice Av (semiL (bytesL s)).length cv) (d0.kept (grownBy_putObj' _ D (.deferred none)) (fun e => by cases e; unfold Boxed at d0; rw [d0] at hK2; cases hK2))
      have g1 := Boxed.cell (v := .bool true) (d1.kept (grownBy_putObj' _ D (.deferred none)) (fun e => by cases e; unfold Boxed at d1; rw [d1] at hK2; cases hK2))
      have hBB := ((QX.trans hB).setCell (p := ⟨w.heap.size, 0, none⟩) (Nat.le_refl _) (.slice Av (semiL (bytesL s)).length cv)).setCell (p := ⟨w.heap.size + 1, 0, none⟩) (by show w.heap.size ≤ w.heap.size + 1; omega) (.bool true)
      have hB2 := hBB.trans (belowK_b (w := w) (Nat.le_refl _) _ D _ (.deferred none) (by omega) hK2 rfl rfl)
      have HH := Lib.hid (And.intro o2 hB2)
      clear o1 o2 hBB hB2 d0 d1 KO hrow hv
      gi_wp2_with fail
      refine ⟨by simp, .inl ⟨_, _, rfl, run_takeDeferred hK2, ?_⟩⟩
      refine ⟨.tuple #[.slice Av (semiL (bytesL s)).length cv, .bool true], by simp [results, Tryz.results61, go_sem, g0, g1], HH.out.2, ?_⟩
      rw [HF.out]
      refine ⟨Av, cv, by rw [hcl], ?_⟩
      rw [hcl]
      exact (ReadsS.of_own HH.out.1).keep (fun _ _ => rfl) fun q hq => ⟨by have := hq.1; omega, hq.2⟩
    case stop =>
      rintro D c pre W hD hpre ⟨⟨rfl, x, hx, hxn⟩, hr0, hr1, hB⟩ hK
      have HF : Hid (R = none) := Lib.hid (by
        obtain ⟨p, hp, rfl⟩ := List.mem_map.1 (hpre.subset hx)
        rw [toStr_val p (Nat.le_trans (hlen.2 p hp) hs)] at hxn
        rw [HI.out]; exact allC_none _ p hp hxn)
      have g0 := Boxed.cell (v := .slice none 0 0) (hr0.kept (grownBy_putObj' _ D (.deferred none)) (fun e => by cases e; unfold Boxed at hr0; rw [hr0] at hK; cases hK))
      have g1 := Boxed.cell (v := .bool false) (hr1.kept (grownBy_putObj' _ D (.deferred none)) (fun e => by cases e; unfold Boxed at hr1; rw [hr1] at hK; cases hK))
      gi_wp2_with fail
      refine ⟨by simp, .inl ⟨_, _, rfl, run_takeDeferred hK, ?_⟩⟩
      refine ⟨.tuple #[.slice none 0 0, .bool false], by simp [results, Tryz.results61, go_sem, g0, g1], (QX.trans hB).trans (belowK_b (w := w) (Nat.le_refl _) _ D _ (.deferred none) (by omega) hK rfl rfl), ?_⟩
      rw [HF.out]
  · rw [hbad, if_pos rfl] at HI
    have f0 := R0.frozen
    have f1 := R1.frozen
    have c0 := R0.cell
    have c1 := R1.cell
    have d0 := (R0.set (.slice none 0 0)).other (B' := w.heap.size + 1) (by omega) (.bool false)
    have d1 := (R1.other (B' := w.heap.size) (by omega) (.slice none 0 0)).set (.bool false)
    have e0 := d0.cell
    have e1 := d1.cell
    gi_wp2_with fail
    refine ⟨.tuple #[.slice none 0 0, .bool false], by simp [results, Tryz.results61, go_sem, e0, e1], (QB.setCell (p := ⟨w.heap.size, 0, none⟩) (Nat.le_refl _) _).setCell (p := ⟨w.heap.size + 1, 0, none⟩) (by show w.heap.size ≤ w.heap.size + 1; omega) _, ?_⟩
    rw [HI.out]

end Go.Proofs.YtfnloonmeilhlaaGreatDoor
