/-
  Texts of the proof, put together (what this law reaches): ScAA, ScM, ScP, ScAB, ScV, ScJ, ScT.
-/
import Derived.Test.YtcjkgmfidkgamaaDoorC05
import Derived.Test.YtcjkgmfidkgamaaDoorC02
import Derived.Test.YtcjkgmfidkgamaaDoorC04
import Derived.RangeFuncNested
import Derived.RangeFuncBound
import Derived.RangeFuncCalls
import Derived.RangeFuncLeaves
import Derived.OwnWalkIn
import Derived.TacticsInMore
import Derived.Laws.OwnMore
import Derived.Shelf.SlSorted.Search
import Derived.Test.YtcjkgmfidkgamaaDoorC03
import Derived.Maps.GroupsBeside
set_option linter.unusedVariables false
set_option linter.unusedSimpArgs false
namespace Go.Pub
def d0C : CitL := ⟨⟨#[]⟩, ⟨#[]⟩, ⟨#[]⟩, false⟩
theorem allC_some : ∀ ps : List (List UInt8), (∀ p ∈ ps, (citedI (mk p)).isSome = true) → allC ps = some (ps.map fun p => (citedI (mk p)).getD d0C)
  | [], _ => rfl
  | p :: ps, h => by
    have h1 := h p List.mem_cons_self
    unfold allC
    cases hc : citedI (mk p) with
    | none => rw [hc] at h1; cases h1
    | some c => rw [allC_some ps fun q hq => h q (List.mem_cons_of_mem _ hq)]; simp [hc]
theorem allC_none : ∀ (ps : List (List UInt8)) (p : List UInt8), p ∈ ps → citedI (mk p) = none → allC ps = none
  | q :: ps, p, h, hn => by
    unfold allC
    rcases List.mem_cons.1 h with rfl | h
    · rw [hn]; rfl
    · rw [allC_none ps p h hn]; cases citedI (mk q) <;> rfl
theorem semi_len : ∀ (l : List UInt8), (semiL l).length ≤ l.length + 1 ∧ ∀ p ∈ semiL l, p.length ≤ l.length
  | [] => ⟨by simp [semiL], fun p hp => by simp [semiL] at hp; subst hp; simp⟩
  | c :: l => by
    obtain ⟨h1, h2⟩ := semi_len l
    unfold semiL
    split
    · refine ⟨by simp; omega, fun p hp => ?_⟩
      rcases List.mem_cons.1 hp with rfl | hp
      · simp
      · have := h2 p hp; simp; omega
    · split
      · exact ⟨by simp, fun p hp => by simp at hp; subst hp; simp⟩
      · rename_i q qs he
        rw [he] at h1 h2
        refine ⟨by simp at h1 ⊢; omega, fun p hp => ?_⟩
        rcases List.mem_cons.1 hp with rfl | hp
        · have := h2 q List.mem_cons_self; simp; omega
        · have := h2 p (List.mem_cons_of_mem _ hp); simp; omega
theorem bad_set (l : List UInt8) : l.any ([91, 93, 123, 96, 36, 10].contains ·) = l.any badC := by
  congr 1; funext b
  unfold badC
  show (b == 91 || (b == 93 || (b == 123 || (b == 96 || (b == 36 || (b == 10 || false)))))) = _
  rw [Bool.or_false]; simp only [Bool.or_assoc]
end Go.Pub
namespace Go.Proofs.YtcjkgmfidkgamaaDoor
open Go.RowKit Go.Pub
attribute [local go_sem] Oper.semAt_some
/-- The citations of a string, or that it has none. -/
def CitesPost (r : Option (List CitL)) (w : World) (e : Ending) (w' : World) : Prop :=
  Below w.heap.size w w' ∧ match r with
  | none => e = .returned (.tuple #[.slice none 0 0, .bool false])
  | some cs => ∃ A c, e = .returned (.tuple #[.slice A cs.length c, .bool true]) ∧ ReadsS w' (Rg w.heap.size w') 4 A cs.length (citCs cs)
def citG (x : StrP) : CitL := (citedI x.1).getD d0C
def citF (pre : List StrP) : List Value := pre.flatMap fun x => citC (citG x)
theorem cited_info : (Tryd.prog.info? 43).map (fun i => (i.zero, i.size, i.bytes)) = some (some (.agg #[.string ⟨#[]⟩, .string ⟨#[]⟩, .string ⟨#[]⟩, .bool false]), 4, 56) := by kernel_rfl
theorem asc_bad : ∀ b ∈ bytesL (⟨#[91, 93, 123, 96, 36, 10]⟩ : ByteArray), b.toNat < 128 := by
  intro b hb
  have h : b ∈ ([91, 93, 123, 96, 36, 10] : List UInt8) := hb
  have : ∀ b ∈ ([91, 93, 123, 96, 36, 10] : List UInt8), b.toNat < 128 := by decide
  exact this b h
theorem appendedS {W w1 : World} {B n₀ : Nat} {t e : TypeId} {size : Nat} {v v' : Value} {k m : Nat} {xs ys : List Value} {tmp : Obj}
    (hv : Boxed W B t v) (hB : B < n₀) (hrow : W.ownsRow n₀ e size v k xs) (hz : n₀ ≤ W.heap.size) (hown' : w1.ownsRow n₀ e size v' m ys) (hgrow : (W.alloc tmp).grownBy w1 v.ownBlock) :
    Boxed w1 B t v ∧ Boxed (w1.setCell ⟨B, 0, none⟩ v') B t v' ∧ (w1.setCell ⟨B, 0, none⟩ v').ownsRow n₀ e size v' m ys ∧ KeepsOthers W (w1.setCell ⟨B, 0, none⟩ v') ∧ Below B W (w1.setCell ⟨B, 0, none⟩ v') ∧ (∀ g, g < n₀ → g ≠ B → (w1.setCell ⟨B, 0, none⟩ v').heap[g]? = W.heap[g]?) := by
  have hv1 : Boxed w1 B t v := (hv.alloc tmp).kept hgrow (own_far hrow hB)
  refine ⟨hv1, hv1.set v', hown'.kept (grownBy_setCell' w1 B v') (.inr (own_far hown' hB).symm), ?_, ?_, fun g hg hne => ?_⟩
  · refine ((KeepsOthers.alloc W tmp).trans (KeepsOthers.of_grownBy hgrow fun j o ej hj => ?_)).trans (KeepsOthers.setCell _ _ _)
    rcases (hrow.alloc tmp).2 with ⟨rfl, _⟩ | ⟨g, cap, cur, rfl, _, hgb, _⟩
    · simp [Value.ownBlock] at ej
    · obtain rfl : g = j := by simpa [Value.ownBlock] using ej
      rw [hgb] at hj; cases hj; rfl
  · refine (((Below.refl B W).alloc (by omega) tmp).grown hgrow (by simp; omega) fun j ej => ?_).setCell (p := ⟨B, 0, none⟩) (Nat.le_refl _) v'
    rcases Nat.lt_or_ge j B with h | h
    · exact absurd ej.symm (own_far hrow (by omega))
    · exact h
  · exact (Below.heap_setCell w1 ⟨B, 0, none⟩ v' g hne).trans ((hgrow.block g (by simp; omega) (own_far hrow hg)).trans (Below.heap_alloc W tmp g (by omega)))
set_option maxRecDepth 100000 in
set_option maxHeartbeats 4000000 in
theorem s_Cites (s : ByteArray) (w : World) (hs : s.size ≤ 1000000) : Calls Tryd.prog 12 #[.string s] w (CitesPost (citesI s) w) := by
  have HC : Hid (∀ W, Calls Tryd.prog 19 #[.string s, .string ⟨#[91, 93, 123, 96, 36, 10]⟩] W fun e w' => e = .returned (.bool ((bytesL s).any badC)) ∧ Below W.heap.size W w') := Lib.hid fun W => by
    have := containsX s ⟨#[91, 93, 123, 96, 36, 10]⟩ W asc_bad (by decide) (by decide) hs
    rwa [show bytesL (⟨#[91, 93, 123, 96, 36, 10]⟩ : ByteArray) = [91, 93, 123, 96, 36, 10] from rfl, bad_set] at this
  have HS := Lib.hid fun W => split_seq s W
  have hlen := semi_len (bytesL s)
  rw [bytesL_length] at hlen
  have HI : Hid (citesI s = if (bytesL s).any badC = true then none else allC (semiL (bytesL s))) := Lib.hid rfl
  generalize citesI s = R at *
  obtain ⟨i0, hi0, hz0, hz1, hz2⟩ := info_parts cited_info
  refine (callsIn_wide (n := 5)).1 ?_
  refine callsIn_of_wp_marks Tryd.func12 rfl trivial ?_ rfl
  simp only [Tryd.ntmps12, List.size_toArray, List.length_cons, List.length_nil, Nat.reduceAdd, Nat.reduceSub, Array.replicate_succ, Array.replicate_zero, List.push_toArray, List.append_toArray, List.nil_append, List.cons_append]
  gi_wp2_with fail
  refine ⟨trivial, ?_⟩
  ((with_reducible refine (callsIn_wide.2 (HC.out _)).mono ?_))
  rintro e W1 ⟨rfl, q1⟩
  have hr0 := Boxed.new w 30 (.slice none 0 0)
  have hr1 := Boxed.new (w.alloc (.cells #[.slice none 0 0] 30)) 4 (.bool false)
  rw [World.size_alloc] at hr1
  have R0 : Boxed W1 w.heap.size 30 (.slice none 0 0) := (q1.block _ (by simp; omega)).trans (hr0.alloc _)
  have R1 : Boxed W1 (w.heap.size + 1) 4 (.bool false) := (q1.block _ (by simp)).trans hr1
  have QB : Below w.heap.size w W1 := (((Below.refl _ w).alloc (Nat.le_refl _) _).alloc (by simp) _).trans (q1.mono (by simp; omega))
  have z1 := R1.lt
  clear q1 hr0 hr1
  cases hbad : (bytesL s).any badC
  · rw [hbad, if_neg (by simp)] at HI
    gi_wp2_with fail
    refine ⟨trivial, ?_⟩
    ((with_reducible refine (callsIn_wide.2 (HS.out _)).mono ?_))
    rintro e W2 ⟨rfl, rfl⟩
    gi_wp2_with fail
    have BB : Boxed ((((W1.alloc (.cells #[.slice none 0 0] 30)).alloc (.cells #[.string s] 9)).alloc (.cells #[.string ⟨#[59]⟩] 9)).alloc (.cells #[.int .i64 0] 3)) W1.heap.size 30 (.slice none 0 0) := (((Boxed.new W1 _ _).alloc _).alloc _).alloc _
    have SB : SqB (W1.heap.size + 1) (W1.heap.size + 1 + 1) (W1.heap.size + 1 + 2) s ((((W1.alloc (.cells #[.slice none 0 0] 30)).alloc (.cells #[.string s] 9)).alloc (.cells #[.string ⟨#[59]⟩] 9)).alloc (.cells #[.int .i64 0] 3)) := by
      have x1 := Boxed.new (W1.alloc (.cells #[.slice none 0 0] 30)) 9 (.string s)
      have x2 := Boxed.new ((W1.alloc (.cells #[.slice none 0 0] 30)).alloc (.cells #[.string s] 9)) 9 (.string ⟨#[59]⟩)
      have x3 := Boxed.new (((W1.alloc (.cells #[.slice none 0 0] 30)).alloc (.cells #[.string s] 9)).alloc (.cells #[.string ⟨#[59]⟩] 9)) 3 (.int .i64 0)
      simp only [World.size_alloc] at x1 x2 x3
      exact ⟨(x1.alloc _).alloc _, x2.alloc _, x3⟩
    have RX0 : Boxed ((((W1.alloc (.cells #[.slice none 0 0] 30)).alloc (.cells #[.string s] 9)).alloc (.cells #[.string ⟨#[59]⟩] 9)).alloc (.cells #[.int .i64 0] 3)) w.heap.size 30 (.slice none 0 0) := (((R0.alloc _).alloc _).alloc _).alloc _
    have RX1 : Boxed ((((W1.alloc (.cells #[.slice none 0 0] 30)).alloc (.cells #[.string s] 9)).alloc (.cells #[.string ⟨#[59]⟩] 9)).alloc (.cells #[.int .i64 0] 3)) (w.heap.size + 1) 4 (.bool false) := (((R1.alloc _).alloc _).alloc _).alloc _
    have QX : Below w.heap.size w ((((W1.alloc (.cells #[.slice none 0 0] 30)).alloc (.cells #[.string s] 9)).alloc (.cells #[.string ⟨#[59]⟩] 9)).alloc (.cells #[.int .i64 0] 3)) := (((QB.alloc (by omega) _).alloc (by simp; omega) _).alloc (by simp; omega) _).alloc (by simp; omega) _
    have zX : ((((W1.alloc (.cells #[.slice none 0 0] 30)).alloc (.cells #[.string s] 9)).alloc (.cells #[.string ⟨#[59]⟩] 9)).alloc (.cells #[.int .i64 0] 3)).heap.size = W1.heap.size + 4 := by simp
    generalize ((((W1.alloc (.cells #[.slice none 0 0] 30)).alloc (.cells #[.string s] 9)).alloc (.cells #[.string ⟨#[59]⟩] 9)).alloc (.cells #[.int .i64 0] 3)) = X at *
    clear R0 R1 QB
    refine range_steps rfl (by omega) (gf := 50) (lb := #[.pointer (some ⟨W1.heap.size + 1 + 1, 0, none⟩), .pointer (some ⟨W1.heap.size + 1, 0, none⟩), .pointer (some ⟨W1.heap.size + 1 + 2, 0, none⟩)]) rfl trivial (enters_of Tryd.func50 (by kernel_rfl) rfl)
      (Kp := KpS (W1.heap.size + 1) (W1.heap.size + 1 + 1) (W1.heap.size + 1 + 2)) (St := StB (W1.heap.size + 1)) (split_stops 4 (by omega) (W1.heap.size + 1) (W1.heap.size + 1 + 1) (W1.heap.size + 1 + 2) (by omega) (by omega) s hs _ SB)
      (fun h1 h2 => ⟨h2.1.trans h1.1, h2.2.1.trans h1.2.1, h2.2.2.trans h1.2.2⟩)
      (fun W l o o' hl ho hc _ => ⟨World.putObj_heap_other (by omega), World.putObj_heap_other (by omega), World.putObj_heap_other (by omega)⟩) (fun _ => rfl)
      (fun (pre : List StrP) W => (∃ v, Boxed W W1.heap.size 30 v ∧ W.ownsRow (W1.heap.size + 4) 43 4 v pre.length (citF pre) ∧ (∀ x ∈ pre, (citedI x.1).isSome = true)) ∧ (Boxed W w.heap.size 30 (.slice none 0 0) ∧ (Boxed W (w.heap.size + 1) 4 (.bool false) ∧ Below w.heap.size X W)))
      (fun c pre W => (c = Code.ret ∧ ∃ x ∈ pre, citedI x.1 = none) ∧ (Boxed W w.heap.size 30 (.slice none 0 0) ∧ (Boxed W (w.heap.size + 1) 4 (.bool false) ∧ Below w.heap.size X W)))
      (OwnFrom.and (Own.from (holdsRow_own (W1.heap.size + 4) W1.heap.size 30 43 4 (fun (pre : List StrP) => pre.length) (fun pre => citF pre) (fun pre _ => ∀ x ∈ pre, (citedI x.1).isSome = true)) _) (OwnFrom.and (Own.from (boxed_own w.heap.size 30 (fun _ => .slice none 0 0)) _) (OwnFrom.and (Own.from (boxed_own (w.heap.size + 1) 4 (fun _ => .bool false)) _) (ownFrom_below QX.size QX.size))))
      (fun c => OwnFrom.and (fun _ _ _ _ hs _ _ => hs) (OwnFrom.and (Own.from (boxed_own w.heap.size 30 (fun _ => .slice none 0 0)) _) (OwnFrom.and (Own.from (boxed_own (w.heap.size + 1) 4 (fun _ => .bool false)) _) (ownFrom_below QX.size QX.size))))
      (fun pre A B h hst => by
        obtain ⟨v, rfl⟩ := hst
        obtain ⟨⟨u, k1, k2, k3⟩, k4, k5, k6⟩ := h
        exact ⟨⟨u, k1.other (by omega) _, ownsRow_setCell_below k2 (by show W1.heap.size + 1 < W1.heap.size + 4; omega) _, k3⟩, k4.other (by omega) _, k5.other (by omega) _, k6.setCell (p := ⟨W1.heap.size + 1, 0, none⟩) (by show w.heap.size ≤ W1.heap.size + 1; omega) _⟩)
      (fun A B hst k hk => by
        obtain ⟨v, rfl⟩ := hst
        exact Below.heap_setCell _ _ _ k (by show k ≠ W1.heap.size + 1; omega))
      ⟨⟨_, BB, World.ownsRow_nil _ _ _ _, by simp⟩, RX0, RX1, Below.refl _ _⟩
      (fun (x : StrP) => { tmps := #[.string s, undef, .pointer (some ⟨w.heap.size, 0, none⟩), .pointer (some ⟨w.heap.size + 1, 0, none⟩), .pointer (some ⟨W1.heap.size, 0, none⟩), .string x.1, undef, undef, .string s, .bool false, .string s, .func (.func 50) #[] #[.pointer (some ⟨W1.heap.size + 1 + 1, 0, none⟩), .pointer (some ⟨W1.heap.size + 1, 0, none⟩), .pointer (some ⟨W1.heap.size + 1 + 2, 0, none⟩)], .string x.1, undef, undef, undef, undef, undef, undef, undef, undef, undef, undef, undef, undef], defers := [] }) ?assign ?body ?done ?stop
    case assign =>
      intro l x W K hK
      gi_wp2_with fail
      exact hK
    case body =>
      rintro l pre x W ⟨⟨v, hv, hrow, hsome⟩, hr0, hr1, hB⟩ hlt
      have hcd := fun W => s_cited x.1 W x.2
      have hzW := hv.lt
      cases hc : citedI x.1 with
      | none =>
        rw [hc] at hcd
        have HCd : Hid (∀ W, Calls Tryd.prog 21 #[.string x.1] W fun e w' => e = .returned (.tuple #[.agg #[.string ⟨#[]⟩, .string ⟨#[]⟩, .string ⟨#[]⟩, .bool false], .bool false]) ∧ Below W.heap.size W w') := Lib.hid hcd
        clear hcd
        gi_wp2_with fail
        refine ⟨trivial, ?_⟩
        ((with_reducible refine (CallsIn.inRound l (callsIn_wide.2 (HCd.out _))).mono ?_))
        rintro e W4 ⟨rfl, b4⟩
        have k0 : Boxed W4 w.heap.size 30 (.slice none 0 0) := (b4.block _ hr0.lt).trans hr0
        have k1 : Boxed W4 (w.heap.size + 1) 4 (.bool false) := (b4.block _ hr1.lt).trans hr1
        have hB4 := hB.trans (b4.mono (Nat.le_trans QX.size hB.size))
        have a0 := (k0.alloc (.cells #[.string ⟨#[]⟩, .string ⟨#[]⟩, .string ⟨#[]⟩, .bool false] 43))
        have a1 := (k1.alloc (.cells #[.string ⟨#[]⟩, .string ⟨#[]⟩, .string ⟨#[]⟩, .bool false] 43))
        have f0 := a0.frozen
        have f1 := a1.frozen
        have c0 := a0.cell
        have c1 := a1.cell
        have d0 := (a0.set (.slice none 0 0)).other (B' := w.heap.size + 1) (by omega) (.bool false)
        have d1 := (a1.other (B' := w.heap.size) (by omega) (.slice none 0 0)).set (.bool false)
        have KO := ((keeps_of_below b4).trans (KeepsOthers.alloc W4 (.cells #[.string ⟨#[]⟩, .string ⟨#[]⟩, .string ⟨#[]⟩, .bool false] 43))).trans ((KeepsOthers.setCell _ ⟨w.heap.size, 0, none⟩ (.slice none 0 0)).trans (KeepsOthers.setCell _ ⟨w.heap.size + 1, 0, none⟩ (.bool false)))
        have hB5 := ((hB4.alloc (Nat.le_trans QX.size hB4.size) (.cells #[.string ⟨#[]⟩, .string ⟨#[]⟩, .string ⟨#[]⟩, .bool false] 43)).setCell (p := ⟨w.heap.size, 0, none⟩) (Nat.le_refl _) (.slice none 0 0)).setCell (p := ⟨w.heap.size + 1, 0, none⟩) (by show w.heap.size ≤ w.heap.size + 1; omega) (.bool false)
        have H5 := Lib.hid (And.intro d0 (And.intro d1 hB5))
        have HK := Lib.hid KO
        clear a0 a1 d0 d1 hB5 KO k0 k1 hB4
        gi_wp2_with fail
        exact ⟨HK.out.from _, ⟨rfl, x, by simp, hc⟩, H5.out.1, H5.out.2.1, H5.out.2.2⟩
      | some c =>
        rw [hc] at hcd
        obtain ⟨Av, cv, rfl⟩ := own_slice hrow
        have HCd : Hid (∀ W, Calls Tryd.prog 21 #[.string x.1] W fun e w' => e = .returned (.tuple #[.agg #[.string c.key, .string c.pre, .string c.suf, .bool c.bare], .bool true]) ∧ Below W.heap.size W w') := Lib.hid hcd
        clear hcd
        gi_wp2_with fail
        refine ⟨trivial, ?_⟩
        ((with_reducible refine (CallsIn.inRound l (callsIn_wide.2 (HCd.out _))).mono ?_))
        rintro e W4 ⟨rfl, b4⟩
        obtain ⟨C, hC⟩ : ∃ C, C = (Obj.cells #[.string c.key, .string c.pre, .string c.suf, .bool c.bare] 43 : Obj) := ⟨_, rfl⟩
        have hv4 : Boxed (W4.alloc (.cells #[.string c.key, .string c.pre, .string c.suf, .bool c.bare] 43)) W1.heap.size 30 (.slice Av pre.length cv) := Boxed.alloc ((b4.block _ hv.lt).trans hv) _
        have hrow4 : (W4.alloc (.cells #[.string c.key, .string c.pre, .string c.suf, .bool c.bare] 43)).ownsRow (W1.heap.size + 4) 43 4 (.slice Av pre.length cv) pre.length (citF pre) := World.ownsRow.alloc (own_below hrow b4) _
        have k0 : Boxed (W4.alloc (.cells #[.string c.key, .string c.pre, .string c.suf, .bool c.bare] 43)) w.heap.size 30 (.slice none 0 0) := Boxed.alloc ((b4.block _ hr0.lt).trans hr0) _
        have k1 : Boxed (W4.alloc (.cells #[.string c.key, .string c.pre, .string c.suf, .bool c.bare] 43)) (w.heap.size + 1) 4 (.bool false) := Boxed.alloc ((b4.block _ hr1.lt).trans hr1) _
        have hB4 := (hB.trans (b4.mono (Nat.le_trans QX.size hB.size))).alloc (Nat.le_trans QX.size (hB.trans (b4.mono (Nat.le_trans QX.size hB.size))).size) (.cells #[.string c.key, .string c.pre, .string c.suf, .bool c.bare] 43)
        have hz4 := b4.size
        have hXW : W1.heap.size + 4 ≤ W.heap.size := by have := hB.size; omega
        have KO4 := (keeps_of_below b4).trans (KeepsOthers.alloc W4 (.cells #[.string c.key, .string c.pre, .string c.suf, .bool c.bare] 43))
        have hvc := hv4.cell
        have hpl : pre.length ≤ 1000001 := by omega
        have c6 := cit_facts (Blk.new W4 43 #[.string c.key, .string c.pre, .string c.suf, .bool c.bare])
        obtain ⟨y0, y1, y2, y3, _⟩ := c6
        have hvb := (hv4.alloc (.cells #[.string c.key, .string c.pre, .string c.suf, .bool c.bare] 43)).cell
        gi_wp2_with (first
          | (gi_at_builtin; refine wpListIn_append_own _ rfl _ _ 30 rfl (W1.heap.size + 4) 43 i0 _ 4 56 Tryd.underlying30 hi0 hz0 hz1 hz2 rfl (by decide) (.slice Av pre.length cv) pre.length (citF pre) rfl (hrow4.alloc _) ⟨W4.heap.size + 1, 0, none⟩ 1 1 [.string c.key, .string c.pre, .string c.suf, .bool c.bare] rfl rfl ?c1 ?c2 ?c3 ?c4 ?c5 ?_)
          | fail)
        case c1 => exact World.news_of_block (t := 43) (fr := (0, 0)) (cs := #[.string c.key, .string c.pre, .string c.suf, .bool c.bare]) (by have := heap_alloc_new (W4.alloc (.cells #[.string c.key, .string c.pre, .string c.suf, .bool c.bare] 43)) (.cells #[.string c.key, .string c.pre, .string c.suf, .bool c.bare] 43); rwa [World.size_alloc] at this)
        case c2 => intro u hu; simp at hu; rcases hu with rfl | rfl | rfl | rfl <;> rfl
        case c3 => unfold maxLen; omega
        case c4 => omega
        case c5 => simp; omega
        intro v' w5 hown5 hgrow5 _
        obtain ⟨A5, c5, rfl⟩ := own_slice hown5
        obtain ⟨p1, p2, p3, p4, p5, p6⟩ := appendedS hv4 (by omega) hrow4 (by simp; omega) hown5 hgrow5
        have pc := p1.cell
        have pf := p1.frozen
        have hW4 : ∀ b, b < W.heap.size → (W4.alloc (.cells #[.string c.key, .string c.pre, .string c.suf, .bool c.bare] 43)).heap[b]? = W.heap[b]? := fun b hb => (Below.heap_alloc W4 _ b (by omega)).trans (b4.block b hb)
        have KP : KpS (W1.heap.size + 1) (W1.heap.size + 1 + 1) (W1.heap.size + 1 + 2) W (w5.setCell ⟨W1.heap.size, 0, none⟩ (.slice A5 (pre.length + 1) c5)) := ⟨(p6 _ (by omega) (by omega)).trans (hW4 _ (by omega)), (p6 _ (by omega) (by omega)).trans (hW4 _ (by omega)), (p6 _ (by omega) (by omega)).trans (hW4 _ (by omega))⟩
        have q0 : Boxed (w5.setCell ⟨W1.heap.size, 0, none⟩ (.slice A5 (pre.length + 1) c5)) w.heap.size 30 (.slice none 0 0) := (p6 _ (by omega) (by omega)).trans k0
        have q1 : Boxed (w5.setCell ⟨W1.heap.size, 0, none⟩ (.slice A5 (pre.length + 1) c5)) (w.heap.size + 1) 4 (.bool false) := (p6 _ (by omega) (by omega)).trans k1
        have e5 : citF (pre ++ [x]) = citF pre ++ [.string c.key, .string c.pre, .string c.suf, .bool c.bare] := by
          unfold citF citG
          rw [List.flatMap_append]
          simp [hc, citC]
        have s5 : ∀ y ∈ pre ++ [x], (citedI y.1).isSome = true := fun y hy => by
          rcases List.mem_append.1 hy with h | h
          · exact hsome y h
          · rw [List.mem_singleton.1 h, hc]; rfl
        have hB5 := hB4.trans (p5.mono (by omega))
        have KK := KO4.trans p4
        have HH := Lib.hid (And.intro KK (And.intro KP (And.intro p2 (And.intro p3 (And.intro q0 (And.intro q1 hB5))))))
        clear KK KP p2 p3 p4 p5 p6 q0 q1 hB5 hown5 hgrow5 hrow4 hv4
        gi_wp2_with fail
        exact ⟨HH.out.1.from _, HH.out.2.1, ⟨_, HH.out.2.2.1, by rw [e5, List.length_append]; exact HH.out.2.2.2.1, s5⟩, HH.out.2.2.2.2.1, HH.out.2.2.2.2.2.1, HH.out.2.2.2.2.2.2⟩
    case done =>
      rintro D ys W hD rfl ⟨⟨v, hv, hrow, hsome⟩, hr0, hr1, hB⟩ hK
      obtain ⟨Av, cv, rfl⟩ := own_slice hrow
      have hvc := hv.cell
      have f0 := hr0.frozen
      have f1 := hr1.frozen
      have c0 := hr0.cell
      have c1 := hr1.cell
      have hTv : ∀ p ∈ semiL (bytesL s), (toStr p).1 = mk p := fun p hp => toStr_val p (Nat.le_trans (hlen.2 p hp) hs)
      have HF : Hid (R = some ((semiL (bytesL s)).map fun p => (citedI (mk p)).getD d0C)) := Lib.hid (by
        rw [HI.out]
        refine allC_some _ fun p hp => ?_
        have := hsome (toStr p) (List.mem_map_of_mem hp)
        rwa [hTv p hp] at this)
      have eC : citF ((semiL (bytesL s)).map toStr) = citCs ((semiL (bytesL s)).map fun p => (citedI (mk p)).getD d0C) := by
        unfold citF citCs
        rw [List.flatMap_map, List.flatMap_map]
        have : ∀ l : List (List UInt8), (∀ p ∈ l, (toStr p).1 = mk p) → l.flatMap (fun a => citC (citG (toStr a))) = l.flatMap fun a => citC ((citedI (mk a)).getD d0C) := by
          intro l
          induction l with
          | nil => intro _; rfl
          | cons a l ih =>
            intro h
            rw [List.flatMap_cons, List.flatMap_cons, ih fun p hp => h p (List.mem_cons_of_mem _ hp)]
            unfold citG
            rw [h a List.mem_cons_self]
        exact this _ hTv
      rw [eC, List.length_map] at hrow
      rw [List.length_map] at hvc
      clear hsome eC hTv
      generalize hcs : (semiL (bytesL s)).map (fun p => (citedI (mk p)).getD d0C) = cs at *
      have hcl : cs.length = (semiL (bytesL s)).length := by rw [← hcs, List.length_map]
      have KO := (KeepsOthers.setCell W ⟨w.heap.size, 0, none⟩ (.slice Av (semiL (bytesL s)).length cv)).trans (KeepsOthers.setCell _ ⟨w.heap.size + 1, 0, none⟩ (.bool true))
      have hK2 := KO.same D _ hK rfl
      have d0 := (hr0.set (.slice Av (semiL (bytesL s)).length cv)).other (B' := w.heap.size + 1) (by omega) (.bool true)
      have d1 := (hr1.other (B' := w.heap.size) (by omega) (.slice Av (semiL (bytesL s)).length cv)).set (.bool true)
      have o1 := ownsRow_setCell_below (ownsRow_setCell_below hrow (a := ⟨w.heap.size, 0, none⟩) (by show w.heap.size < W1.heap.size + 4; omega) (.slice Av (semiL (bytesL s)).length cv)) (a := ⟨w.heap.size + 1, 0, none⟩) (by show w.heap.size + 1 < W1.heap.size + 4; omega) (.bool true)
      have o2 := ownsRow_putObj o1 (.deferred none) hK2 rfl
      have g0 := Boxed.cell (v := .slice Av (semiL (bytesL s)).length cv) (d0.kept (grownBy_putObj' _ D (.deferred none)) (fun e => by cases e; unfold Boxed at d0; rw [d0] at hK2; cases hK2))
      have g1 := Boxed.cell (v := .bool true) (d1.kept (grownBy_putObj' _ D (.deferred none)) (fun e => by cases e; unfold Boxed at d1; rw [d1] at hK2; cases hK2))
      have hBB := ((QX.trans hB).setCell (p := ⟨w.heap.size, 0, none⟩) (Nat.le_refl _) (.slice Av (semiL (bytesL s)).length cv)).setCell (p := ⟨w.heap.size + 1, 0, none⟩) (by show w.heap.size ≤ w.heap.size + 1; omega) (.bool true)
      have hB2 := hBB.trans (belowK_b (w := w) (Nat.le_refl _) _ D _ (.deferred none) (by omega) hK2 rfl rfl)
      have HH := Lib.hid (And.intro o2 hB2)
      clear o1 o2 hBB hB2 d0 d1 KO hrow hv
      gi_wp2_with fail
      refine ⟨by simp, .inl ⟨_, _, rfl, run_takeDeferred hK2, ?_⟩⟩
      refine ⟨.tuple #[.slice Av (semiL (bytesL s)).length cv, .bool true], by simp [results, Tryd.results12, go_sem, g0, g1], HH.out.2, ?_⟩
      rw [HF.out]
      refine ⟨Av, cv, by rw [hcl], ?_⟩
      rw [hcl]
      exact (ReadsS.of_own HH.out.1).keep (fun _ _ => rfl) fun q hq => ⟨by have := hq.1; omega, hq.2⟩
    case stop =>
      rintro D c pre W hD hpre ⟨⟨rfl, x, hx, hxn⟩, hr0, hr1, hB⟩ hK
      have HF : Hid (R = none) := Lib.hid (by
        obtain ⟨p, hp, rfl⟩ := List.mem_map.1 (hpre.subset hx)
        rw [toStr_val p (Nat.le_trans (hlen.2 p hp) hs)] at hxn
        rw [HI.out]; exact allC_none _ p hp hxn)
      have g0 := Boxed.cell (v := .slice none 0 0) (hr0.kept (grownBy_putObj' _ D (.deferred none)) (fun e => by cases e; unfold Boxed at hr0; rw [hr0] at hK; cases hK))
      have g1 := Boxed.cell (v := .bool false) (hr1.kept (grownBy_putObj' _ D (.deferred none)) (fun e => by cases e; unfold Boxed at hr1; rw [hr1] at hK; cases hK))
      gi_wp2_with fail
      refine ⟨by simp, .inl ⟨_, _, rfl, run_takeDeferred hK, ?_⟩⟩
      refine ⟨.tuple #[.slice none 0 0, .bool false], by simp [results, Tryd.results12, go_sem, g0, g1], (QX.trans hB).trans (belowK_b (w := w) (Nat.le_refl _) _ D _ (.deferred none) (by omega) hK rfl rfl), ?_⟩
      rw [HF.out]
  · rw [hbad, if_pos rfl] at HI
    have f0 := R0.frozen
    have f1 := R1.frozen
    have c0 := R0.cell
    have c1 := R1.cell
    have d0 := (R0.set (.slice none 0 0)).other (B' := w.heap.size + 1) (by omega) (.bool false)
    have d1 := (R1.other (B' := w.heap.size) (by omega) (.slice none 0 0)).set (.bool false)
    have e0 := d0.cell
    have e1 := d1.cell
    gi_wp2_with fail
    refine ⟨.tuple #[.slice none 0 0, .bool false], by simp [results, Tryd.results12, go_sem, e0, e1], (QB.setCell (p := ⟨w.heap.size, 0, none⟩) (Nat.le_refl _) _).setCell (p := ⟨w.heap.size + 1, 0, none⟩) (by show w.heap.size ≤ w.heap.size + 1; omega) _, ?_⟩
    rw [HI.out]

end Go.Proofs.YtcjkgmfidkgamaaDoor
namespace Go.Pub
theorem letterN_ways (b : Nat) : (letterN b = true ∧ ((97 ≤ b ∧ b ≤ 122) ∨ (¬ 97 ≤ b ∧ 65 ≤ b ∧ b ≤ 90))) ∨ (letterN b = false ∧ ((97 ≤ b ∧ ¬ b ≤ 122) ∨ (¬ 97 ≤ b ∧ 65 ≤ b ∧ ¬ b ≤ 90) ∨ (¬ 97 ≤ b ∧ ¬ 65 ≤ b))) := by
  cases h : letterN b
  · refine .inr ⟨rfl, ?_⟩; unfold letterN at h; simp at h; omega
  · refine .inl ⟨rfl, ?_⟩; unfold letterN at h; simp at h; omega
end Go.Pub
namespace Go.Proofs.YtcjkgmfidkgamaaDoor
open Go.RowKit Go.Pub
set_option maxRecDepth 100000 in
set_option maxHeartbeats 4000000 in
theorem s_auto (s : ByteArray) (i : Nat) (w : World) (hs : s.size ≤ 1000000) (hi : i < s.size) : Calls Tryd.prog 40 #[.string s, .int .i64 i] w (InPost (autI s i) w) := by
  have HK := Lib.hid fun e h1 h2 h3 h4 => autK_eq s i e h1 h2 h3 h4
  have HE := Lib.hid fun e h1 h2 h3 h4 => toE_eq s (autK s i) (fun b => b == 32 || b == 10 || b == 60 || b == 62) e h1 h2 h3 h4
  have hEd : toE s (autK s i) (fun b => b == 32 || b == 10 || b == 60 || b == 62) = autE s i := rfl
  rw [hEd] at HE
  clear hEd
  obtain ⟨R, hR⟩ : ∃ R, R = autI s i := ⟨_, rfl⟩
  rw [← hR]
  unfold autI at hR
  have HR := Lib.hid hR
  clear hR
  generalize autE s i = E at *
  generalize autK s i = K at *
  go_enter Tryd.func40, Tryd.ntmps40
  go_wp2_with fail
  go_loopw [6] (fun v wr => ∃ k : Nat, v = .int .i64 k ∧ i + 1 ≤ k ∧ k ≤ s.size ∧ Hid (∀ j, i + 1 ≤ j → j < k → letterN (bt s j) = true) ∧ Blk wr w.heap.size 33 zIn ∧ Below w.heap.size w wr) (fun v _ => s.size - (intOf v).toNat)
  case atStart => exact ⟨i + 1, by go_num, Nat.le_refl _, hi, Lib.hid (fun j h1 h2 => by omega), Blk.new w _ _, (Below.refl _ w).alloc (Nat.le_refl _) _⟩
  case round =>
    obtain ⟨k, rfl, hik, hk, HJ, hbl, hbw⟩ := hrel
    have HBl := Lib.hid hbl
    have HBw := Lib.hid hbw
    clear hbl hbw
    obtain ⟨q, hq⟩ : ∃ q, q = (decide (k < s.size) && letterN (bt s k)) := ⟨_, rfl⟩
    have HQ := Lib.hid hq
    clear hq
    go_upto_region 2 with fail
    go_cut [37] from 10 to 39 (fun s37 wx => s37 = .bool q ∧ wr = wx)
    case first =>
      by_cases hl : k < s.size
      · have hg := get_bt s k hl
        have hw := letterN_ways (bt s k)
        have HQ2 : Hid (q = letterN (bt s k)) := Lib.hid (by rw [HQ.out, decide_eq_true hl, Bool.true_and])
        generalize bt s k = b at *
        generalize letterN b = x at *
        rcases hw with ⟨rfl, ⟨a1, a2⟩ | ⟨a1, a2, a3⟩⟩ | ⟨rfl, ⟨a1, a2⟩ | ⟨a1, a2, a3⟩ | ⟨a1, a2⟩⟩
        all_goals
          go_wp2_with fail
          go_meet
          case rel => exact ⟨by rw [HQ2.out] <;> (simp; omega), rfl⟩
      · have HQ2 : Hid (q = false) := Lib.hid (by rw [HQ.out, decide_eq_false hl, Bool.false_and])
        go_wp2_with fail
        go_meet
        case rel => exact ⟨by rw [HQ2.out], rfl⟩
    case rest =>
    obtain ⟨rfl, rfl⟩ := hcut
    cases q
    · have HKk : Hid (K = k) := Lib.hid (HK.out k hik hk HJ.out fun h => by have := HQ.out; rw [decide_eq_true h, Bool.true_and] at this; exact this.symm)
      rw [HKk.out] at HR HE
      clear HK HKk HQ HJ
      obtain ⟨c0, c1, c2, c3, c4, c5, c6, c7, c8, c9, f0, f1, f2, f3, f4, f5, f6, f7, f8, f9⟩ := in_facts HBl.out
      have e1 : (k : Int) - (i : Int) = ((k - i : Nat) : Int) := by omega
      have e2 : ((k - i : Nat) : Int) - 1 = ((k - i - 1 : Nat) : Int) := by omega
      by_cases c : 2 ≤ k - i - 1 ∧ k - i - 1 ≤ 20 ∧ k < s.size ∧ bt s k = 58
      · obtain ⟨x1, x2, x3, x4⟩ := c
        have HR2 : Hid (R = if E < s.size ∧ bt s E = 62 then some ({ kind := 16, dest := s.extract (i + 1) E }, E + 1) else none) := Lib.hid (by
          rw [HR.out]
          by_cases h : E < s.size ∧ bt s E = 62
          · rw [if_pos h, if_pos ⟨x1, x2, x3, x4, h.1, h.2⟩]
          · rw [if_neg h, if_neg fun c => h ⟨c.2.2.2.2.1, c.2.2.2.2.2⟩])
        clear HR
        have hg := get_bt s k x3
        rw [x4] at hg
        clear x4
        go_wp2_with fail
        go_loopw [6] (fun v wr => ∃ m : Nat, v = .int .i64 m ∧ k ≤ m ∧ m ≤ s.size ∧ Hid (∀ j, k ≤ j → j < m → (bt s j == 32 || bt s j == 10 || bt s j == 60 || bt s j == 62) = false) ∧ Blk wr w.heap.size 33 zIn ∧ Below w.heap.size w wr) (fun v _ => s.size - (intOf v).toNat)
        case atStart => exact ⟨k, rfl, Nat.le_refl _, hk, Lib.hid (fun j h1 h2 => by omega), HBl.out, HBw.out⟩
        case round =>
          clear HBl HBw c0 c1 c2 c3 c4 c5 c6 c7 c8 c9 f0 f1 f2 f3 f4 f5 f6 f7 f8 f9 hg
          obtain ⟨m, rfl, hkm, hm, HJ, hbl, hbw⟩ := hrel
          have HBl := Lib.hid hbl
          have HBw := Lib.hid hbw
          clear hbl hbw
          obtain ⟨c0, c1, c2, c3, c4, c5, c6, c7, c8, c9, f0, f1, f2, f3, f4, f5, f6, f7, f8, f9⟩ := in_facts HBl.out
          by_cases hl : m < s.size
          · have hg := get_bt s m hl
            have HX : Hid (∀ b, bt s m = b → (b == 32 || b == 10 || b == 60 || b == 62) = true → E = m) := Lib.hid fun b hb h => HE.out m hkm hm HJ.out fun _ => by rw [hb]; exact h
            have HY : Hid ((bt s m == 32 || bt s m == 10 || bt s m == 60 || bt s m == 62) = false → ∀ j, k ≤ j → j < m + 1 → (bt s j == 32 || bt s j == 10 || bt s j == 60 || bt s j == 62) = false) := Lib.hid fun h j h1 h2 => by
              by_cases e : j = m
              · subst e; exact h
              · exact HJ.out j h1 (by omega)
            have HB : Hid (∀ b, bt s m = b → bt s m = b) := Lib.hid fun _ h => h
            by_cases h62 : bt s m = 62
            · have HF : Hid (R = some ({ kind := 16, dest := s.extract (i + 1) m }, m + 1)) := Lib.hid (by rw [HR2.out, HX.out 62 h62 rfl, if_pos ⟨hl, h62⟩])
              rw [h62] at hg
              have hsl : i + 1 ≤ m := by omega
              clear h62
              go_wp2_with fail
              exact in_ret Tryd.results40 (blk10 HBl.out _ _ _ _ _ _ _ _ _ _) rfl rfl rfl (in_some HF.out rfl rfl (below10 HBw.out (Nat.le_refl _) _ _ _ _ _ _ _ _ _ _) rfl (by omega))
            · by_cases hst : bt s m = 32 ∨ bt s m = 10 ∨ bt s m = 60
              · have HF : Hid (R = none) := Lib.hid (by
                  have hE : E = m := by rcases hst with h | h | h <;> exact HX.out _ h rfl
                  rw [HR2.out, hE, if_neg fun c => h62 c.2])
                clear HX HY HB HR2 h62
                rcases hst with h | h | h
                all_goals
                  rw [h] at hg
                  clear h
                  go_wp2_with fail
                  exact in_ret Tryd.results40 (blk10 HBl.out _ _ _ _ _ _ _ _ _ _) rfl rfl rfl (in_none HF.out (below10 HBw.out (Nat.le_refl _) _ _ _ _ _ _ _ _ _ _))
              · have HN := Lib.hid (HY.out (by
                  have n1 : (bt s m == 32) = false := beq_eq_false_iff_ne.2 fun e => hst (.inl e)
                  have n2 : (bt s m == 10) = false := beq_eq_false_iff_ne.2 fun e => hst (.inr (.inl e))
                  have n3 : (bt s m == 60) = false := beq_eq_false_iff_ne.2 fun e => hst (.inr (.inr e))
                  have n4 : (bt s m == 62) = false := beq_eq_false_iff_ne.2 h62
                  rw [n1, n2, n3, n4]; rfl))
                have n1 : ((bt s m : Int) != 32) = true := bne_iff_ne.2 (by omega)
                have n2 : ((bt s m : Int) != 10) = true := bne_iff_ne.2 (by omega)
                have n3 : ((bt s m : Int) != 60) = true := bne_iff_ne.2 (by omega)
                have n4 : ((bt s m : Int) != 62) = true := bne_iff_ne.2 (by omega)
                clear HX HY HB hst h62
                generalize bt s m = b at *
                go_wp2_with fail
                go_roundw
                case rel => exact ⟨m + 1, by go_num, by omega, by omega, HN, HBl.out, HBw.out⟩
                case measure => simp [intOf]; omega
          · have HF : Hid (R = none) := Lib.hid (by
              have hE : E = m := HE.out m hkm hm HJ.out fun h => absurd h hl
              rw [HR2.out, hE, if_neg fun c => hl c.1])
            go_wp2_with fail
            exact in_ret Tryd.results40 (blk10 HBl.out _ _ _ _ _ _ _ _ _ _) rfl rfl rfl (in_none HF.out (below10 HBw.out (Nat.le_refl _) _ _ _ _ _ _ _ _ _ _))
      · have HF : Hid (R = none) := Lib.hid (by rw [HR.out, if_neg fun h => c ⟨h.1, h.2.1, h.2.2.1, h.2.2.2.1⟩])
        clear HR
        by_cases x1 : 2 ≤ k - i - 1
        · by_cases x2 : k - i - 1 ≤ 20
          · by_cases x3 : k < s.size
            · have hg := get_bt s k x3
              have n1 : ((bt s k : Int) != 58) = true := bne_iff_ne.2 (by omega)
              clear c
              generalize bt s k = b at *
              go_wp2_with fail
              exact in_ret Tryd.results40 (blk10 HBl.out _ _ _ _ _ _ _ _ _ _) rfl rfl rfl (in_none HF.out (below10 HBw.out (Nat.le_refl _) _ _ _ _ _ _ _ _ _ _))
            · clear c
              go_wp2_with fail
              exact in_ret Tryd.results40 (blk10 HBl.out _ _ _ _ _ _ _ _ _ _) rfl rfl rfl (in_none HF.out (below10 HBw.out (Nat.le_refl _) _ _ _ _ _ _ _ _ _ _))
          · clear c
            go_wp2_with fail
            exact in_ret Tryd.results40 (blk10 HBl.out _ _ _ _ _ _ _ _ _ _) rfl rfl rfl (in_none HF.out (below10 HBw.out (Nat.le_refl _) _ _ _ _ _ _ _ _ _ _))
        · clear c
          go_wp2_with fail
          exact in_ret Tryd.results40 (blk10 HBl.out _ _ _ _ _ _ _ _ _ _) rfl rfl rfl (in_none HF.out (below10 HBw.out (Nat.le_refl _) _ _ _ _ _ _ _ _ _ _))
    · have hl : k < s.size ∧ letterN (bt s k) = true := by have := HQ.out; simpa using this.symm
      have HN : Hid (∀ j, i + 1 ≤ j → j < k + 1 → letterN (bt s j) = true) := Lib.hid fun j h1 h2 => by
        by_cases e : j = k
        · subst e; exact hl.2
        · exact HJ.out j h1 (by omega)
      have hl1 := hl.1
      clear hl
      go_wp2_with fail
      go_roundw
      case rel => exact ⟨k + 1, by go_num, by omega, by omega, HN, HBl.out, HBw.out⟩
      case measure => simp [intOf]; omega

end Go.Proofs.YtcjkgmfidkgamaaDoor
namespace Go.Pub
/-- The first byte of a set, from the bytes of a suffix. -/
theorem toE_index (s : ByteArray) (i : Nat) (cs : List UInt8) (p : Nat → Bool) (hp : ∀ b : UInt8, p b.toNat = cs.contains b) (hi : i ≤ s.size) :
    Lib.indexAny (bytesL (s.extract i s.size)) cs = if toE s i p < s.size then ((toE s i p - i : Nat) : Int) else -1 := by
  have hl : (bytesL (s.extract i s.size)).length = s.size - i := by rw [bytesL_length, ByteArray.size_extract]; omega
  rw [index_cnt, hl]
  have e : cntW (fun b => !cs.contains (UInt8.ofNat b)) (bytesL (s.extract i s.size)) = runF s i fun b => !p b := by
    have hx : bytesL (s.extract i s.size) = sfx s i := by
      rw [bytesL_sub]; unfold sub sfx; exact List.take_of_length_le (by rw [List.length_drop, bytesL_length]; omega)
    unfold runF
    rw [hx]
    apply cntW_fn
    intro b _
    show (!cs.contains (UInt8.ofNat b.toNat)) = !p b.toNat
    rw [hp]; simp
  rw [e]
  unfold toE
  have := runF_le s i fun b => !p b
  by_cases h : i + (runF s i fun b => !p b) < s.size
  · rw [if_pos h, if_pos (by omega)]; congr 1; omega
  · rw [if_neg h, if_neg (by omega)]
theorem u8_is (b : UInt8) (c : Nat) (hc : c < 256) : (b.toNat == c) = (b == UInt8.ofNat c) := by
  rw [Bool.eq_iff_iff, beq_iff_eq, beq_iff_eq, ← UInt8.toNat_inj, ofNat_toNat c hc]
theorem dol_set (b : UInt8) : (b.toNat == 36 || b.toNat == 10) = ([36, 10] : List UInt8).contains b := by
  rw [u8_is b 36 (by decide), u8_is b 10 (by decide)]
  show (b == 36 || b == 10) = (b == 36 || (b == 10 || false))
  rw [Bool.or_false]
theorem asc_dol : ∀ b ∈ bytesL (⟨#[36, 10]⟩ : ByteArray), b.toNat < 128 := by
  intro b hb
  have h : b ∈ ([36, 10] : List UInt8) := hb
  rcases List.mem_cons.1 h with rfl | h
  · decide
  · rw [List.mem_singleton.1 h]; decide
end Go.Pub
namespace Go.Proofs.YtcjkgmfidkgamaaDoor
open Go.RowKit Go.Pub
set_option maxRecDepth 100000 in
set_option maxHeartbeats 4000000 in
theorem s_dollars (s : ByteArray) (i : Nat) (w : World) (hs : s.size ≤ 1000000) (hi : i < s.size) : Calls Tryd.prog 38 #[.string s, .int .i64 i] w (InPost (dolI s i) w) := by
  have HI : Hid (∀ W, Calls Tryd.prog 25 #[.string (s.extract (i + 1) s.size), .string ⟨#[36, 10]⟩] W fun e w' => e = .returned (.int .i64 (if dolE s i < s.size then ((dolE s i - (i + 1) : Nat) : Int) else -1)) ∧ Below W.heap.size W w') := Lib.hid fun W => by
    have h := anyX (s.extract (i + 1) s.size) ⟨#[36, 10]⟩ W asc_dol (by decide) (by decide) (by rw [ByteArray.size_extract]; omega)
    rw [show bytesL (⟨#[36, 10]⟩ : ByteArray) = [36, 10] from rfl, toE_index s (i + 1) [36, 10] (fun b => b == 36 || b == 10) dol_set (by omega)] at h
    exact h
  have HD := Lib.hid fun (c : Int) W => digit_any c W
  have HG : Hid (∀ b : Nat, digitB (b : Int) = dgN b) := Lib.hid fun b => by unfold digitB dgN; rw [Bool.eq_iff_iff]; simp; omega
  have HT := Lib.hid (toE_stop s (i + 1) fun b => b == 36 || b == 10)
  have hEd : toE s (i + 1) (fun b => b == 36 || b == 10) = dolE s i := rfl
  have hge := toE_ge s (i + 1) fun b => b == 36 || b == 10
  rw [hEd] at HT hge
  clear hEd
  obtain ⟨R, hR⟩ : ∃ R, R = dolI s i := ⟨_, rfl⟩
  rw [← hR]
  unfold dolI at hR
  have HR := Lib.hid hR
  clear hR
  generalize dolE s i = D at *
  by_cases c1 : D < s.size
  · rw [if_pos c1] at HI
    have hgD := get_bt s D c1
    have HW : bt s D = 36 ∨ bt s D = 10 := by simpa using HT.out c1
    by_cases c2 : D = i + 1
    · have HF : Hid (R = none) := Lib.hid (by rw [HR.out, if_neg fun c => c.2.1 c2])
      have e0 : ((D - (i + 1) : Nat) : Int) = 0 := by omega
      rw [e0] at HI
      clear HR HT c2
      go_enter Tryd.func38, Tryd.ntmps38
      go_wp2_with fail
      ((with_reducible refine (HI.out _).mono ?_))
      rintro e w1 ⟨rfl, b1⟩
      have hbl := (Blk.new w 33 zIn).below b1 (by simp)
      have hbw := ((Below.refl w.heap.size w).alloc (Nat.le_refl _) (.cells zIn 33)).trans (b1.mono (by simp))
      obtain ⟨c0, c1, c2, c3, c4, c5, c6, c7, c8, c9, f0, f1, f2, f3, f4, f5, f6, f7, f8, f9⟩ := in_facts hbl
      go_wp2_with fail
      exact in_ret Tryd.results38 (blk10 hbl _ _ _ _ _ _ _ _ _ _) rfl rfl rfl (in_none HF.out (below10 hbw (Nat.le_refl _) _ _ _ _ _ _ _ _ _ _))
    · have e0 : (i : Int) + 1 + ((D - (i + 1) : Nat) : Int) = (D : Int) := by omega
      have d0 : decide (((D - (i + 1) : Nat) : Int) < 1) = false := decide_eq_false (by omega)
      have hn0 : (0 : Int) ≤ ((D - (i + 1) : Nat) : Int) ∧ ((D - (i + 1) : Nat) : Int) ≤ 1000000 := by omega
      generalize ((D - (i + 1) : Nat) : Int) = nn at *
      have hD1 : (D : Int) - 1 = ((D - 1 : Nat) : Int) := by omega
      have hgi := get_bt s (i + 1) (by omega)
      have hgd := get_bt s (D - 1) (by omega)
      have hi1 : i + 1 < s.size := by omega
      have hd1 : D - 1 < s.size := by omega
      have hsl : i + 1 ≤ D := hge
      have HQ : Hid (R = if bt s D = 36 ∧ bt s (i + 1) ≠ 32 ∧ bt s (D - 1) ≠ 32 ∧ ¬ (D + 1 < s.size ∧ dgN (bt s (D + 1)) = true) then some (spn 5 (s.extract (i + 1) D), D + 1) else none) := Lib.hid (by
        rw [HR.out]
        by_cases h : bt s D = 36 ∧ bt s (i + 1) ≠ 32 ∧ bt s (D - 1) ≠ 32 ∧ ¬ (D + 1 < s.size ∧ dgN (bt s (D + 1)) = true)
        · rw [if_pos h, if_pos ⟨c1, c2, h⟩]
        · rw [if_neg h, if_neg fun c => h c.2.2])
      have hg2 : ∀ h : D + 1 < s.size, ((s[D + 1]'h).toNat : Int) = (bt s (D + 1) : Int) := fun h => by rw [get_bt s (D + 1) h]
      have HG1 := Lib.hid (HG.out (bt s (D + 1)))
      have HD1 := Lib.hid fun W => HD.out (bt s (D + 1) : Int) W
      have hb2 := bt_lt s (D + 1)
      clear HG HD HR HT c2
      generalize bt s (i + 1) = bi at *
      generalize bt s (D - 1) = bd at *
      generalize bt s (D + 1) = b2 at *
      generalize bt s D = bD at *
      generalize dgN b2 = dg at *
      rw [HG1.out] at HD1
      clear HG1
      go_enter Tryd.func38, Tryd.ntmps38
      go_wp2_with fail
      ((with_reducible refine (HI.out _).mono ?_))
      rintro e w1 ⟨rfl, b1⟩
      have hbl := (Blk.new w 33 zIn).below b1 (by simp)
      have hbw := ((Below.refl w.heap.size w).alloc (Nat.le_refl _) (.cells zIn 33)).trans (b1.mono (by simp))
      have HBl := Lib.hid hbl
      have HBw := Lib.hid hbw
      obtain ⟨c0, c1', c2, c3, c4, c5, c6, c7, c8, c9, f0, f1, f2, f3, f4, f5, f6, f7, f8, f9⟩ := in_facts hbl
      clear hbl hbw b1 HI
      rcases HW with rfl | rfl
      · by_cases x1 : bi = 32
        · have HF : Hid (R = none) := Lib.hid (by rw [HQ.out, if_neg fun c => c.2.1 x1])
          subst x1
          clear HQ
          go_wp2_with fail
          exact in_ret Tryd.results38 (blk10 HBl.out _ _ _ _ _ _ _ _ _ _) rfl rfl rfl (in_none HF.out (below10 HBw.out (Nat.le_refl _) _ _ _ _ _ _ _ _ _ _))
        · have z1 : ((bi : Int) == 32) = false := beq_eq_false_iff_ne.2 (by omega)
          by_cases x2 : bd = 32
          · have HF : Hid (R = none) := Lib.hid (by rw [HQ.out, if_neg fun c => c.2.2.1 x2])
            subst x2
            clear HQ x1
            go_wp2_with fail
            exact in_ret Tryd.results38 (blk10 HBl.out _ _ _ _ _ _ _ _ _ _) rfl rfl rfl (in_none HF.out (below10 HBw.out (Nat.le_refl _) _ _ _ _ _ _ _ _ _ _))
          · have z2 : ((bd : Int) == 32) = false := beq_eq_false_iff_ne.2 (by omega)
            by_cases x3 : D + 1 < s.size
            · have hg3 := hg2 x3
              cases dg
              · have HF : Hid (R = some (spn 5 (s.extract (i + 1) D), D + 1)) := Lib.hid (by rw [HQ.out, if_pos ⟨rfl, x1, x2, fun c => by cases c.2⟩])
                clear HQ x1 x2
                go_wp2_with fail
                ((with_reducible refine (HD1.out _).mono ?_))
                rintro e w2 ⟨rfl, rfl⟩
                go_wp2_with fail
                exact in_ret Tryd.results38 (blk10 HBl.out _ _ _ _ _ _ _ _ _ _) rfl rfl rfl (in_some HF.out rfl rfl (below10 HBw.out (Nat.le_refl _) _ _ _ _ _ _ _ _ _ _) rfl (by omega))
              · have HF : Hid (R = none) := Lib.hid (by rw [HQ.out, if_neg fun c => c.2.2.2 ⟨x3, rfl⟩])
                clear HQ x1 x2
                go_wp2_with fail
                ((with_reducible refine (HD1.out _).mono ?_))
                rintro e w2 ⟨rfl, rfl⟩
                go_wp2_with fail
                exact in_ret Tryd.results38 (blk10 HBl.out _ _ _ _ _ _ _ _ _ _) rfl rfl rfl (in_none HF.out (below10 HBw.out (Nat.le_refl _) _ _ _ _ _ _ _ _ _ _))
            · have HF : Hid (R = some (spn 5 (s.extract (i + 1) D), D + 1)) := Lib.hid (by rw [HQ.out, if_pos ⟨rfl, x1, x2, fun c => x3 c.1⟩])
              clear HQ x1 x2
              go_wp2_with fail
              exact in_ret Tryd.results38 (blk10 HBl.out _ _ _ _ _ _ _ _ _ _) rfl rfl rfl (in_some HF.out rfl rfl (below10 HBw.out (Nat.le_refl _) _ _ _ _ _ _ _ _ _ _) rfl (by omega))
      · have HF : Hid (R = none) := Lib.hid (by rw [HQ.out, if_neg fun c => by cases c.1])
        clear HQ
        go_wp2_with fail
        exact in_ret Tryd.results38 (blk10 HBl.out _ _ _ _ _ _ _ _ _ _) rfl rfl rfl (in_none HF.out (below10 HBw.out (Nat.le_refl _) _ _ _ _ _ _ _ _ _ _))
  · rw [if_neg c1] at HI
    have HF : Hid (R = none) := Lib.hid (by rw [HR.out, if_neg fun c => c1 c.1])
    clear HR HT
    go_enter Tryd.func38, Tryd.ntmps38
    go_wp2_with fail
    ((with_reducible refine (HI.out _).mono ?_))
    rintro e w1 ⟨rfl, b1⟩
    have hbl := (Blk.new w 33 zIn).below b1 (by simp)
    have hbw := ((Below.refl w.heap.size w).alloc (Nat.le_refl _) (.cells zIn 33)).trans (b1.mono (by simp))
    obtain ⟨c0, c1, c2, c3, c4, c5, c6, c7, c8, c9, f0, f1, f2, f3, f4, f5, f6, f7, f8, f9⟩ := in_facts hbl
    go_wp2_with fail
    exact in_ret Tryd.results38 (blk10 hbl _ _ _ _ _ _ _ _ _ _) rfl rfl rfl (in_none HF.out (below10 hbw (Nat.le_refl _) _ _ _ _ _ _ _ _ _ _))

end Go.Proofs.YtcjkgmfidkgamaaDoor
namespace Go.Pub
theorem brk_set (b : UInt8) : (b.toNat == 91 || b.toNat == 93) = ([91, 93] : List UInt8).contains b := by
  rw [u8_is b 91 (by decide), u8_is b 93 (by decide)]
  show (b == 91 || b == 93) = (b == 91 || (b == 93 || false))
  rw [Bool.or_false]
theorem asc_brk : ∀ b ∈ bytesL (⟨#[91, 93]⟩ : ByteArray), b.toNat < 128 := by
  intro b hb
  have h : b ∈ ([91, 93] : List UInt8) := hb
  rcases List.mem_cons.1 h with rfl | h
  · decide
  · rw [List.mem_singleton.1 h]; decide
end Go.Pub
namespace Go.Proofs.YtcjkgmfidkgamaaDoor
open Go.RowKit Go.Pub
theorem heap10 (W : World) (g k : Nat) (h : k ≠ g) (y0 y1 y2 y3 y4 y5 y6 y7 y8 y9 : Value) : ((((((((((W.setCell ⟨g, 0, none⟩ y0).setCell ⟨g, 1, none⟩ y1).setCell ⟨g, 2, none⟩ y2).setCell ⟨g, 3, none⟩ y3).setCell ⟨g, 4, none⟩ y4).setCell ⟨g, 5, none⟩ y5).setCell ⟨g, 6, none⟩ y6).setCell ⟨g, 7, none⟩ y7).setCell ⟨g, 8, none⟩ y8).setCell ⟨g, 9, none⟩ y9).heap[k]? = W.heap[k]? := by
  have e : ∀ (V : World) (q : Nat) (y : Value), (V.setCell ⟨g, q, none⟩ y).heap[k]? = V.heap[k]? := fun V q y => Below.heap_setCell V ⟨g, q, none⟩ y k h
  rw [e, e, e, e, e, e, e, e, e, e]
theorem size10 (W : World) (g : Nat) (y0 y1 y2 y3 y4 y5 y6 y7 y8 y9 : Value) : ((((((((((W.setCell ⟨g, 0, none⟩ y0).setCell ⟨g, 1, none⟩ y1).setCell ⟨g, 2, none⟩ y2).setCell ⟨g, 3, none⟩ y3).setCell ⟨g, 4, none⟩ y4).setCell ⟨g, 5, none⟩ y5).setCell ⟨g, 6, none⟩ y6).setCell ⟨g, 7, none⟩ y7).setCell ⟨g, 8, none⟩ y8).setCell ⟨g, 9, none⟩ y9).heap.size = W.heap.size := by
  simp [World.setCell]
theorem in_cites {R : Option (InL × Nat)} {w W : World} {cs : List CitL} {A : Option Addr} {c k : Nat} {B : Nat} (hR : R = some ({ kind := 13, cites := cs }, k)) (hb : Below w.heap.size w W) (hB : w.heap.size < B) (hr : ReadsS W (Rg B W) 4 A cs.length (citCs cs)) (y0 y1 y2 y3 y4 y5 y6 y7 y8 y9 : Value) {n : Int} (hn : n = k) :
    InPost R w (.returned (.tuple #[.agg #[.int .i64 13, .string ⟨#[]⟩, .string ⟨#[]⟩, .string ⟨#[]⟩, .string ⟨#[]⟩, .slice none 0 0, .slice none 0 0, .slice none 0 0, .slice A cs.length c, .slice none 0 0], .int .i64 n])) ((((((((((W.setCell ⟨w.heap.size, 0, none⟩ y0).setCell ⟨w.heap.size, 1, none⟩ y1).setCell ⟨w.heap.size, 2, none⟩ y2).setCell ⟨w.heap.size, 3, none⟩ y3).setCell ⟨w.heap.size, 4, none⟩ y4).setCell ⟨w.heap.size, 5, none⟩ y5).setCell ⟨w.heap.size, 6, none⟩ y6).setCell ⟨w.heap.size, 7, none⟩ y7).setCell ⟨w.heap.size, 8, none⟩ y8).setCell ⟨w.heap.size, 9, none⟩ y9) := by
  subst hR; subst hn
  refine ⟨below10 hb (Nat.le_refl _) _ _ _ _ _ _ _ _ _ _, none, 0, A, c, rfl, ReadsS.none_, ?_⟩
  exact hr.keep (fun g hg => heap10 W _ g (by have := hg.1; omega) _ _ _ _ _ _ _ _ _ _) fun g hg => ⟨by have := hg.1; omega, by rw [size10]; exact hg.2⟩
set_option maxRecDepth 100000 in
set_option maxHeartbeats 4000000 in
theorem s_cite (s : ByteArray) (i : Nat) (w : World) (hs : s.size ≤ 1000000) (hi : i < s.size) : Calls Tryd.prog 43 #[.string s, .int .i64 i] w (InPost (citI s i) w) := by
  have HI : Hid (∀ W, Calls Tryd.prog 25 #[.string (s.extract (i + 1) s.size), .string ⟨#[91, 93]⟩] W fun e w' => e = .returned (.int .i64 (if citE s i < s.size then ((citE s i - (i + 1) : Nat) : Int) else -1)) ∧ Below W.heap.size W w') := Lib.hid fun W => by
    have h := anyX (s.extract (i + 1) s.size) ⟨#[91, 93]⟩ W asc_brk (by decide) (by decide) (by rw [ByteArray.size_extract]; omega)
    rw [show bytesL (⟨#[91, 93]⟩ : ByteArray) = [91, 93] from rfl, toE_index s (i + 1) [91, 93] (fun b => b == 91 || b == 93) brk_set (by omega)] at h
    exact h
  have HT := Lib.hid (toE_stop s (i + 1) fun b => b == 91 || b == 93)
  have hEd : toE s (i + 1) (fun b => b == 91 || b == 93) = citE s i := rfl
  have hge := toE_ge s (i + 1) fun b => b == 91 || b == 93
  rw [hEd] at HT hge
  clear hEd
  obtain ⟨R, hR⟩ : ∃ R, R = citI s i := ⟨_, rfl⟩
  rw [← hR]
  unfold citI at hR
  have HR := Lib.hid hR
  clear hR
  generalize citE s i = D at *
  by_cases c1 : D < s.size
  · rw [if_pos c1] at HI
    have hgD := get_bt s D c1
    have HW : bt s D = 91 ∨ bt s D = 93 := by simpa using HT.out c1
    have HC := Lib.hid fun W => s_Cites (s.extract (i + 1) D) W (by rw [ByteArray.size_extract]; omega)
    have HQ : Hid (R = if bt s D = 93 then (citesI (s.extract (i + 1) D)).map (fun cs => ({ kind := 13, cites := cs }, D + 1)) else none) := Lib.hid (by
      rw [HR.out]
      by_cases h : bt s D = 93
      · rw [if_pos h, if_pos ⟨c1, h⟩]
      · rw [if_neg h, if_neg fun c => h c.2])
    have e0 : (i : Int) + 1 + ((D - (i + 1) : Nat) : Int) = (D : Int) := by omega
    have hn0 : (0 : Int) ≤ ((D - (i + 1) : Nat) : Int) ∧ ((D - (i + 1) : Nat) : Int) ≤ 1000000 := by omega
    have e3 : (i : Int) + ((D - (i + 1) : Nat) : Int) = (D : Int) - 1 := by omega
    have hsl : i + 1 ≤ D := hge
    generalize ((D - (i + 1) : Nat) : Int) = nn at *
    generalize citesI (s.extract (i + 1) D) = C at *
    clear HR HT hge
    generalize bt s D = bD at *
    go_enter Tryd.func43, Tryd.ntmps43
    go_wp2_with fail
    ((with_reducible refine (HI.out _).mono ?_))
    rintro e w1 ⟨rfl, b1⟩
    have hbl := (Blk.new w 33 zIn).below b1 (by simp)
    have hbw := ((Below.refl w.heap.size w).alloc (Nat.le_refl _) (.cells zIn 33)).trans (b1.mono (by simp))
    have HBl := Lib.hid hbl
    have HBw := Lib.hid hbw
    have hz1 := hbl.lt
    rcases HW with rfl | rfl
    · have HF : Hid (R = none) := Lib.hid (by rw [HQ.out, if_neg (by decide)])
      obtain ⟨c0, c1', c2, c3, c4, c5, c6, c7, c8, c9, f0, f1, f2, f3, f4, f5, f6, f7, f8, f9⟩ := in_facts hbl
      clear HQ HC hbl hbw b1
      go_wp2_with fail
      exact in_ret Tryd.results43 (blk10 HBl.out _ _ _ _ _ _ _ _ _ _) rfl rfl rfl (in_none HF.out (below10 HBw.out (Nat.le_refl _) _ _ _ _ _ _ _ _ _ _))
    · have HQ2 := Lib.hid (HQ.out.trans (if_pos rfl))
      clear HQ hbl hbw b1
      go_wp2_with fail
      ((with_reducible refine (HC.out _).mono ?_))
      rintro e w2 ⟨b2, hp⟩
      have hb2 := Lib.hid (HBl.out.below b2 hz1)
      have hw2 := Lib.hid (HBw.out.trans (b2.mono (by omega)))
      obtain ⟨c0, c1', c2, c3, c4, c5, c6, c7, c8, c9, f0, f1, f2, f3, f4, f5, f6, f7, f8, f9⟩ := in_facts hb2.out
      clear b2 HBl HBw HC
      cases C with
      | none =>
        have HF : Hid (R = none) := Lib.hid HQ2.out
        obtain rfl := hp
        clear HQ2
        go_wp2_with fail
        exact in_ret Tryd.results43 (blk10 hb2.out _ _ _ _ _ _ _ _ _ _) rfl rfl rfl (in_none HF.out (below10 hw2.out (Nat.le_refl _) _ _ _ _ _ _ _ _ _ _))
      | some cs =>
        have HF : Hid (R = some ({ kind := 13, cites := cs }, D + 1)) := Lib.hid HQ2.out
        obtain ⟨A, c, rfl, hrd⟩ := hp
        have HRd := Lib.hid hrd
        clear HQ2 hrd
        go_wp2_with fail
        exact in_ret Tryd.results43 (blk10 hb2.out _ _ _ _ _ _ _ _ _ _) rfl rfl rfl (in_cites HF.out hw2.out hz1 HRd.out _ _ _ _ _ _ _ _ _ _ (by omega))
  · rw [if_neg c1] at HI
    have HF : Hid (R = none) := Lib.hid (by rw [HR.out, if_neg fun c => c1 c.1])
    clear HR HT
    go_enter Tryd.func43, Tryd.ntmps43
    go_wp2_with fail
    ((with_reducible refine (HI.out _).mono ?_))
    rintro e w1 ⟨rfl, b1⟩
    have hbl := (Blk.new w 33 zIn).below b1 (by simp)
    have hbw := ((Below.refl w.heap.size w).alloc (Nat.le_refl _) (.cells zIn 33)).trans (b1.mono (by simp))
    obtain ⟨c0, c1, c2, c3, c4, c5, c6, c7, c8, c9, f0, f1, f2, f3, f4, f5, f6, f7, f8, f9⟩ := in_facts hbl
    go_wp2_with fail
    exact in_ret Tryd.results43 (blk10 hbl _ _ _ _ _ _ _ _ _ _) rfl rfl rfl (in_none HF.out (below10 hbw (Nat.le_refl _) _ _ _ _ _ _ _ _ _ _))

end Go.Proofs.YtcjkgmfidkgamaaDoor
namespace Go.Proofs.YtcjkgmfidkgamaaDoor
open Go.RowKit Go.Pub
theorem repl_sp (s : ByteArray) (m : Int) (w : World) (hs : s.size ≤ 1000000) (hm : w.cell? ⟨0, 0, none⟩ = some (.int .i64 m)) :
    Calls Tryd.prog 82 #[.string s, .string ⟨#[10]⟩, .string ⟨#[32]⟩] w fun e w' => e = .returned (.string (mk (unLF (bytesL s)))) ∧ Below w.heap.size w w' := by
  have hc := countLF_le (bytesL s)
  rw [bytesL_length] at hc
  have h := Tryd.strings_ReplaceAll s ⟨#[10]⟩ ⟨#[32]⟩ m w (by omega) hm (by decide) (by
    show s.size + Lib.count (bytesL s) [10] * 1 ≤ _
    omega)
  refine h.mono ?_
  rintro e w' ⟨rfl, hb⟩
  refine ⟨?_, hb⟩
  show Ending.returned (.string ⟨(Lib.replaceAll (bytesL s) [10] [32]).toArray⟩) = _
  rw [replAll_lf]; rfl
theorem sub_inner (T : ByteArray) : bytesL (T.extract 1 (T.size - 1)) = ((bytesL T).drop 1).dropLast := by
  rw [bytesL_sub]; unfold sub
  rw [List.dropLast_eq_take, List.length_drop, bytesL_length]
set_option maxRecDepth 100000 in
set_option maxHeartbeats 4000000 in
theorem s_content (s : ByteArray) (m : Int) (w : World) (hs : s.size ≤ 1000000) (hm : w.cell? ⟨0, 0, none⟩ = some (.int .i64 m)) :
    Calls Tryd.prog 66 #[.string s] w fun e w' => e = .returned (.string (mk (codeT (bytesL s)))) ∧ Below w.heap.size w w' := by
  have HC := Lib.hid (repl_sp s m w hs hm)
  have HU := Lib.hid (codeT_eq (bytesL s))
  obtain ⟨T, hT⟩ : ∃ T, T = mk (unLF (bytesL s)) := ⟨_, rfl⟩
  have hTb : bytesL T = unLF (bytesL s) := by rw [hT]; exact bytesL_mk' _
  have hTz : T.size ≤ 1000000 := by
    have h1 : (bytesL T).length = T.size := bytesL_length T
    rw [hTb] at h1; unfold unLF at h1; rw [List.length_map, bytesL_length] at h1; omega
  rw [← hT] at HC
  rw [← hTb] at HU
  have HP : Hid (∀ W, Calls Tryd.prog 63 #[.string T, .string ⟨#[32]⟩] W fun e w' => e = .returned (.bool (Lib.hasPrefix (bytesL T) [32])) ∧ W = w') := Lib.hid fun W => (Tryd.strings_HasPrefix T ⟨#[32]⟩ W).mono (by rintro e w' ⟨rfl, rfl⟩; exact ⟨rfl, rfl⟩)
  have HS : Hid (∀ W, Calls Tryd.prog 83 #[.string T, .string ⟨#[32]⟩] W fun e w' => e = .returned (.bool (Lib.hasSuffix (bytesL T) [32])) ∧ W = w') := Lib.hid fun W => (Tryd.strings_HasSuffix T ⟨#[32]⟩ W (by omega)).mono (by rintro e w' ⟨rfl, rfl⟩; exact ⟨rfl, rfl⟩)
  have HT := Lib.hid fun W => trim_any T W hTz
  have h1 := pre_sp (bytesL T)
  have h2 := suf_sp (bytesL T)
  have h3 := trim_nil (bytesL T)
  have HIn := Lib.hid (sub_inner T)
  have hp1 : Lib.hasPrefix (bytesL T) [32] = true → 1 ≤ T.size := fun h => by
    have := h1.1 h
    rcases Nat.eq_zero_or_pos T.size with h | h
    · have hb : bytesL T = [] := List.eq_nil_of_length_eq_zero (by rw [bytesL_length]; exact h)
      rw [hb] at this; cases this
    · exact h
  have hp2 : (bytesL T).any (· != 32) = true → Lib.hasPrefix (bytesL T) [32] = true → 2 ≤ T.size := fun h h' => by
    have h0 := hp1 h'
    rcases Nat.lt_or_ge T.size 2 with h5 | h5
    · exfalso
      have hl : (bytesL T).length = 1 := by rw [bytesL_length]; omega
      obtain ⟨a, ha⟩ := List.length_eq_one_iff.1 hl
      have := h1.1 h'
      rw [ha] at this h
      simp at this
      subst this
      simp at h
    · exact h5
  generalize codeT (bytesL s) = R at *
  have h3' : trimL (bytesL T) = [] ↔ (bytesL T).any (· != 32) = false := h3
  generalize trimL (bytesL T) = X at *
  generalize Lib.hasPrefix (bytesL T) [32] = p at *
  generalize Lib.hasSuffix (bytesL T) [32] = q at *
  generalize (bytesL T).any (· != 32) = r at *
  have HF0 : Hid (¬ (p = true ∧ q = true ∧ r = true) → mk R = T) := Lib.hid fun h => by
    rw [HU.out, if_neg fun c => h ⟨h1.2 c.1, h2.2 c.2.1, c.2.2⟩]; exact mk_bytesL T
  have HF1 : Hid (p = true ∧ q = true ∧ r = true → mk R = T.extract 1 (T.size - 1)) := Lib.hid fun h => by
    rw [HU.out, if_pos ⟨h1.1 h.1, h2.1 h.2.1, h.2.2⟩, ← HIn.out]; exact mk_bytesL _
  clear h1 h2 h3 HU hT hTb HIn hm
  cases p
  · have HF := Lib.hid (HF0.out (by simp))
    go_enter Tryd.func66, Tryd.ntmps66
    go_wp2_with fail
    ((with_reducible refine HC.out.mono ?_))
    rintro e w1 ⟨rfl, b1⟩
    go_wp2_with fail
    ((with_reducible refine (HP.out _).mono ?_))
    rintro e w2 ⟨rfl, rfl⟩
    go_wp2_with fail
    go_ret
    exact ⟨ret_str HF.out.symm, b1⟩
  · cases q
    · have HF := Lib.hid (HF0.out (by simp))
      go_enter Tryd.func66, Tryd.ntmps66
      go_wp2_with fail
      ((with_reducible refine HC.out.mono ?_))
      rintro e w1 ⟨rfl, b1⟩
      go_wp2_with fail
      ((with_reducible refine (HP.out _).mono ?_))
      rintro e w2 ⟨rfl, rfl⟩
      go_wp2_with fail
      ((with_reducible refine (HS.out _).mono ?_))
      rintro e w2 ⟨rfl, rfl⟩
      go_wp2_with fail
      go_ret
      exact ⟨ret_str HF.out.symm, b1⟩
    · cases r
      · have HF := Lib.hid (HF0.out (by simp))
        obtain rfl : X = [] := h3'.2 rfl
        obtain ⟨x1, x2⟩ := nil_list (mk []) rfl
        go_enter Tryd.func66, Tryd.ntmps66
        go_wp2_with fail
        ((with_reducible refine HC.out.mono ?_))
        rintro e w1 ⟨rfl, b1⟩
        go_wp2_with fail
        ((with_reducible refine (HP.out _).mono ?_))
        rintro e w2 ⟨rfl, rfl⟩
        go_wp2_with fail
        ((with_reducible refine (HS.out _).mono ?_))
        rintro e w2 ⟨rfl, rfl⟩
        go_wp2_with fail
        ((with_reducible refine (HT.out _).mono ?_))
        rintro e w2 ⟨rfl, b2⟩
        go_wp2_with fail
        go_ret
        exact ⟨ret_str HF.out.symm, b1.trans (b2.mono b1.size)⟩
      · have HF := Lib.hid (HF1.out ⟨rfl, rfl, rfl⟩)
        have hX : X ≠ [] := fun e => by have := h3'.1 e; cases this
        obtain ⟨x1, x2⟩ := cons_list (mk X) (by rw [bytesL_mk']; exact hX)
        have h5 := hp2 rfl rfl
        have ez : (T.size : Int) - 1 = ((T.size - 1 : Nat) : Int) := by omega
        have hsl : 1 ≤ T.size - 1 := by omega
        go_enter Tryd.func66, Tryd.ntmps66
        go_wp2_with fail
        ((with_reducible refine HC.out.mono ?_))
        rintro e w1 ⟨rfl, b1⟩
        go_wp2_with fail
        ((with_reducible refine (HP.out _).mono ?_))
        rintro e w2 ⟨rfl, rfl⟩
        go_wp2_with fail
        ((with_reducible refine (HS.out _).mono ?_))
        rintro e w2 ⟨rfl, rfl⟩
        go_wp2_with fail
        ((with_reducible refine (HT.out _).mono ?_))
        rintro e w2 ⟨rfl, b2⟩
        go_wp2_with fail
        go_ret
        exact ⟨ret_str HF.out.symm, b1.trans (b2.mono b1.size)⟩

end Go.Proofs.YtcjkgmfidkgamaaDoor
namespace Go.Pub
/-- The runs of backticks from i on: where, how long. -/
def runsF (s : ByteArray) : Nat → Nat → List (Nat × Nat)
  | 0, _ => []
  | f + 1, i => if i < s.size then (if bt s i = 96 then (i, runF s i tick) :: runsF s f (i + runF s i tick) else runsF s f (i + 1)) else []
def runsL (s : ByteArray) : List (Nat × Nat) := runsF s s.size 0
/-- A dollar sign stands at k. -/
def dolAt (s : ByteArray) (k : Nat) : Bool := decide (k < s.size) && bt s k == 36
/-- The runs that count: with a dollar sign behind them if d. -/
def runsD (s : ByteArray) (d : Bool) (l : List (Nat × Nat)) : List (Nat × Nat) := l.filter fun p => !d || dolAt s (p.1 + p.2)
/-- Where the runs of n are. -/
def posL (n : Nat) (l : List (Nat × Nat)) : List Nat := (l.filter fun p => p.2 == n).map (·.1)
theorem tick_at {s : ByteArray} {i : Nat} (h : bt s i = 96) : tick (bt s i) = true := by rw [h]; rfl
theorem tick_pos {s : ByteArray} {i : Nat} (hi : i < s.size) (h : bt s i = 96) : 0 < runF s i tick := by
  rw [runF_yes s i tick hi (tick_at h)]; omega
theorem later_head (s : ByteArray) (n : Nat) (d : Bool) : ∀ f i, laterF s n d f i = (posL n (runsD s d (runsF s f i))).head?
  | 0, _ => rfl
  | f + 1, i => by
    unfold laterF runsF
    by_cases h1 : i < s.size
    · rw [if_pos h1, if_pos h1]
      by_cases h2 : bt s i = 96
      · rw [if_pos h2, if_pos h2]
        by_cases h3 : runF s i tick = n ∧ (d = true → i + n < s.size ∧ bt s (i + n) = 36)
        · rw [if_pos h3]
          obtain ⟨h4, h5⟩ := h3
          have h6 : (!d || dolAt s (i + runF s i tick)) = true := by
            cases d
            · rfl
            · have := h5 rfl
              unfold dolAt
              rw [h4, decide_eq_true this.1, this.2]; rfl
          unfold runsD posL
          rw [List.filter_cons, if_pos h6, List.filter_cons, if_pos (by simpa using h4)]
          rfl
        · rw [if_neg h3, later_head s n d f]
          unfold runsD posL
          rw [List.filter_cons]
          split
          · rename_i h6
            rw [List.filter_cons, if_neg]
            simp only [beq_iff_eq]
            intro h4
            refine h3 ⟨h4, fun hd => ?_⟩
            subst hd
            unfold dolAt at h6
            simp only [Bool.not_true, Bool.false_or, Bool.and_eq_true, decide_eq_true_eq, beq_iff_eq] at h6
            rw [← h4]; exact h6
          · rfl
      · rw [if_neg h2, if_neg h2, later_head s n d f]
    · rw [if_neg h1, if_neg h1]; rfl
theorem runsF_ge (s : ByteArray) : ∀ f i, ∀ p ∈ runsF s f i, i ≤ p.1
  | 0, _, p, h => by cases h
  | f + 1, i, p, h => by
    unfold runsF at h
    split at h
    · split at h
      · rw [List.mem_cons] at h
        rcases h with rfl | h
        · exact Nat.le_refl _
        · have := runsF_ge s f _ p h; omega
      · have := runsF_ge s f _ p h; omega
    · cases h
theorem runsF_asc (s : ByteArray) : ∀ f i, (runsF s f i).Pairwise fun p q => p.1 < q.1
  | 0, _ => List.Pairwise.nil
  | f + 1, i => by
    unfold runsF
    split
    · rename_i hi
      split
      · rename_i hb
        refine List.Pairwise.cons (fun q hq => ?_) (runsF_asc s f _)
        have := runsF_ge s f _ q hq
        have := tick_pos hi hb
        show i < q.1
        omega
      · exact runsF_asc s f _
    · exact List.Pairwise.nil
theorem runsF_len (s : ByteArray) : ∀ f i, (runsF s f i).length ≤ s.size - i
  | 0, _ => Nat.zero_le _
  | f + 1, i => by
    unfold runsF
    split
    · rename_i hi
      split
      · rename_i hb
        have := runsF_len s f (i + runF s i tick)
        have := tick_pos hi hb
        rw [List.length_cons]; omega
      · have := runsF_len s f (i + 1); omega
    · exact Nat.zero_le _
theorem runsF_fuel (s : ByteArray) : ∀ f g i, s.size - i ≤ f → s.size - i ≤ g → runsF s f i = runsF s g i
  | 0, 0, _, _, _ => rfl
  | 0, g + 1, i, h, _ => by unfold runsF; rw [if_neg (by omega)]
  | f + 1, 0, i, _, h => by unfold runsF; rw [if_neg (by omega)]
  | f + 1, g + 1, i, h1, h2 => by
    unfold runsF
    by_cases hi : i < s.size
    · rw [if_pos hi, if_pos hi]
      by_cases hb : bt s i = 96
      · have := tick_pos hi hb
        rw [if_pos hb, if_pos hb, runsF_fuel s f g _ (by omega) (by omega)]
      · rw [if_neg hb, if_neg hb, runsF_fuel s f g _ (by omega) (by omega)]
    · rw [if_neg hi, if_neg hi]
/-- No run of backticks reaches over i. -/
def bnd (s : ByteArray) (i : Nat) : Prop := s.size ≤ i ∨ bt s i ≠ 96 ∨ i = 0 ∨ bt s (i - 1) ≠ 96
theorem bnd_runE {s : ByteArray} {i : Nat} (h : bt s i = 96) : bnd s (runE s i) := by
  have k := (runF_all s (fun b => b == bt s i) s.size i (by omega)).2
  unfold bnd
  by_cases hl : runE s i < s.size
  · refine .inr (.inl fun e => ?_)
    have := k hl
    unfold runE at e
    rw [e, h] at this
    cases this
  · exact .inl (by omega)
theorem runE_tick {s : ByteArray} {i : Nat} (h : bt s i = 96) : runE s i = i + runF s i tick := by
  unfold runE
  congr 1
  rw [h]; rfl
theorem runs_from (s : ByteArray) (i : Nat) (hb : bnd s i) : ∀ f j, j ≤ i → s.size - j ≤ f → (runsF s f j).filter (fun p => decide (i ≤ p.1)) = runsF s (s.size - i) i
  | 0, j, hj, hf => by
    rw [runsF_fuel s (s.size - i) 0 i (Nat.le_refl _) (by omega)]; rfl
  | f + 1, j, hj, hf => by
    by_cases he : j = i
    · subst he
      rw [runsF_fuel s (s.size - j) (f + 1) j (Nat.le_refl _) hf]
      exact List.filter_eq_self.2 fun p hp => decide_eq_true (runsF_ge s _ _ p hp)
    · rw [show runsF s (f + 1) j = if j < s.size then (if bt s j = 96 then (j, runF s j tick) :: runsF s f (j + runF s j tick) else runsF s f (j + 1)) else [] from rfl]
      by_cases hl : j < s.size
      · rw [if_pos hl]
        by_cases ht : bt s j = 96
        · rw [if_pos ht, List.filter_cons, if_neg (by simp; omega)]
          refine runs_from s i hb f (j + runF s j tick) ?_ (by have := tick_pos hl ht; omega)
          rcases Nat.lt_or_ge i (j + runF s j tick) with h1 | h1
          · exfalso
            have k := (runF_all s tick s.size j (by omega)).1
            have hle := runF_le s j tick
            have a1 := k i (by omega) h1
            have a2 := k (i - 1) (by omega) (by omega)
            unfold tick at a1 a2
            rw [beq_iff_eq] at a1 a2
            unfold bnd at hb
            rcases hb with h2 | h2 | h2 | h2
            · omega
            · exact h2 a1
            · omega
            · exact h2 a2
          · exact h1
        · rw [if_neg ht]
          exact runs_from s i hb f (j + 1) (by omega) (by omega)
      · rw [if_neg hl, runsF_fuel s (s.size - i) 0 i (Nat.le_refl _) (by omega)]; rfl
theorem asc_drop (x : Nat) : ∀ l : List Nat, l.Pairwise (· < ·) → l.drop (l.countP fun y => !decide (x ≤ y)) = l.filter fun y => decide (x ≤ y)
  | [], _ => rfl
  | y :: l, h => by
    rw [List.pairwise_cons] at h
    rw [List.countP_cons, List.filter_cons]
    by_cases hx : x ≤ y
    · have h0 : l.countP (fun y => !decide (x ≤ y)) = 0 := by
        rw [List.countP_eq_zero]
        intro z hz
        have := h.1 z hz
        simp; omega
      rw [h0, decide_eq_true hx]
      simp only [Bool.not_true, Bool.false_eq_true, if_false, Nat.zero_add, List.drop_zero, if_true]
      rw [List.filter_eq_self.2]
      intro z hz
      have := h.1 z hz
      simp; omega
    · rw [decide_eq_false hx]
      simp only [Bool.not_false, if_true, Bool.false_eq_true, if_false, List.drop_succ_cons]
      exact asc_drop x l h.2
theorem posL_asc (s : ByteArray) (n : Nat) (d : Bool) : (posL n (runsD s d (runsL s))).Pairwise (· < ·) := by
  unfold posL runsD
  rw [List.pairwise_map]
  exact ((runsF_asc s _ _).filter _).filter _
/-- The first run of n from a boundary on, out of the places of all. -/
theorem later_pos (s : ByteArray) (n : Nat) (d : Bool) (i : Nat) (hb : bnd s i) : laterA s i n d = (posL n (runsD s d (runsL s)))[(posL n (runsD s d (runsL s))).countP fun y => !decide (i ≤ y)]? := by
  have h1 := asc_drop i _ (posL_asc s n d)
  have h2 : ∀ (l : List Nat) (k : Nat), l[k]? = (l.drop k).head? := fun l k => by rw [List.head?_drop]
  rw [h2, h1]
  unfold laterA
  rw [later_head]
  have h3 := runs_from s i hb s.size 0 (Nat.zero_le _) (by omega)
  rw [← h3]
  congr 1
  unfold posL runsD runsL
  rw [List.filter_map, List.filter_filter, List.filter_filter, List.filter_filter, List.filter_filter]
  congr 1
  refine List.filter_congr fun p hp => ?_
  show _ = _
  simp only [Function.comp]
  cases (p.2 == n) <;> cases (!d || dolAt s (p.1 + p.2)) <;> cases (decide (i ≤ p.1)) <;> rfl
end Go.Pub
namespace Go.Pub
open Go.RowKit Go.Maps
def numsV (l : List Nat) : List Value := l.map fun x : Nat => Value.int .i64 x
/-- Block b is a map that holds at each number n the numbers f n; all lies in blocks of S. -/
def TickM (P : Program) (w : World) (S : Nat → Prop) (t : TypeId) (b : Nat) (f : Nat → List Nat) : Prop :=
  ∀ W : World, (∀ g, S g → W.heap[g]? = w.heap[g]?) → ∀ n : Nat, n ≤ 1000000 → ∃ A c, (Instr.lookup t (.map (some b)) (.int .i64 n) false).run P W = .ok (.slice A (f n).length c) W ∧ ReadsS W S 1 A (f n).length (numsV (f n))
theorem TickM.keep {P : Program} {w w' : World} {S S' : Nat → Prop} {t : TypeId} {b : Nat} {f : Nat → List Nat} (h : TickM P w S t b f) (hk : ∀ g, S g → w'.heap[g]? = w.heap[g]?) (hS : ∀ g, S g → S' g) : TickM P w' S' t b f := by
  intro W hW n hn
  obtain ⟨A, c, h1, h2⟩ := h W (fun g hg => (hW g (hS g hg)).trans (hk g hg)) n hn
  exact ⟨A, c, h1, h2.keep (fun _ _ => rfl) hS⟩
/-- What a map's datum holds at each number. -/
def itemsD {H : Type} (d : DataW H) : List (DataW H) := match d with
  | .slice es _ => es
  | _ => []
def HoldsN {H : Type} (D : DataW H) (f : Nat → List Nat) : Prop := ∀ n : Nat, itemsD (D.atKey (.int .i64 n) .nil) = Go.ChangeShapes.lits .i64 ((f n).map fun x : Nat => (x : Int))
theorem lits_inj {H : Type} : ∀ {a b : List Int}, Go.ChangeShapes.lits (H := H) .i64 a = Go.ChangeShapes.lits .i64 b → a = b := by
  intro a b h
  unfold Go.ChangeShapes.lits at h
  exact (List.map_inj_right (fun x y hxy => by injection hxy with h1; injection h1)).1 h
theorem items_row {H : Type} {w : World} {base : Nat} {e : TypeId} {v : Value} {zs : List Int} (h : w.ownsInts base e .i64 v zs) : itemsD (rowDatum (H := H) .i64 v zs) = Go.ChangeShapes.lits .i64 zs := by
  rcases h.datum (H := H) with ⟨h1, rfl⟩ | h1 <;> rw [h1]
  · rfl
  · rfl
end Go.Pub
namespace Go.Proofs.YtcjkgmfidkgamaaDoor
open Go.RowKit Go.Pub Go.Maps
/-- A map of groups, read later. -/
theorem tick_groups {H : Type} {P : Program} {w : World} {k E t : TypeId} {base : Nat} {e : TypeId} {b m : Nat} {D : DataW H} {f : Nat → List Nat} {B : Nat} (h : w.ownsGroups P k base e .i64 b m D) (K : Keyed P k) (ht : P.underlying t = some (.map k E)) (hz : ∀ W, (zeroValue E).run P W = .ok (.slice none 0 0) W)
    (hk : ∀ n : Nat, n ≤ 1000000 → keyOf P k (.int .i64 n) = some (.int .i64 n)) (hf : HoldsN D f) (hB : B ≤ base) (hBb : B ≤ b) : TickM P w (Rg B w) t b f := by
  intro W hW n hn
  obtain ⟨es, clock, hb, F, hs, rfl, hbb, hlen, hap⟩ := h
  have hlt : b < w.heap.size := (Array.getElem?_eq_some_iff.1 hb).1
  have hb' : W.heap[b]? = some (.map es clock) := (hW b ⟨hBb, hlt⟩).trans hb
  have hn' := hf n
  rcases Maps.fit_look false K ht (hz W) hb' F (hk n hn) with ⟨hrun, _, hat⟩ | ⟨e0, y, hm0, h3, hrun, hR, hat, _⟩
  · rw [hat] at hn'
    have h0 : f n = [] := by
      have := lits_inj (H := H) (a := []) (b := (f n).map fun x : Nat => (x : Int)) hn'
      cases hq : f n with
      | nil => rfl
      | cons a l => rw [hq] at this; cases this
    refine ⟨none, 0, ?_, ?_⟩
    · rw [h0]; exact hrun
    · rw [h0]; exact ReadsS.none_
  · obtain ⟨zs, ho, rfl⟩ := rowElem_inv hR
    rw [hat, items_row ho] at hn'
    have hz2 := lits_inj hn'
    have hv : ∃ A c, e0.val = .slice A zs.length c := by
      rcases ho.1.2 with ⟨hv, h0⟩ | ⟨g, cap, cur, hv, _⟩
      · exact ⟨none, 0, by rw [hv, h0]⟩
      · exact ⟨_, _, hv⟩
    obtain ⟨A, c, hv⟩ := hv
    have ho1 := ho.1
    rw [hv] at ho1 hrun
    have hrd := ReadsS.of_own ho1
    subst hz2
    rw [List.length_map] at hrd hrun
    refine ⟨A, c, hrun, ?_⟩
    have e1 : numsV (f n) = ((f n).map fun x : Nat => (x : Int)).map (Value.int .i64) := by unfold numsV; rw [List.map_map]; rfl
    rw [e1]
    exact hrd.keep (fun g hg => hW g ⟨Nat.le_trans hB hg.1, hg.2⟩) fun g hg => ⟨Nat.le_trans hB hg.1, hg.2⟩
end Go.Proofs.YtcjkgmfidkgamaaDoor
namespace Go.Pub
open Go.Maps
theorem HoldsN.made {H : Type} : HoldsN (.map [] : DataW H) fun _ => [] := fun n => by
  show itemsD (DataW.atKey (.map []) (.int .i64 n) .nil) = []
  rfl
theorem HoldsN.put {H : Type} {D : DataW H} {f : Nat → List Nat} {w : World} {base : Nat} {e : TypeId} {v : Value} {zs : List Int} (h : HoldsN D f) (hm : IsMap D) (n x : Nat) (ho : w.ownsInts base e .i64 v (zs ++ [(x : Int)])) (hz : zs = (f n).map fun x : Nat => (x : Int)) :
    HoldsN (D.put (.int .i64 n) (rowDatum .i64 v (zs ++ [(x : Int)]))) fun m => if m = n then f n ++ [x] else f m := by
  intro m
  show itemsD _ = Go.ChangeShapes.lits .i64 ((if m = n then f n ++ [x] else f m).map fun x : Nat => (x : Int))
  by_cases hmn : m = n
  · subst hmn
    rw [if_pos rfl, Maps.atKey_put_same hm (show WideAt.IsKeyLit (.int .i64 m) from trivial), items_row ho, hz, List.map_append]; rfl
  · rw [if_neg hmn, Maps.atKey_put_other (by intro e; injection e with _ e1; exact hmn (by omega))]
    exact h m
/-- What is held at a number, out of what a look-up hands over. -/
theorem HoldsN.row {H : Type} {D : DataW H} {f : Nat → List Nat} {w : World} {base : Nat} {e : TypeId} {v : Value} {zs : List Int} (h : HoldsN D f) {n : Nat} (hat : D.atKey (.int .i64 n) .nil = rowDatum .i64 v zs) (ho : w.ownsInts base e .i64 v zs) : zs = (f n).map fun x : Nat => (x : Int) := by
  have := h n
  rw [hat, items_row ho] at this
  exact lits_inj this
end Go.Pub
