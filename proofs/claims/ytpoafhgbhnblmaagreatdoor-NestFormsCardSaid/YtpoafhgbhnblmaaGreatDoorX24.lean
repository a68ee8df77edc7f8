/-
  Texts of the proof, put together (what this law reaches): SetMap, AttrL, TabC, TabD, AttrM, TabH.
-/
import Derived.Test.YtpoafhgbhnblmaaGreatDoorX08
import Derived.Maps.Own
import Derived.Test.YtpoafhgbhnblmaaGreatDoorX12
import Derived.Test.YtpoafhgbhnblmaaGreatDoorX09
import Derived.Maps.AppendAt
import Derived.Laws.OwnMore
import Derived.Lib.TrimByte
import Derived.Deep.QuietTactic
import Derived.BigQuiet
import Derived.Deep.CutRange
import Derived.Deep.DeepCutAuto
import Derived.Test.YtpoafhgbhnblmaaGreatDoorX05
import Derived.Laws.CopyOwn
import Derived.Laws.MakeOwn
set_option linter.unusedVariables false
set_option linter.unusedSimpArgs false
namespace Go.Pub
open Go.RowKit Go.ChangeMaps Go.MapKept
open Go.Maps (Keyed)
def SetMap (w : World) (b : Nat) (keys : List ByteArray) : Prop :=
  ∃ es clock, w.heap[b]? = some (.map es clock) ∧ es.toList.map (fun e => (e.key, e.val)) = keys.map (fun k => (Value.string k, Value.bool true)) ∧ ∀ k ∈ keys, k.size ≤ maxLen
section
variable {P : Program} {w w' : World} {b : Nat} {keys : List ByteArray}
theorem SetMap.lt (h : SetMap w b keys) : b < w.heap.size := by
  obtain ⟨es, clock, hb, _⟩ := h
  exact (Array.getElem?_eq_some_iff.1 hb).1
theorem SetMap.new (w : World) : SetMap (w.alloc (.map #[] 0)) w.heap.size [] := ⟨#[], 0, (MapKept.heap_alloc w _).1, rfl, fun _ h => absurd h (by simp)⟩
theorem SetMap.kept (h : SetMap w b keys) (hb : w'.heap[b]? = w.heap[b]?) : SetMap w' b keys := by
  obtain ⟨es, clock, h1, h2⟩ := h
  exact ⟨es, clock, hb.trans h1, h2⟩
theorem SetMap.alloc (h : SetMap w b keys) (o : Obj) : SetMap (w.alloc o) b keys := h.kept (Below.heap_alloc _ _ _ h.lt)
theorem SetMap.below (h : SetMap w b keys) (hb : Below w.heap.size w w') : SetMap w' b keys := h.kept (hb.block _ h.lt)
theorem keyOf_str {k : TypeId} (hk : P.underlying k = some .string) {s : ByteArray} (hs : s.size ≤ maxLen) : ∃ l, keyOf P k (.string s) = some l := by
  unfold keyOf
  rw [hk]
  simp [mapKey, hk, hs]
theorem SetMap.entries {k : TypeId} (hk : P.underlying k = some .string) {es : Array MapEntry} (he : es.toList.map (fun e => (e.key, e.val)) = keys.map (fun k => (Value.string k, Value.bool true))) (hm : ∀ k ∈ keys, k.size ≤ maxLen) :
    ∀ e ∈ es.toList, ∃ s, s ∈ keys ∧ e.key = .string s ∧ e.val = .bool true ∧ ∃ l, keyOf P k e.key = some l := by
  intro e hmem
  have : (e.key, e.val) ∈ es.toList.map (fun e => (e.key, e.val)) := List.mem_map.2 ⟨e, hmem, rfl⟩
  rw [he] at this
  obtain ⟨s, hs, he'⟩ := List.mem_map.1 this
  injection he' with e1 e2
  obtain ⟨l, hl⟩ := keyOf_str hk (hm s hs)
  exact ⟨s, hs, e1.symm, e2.symm, l, by rw [← e1]; exact hl⟩
theorem SetMap.find {k : TypeId} (hk : P.underlying k = some .string) {es : Array MapEntry} (he : es.toList.map (fun e => (e.key, e.val)) = keys.map (fun k => (Value.string k, Value.bool true))) (hm : ∀ k ∈ keys, k.size ≤ maxLen)
    (x : ByteArray) (hx : x.size ≤ maxLen) (w : World) : (x ∉ keys ∧ (Instr.findKey k (.string x) es.toList).run P w = .ok none w) ∨ (x ∈ keys ∧ ∃ j, (Instr.findKey k (.string x) es.toList).run P w = .ok (some (j, .bool true)) w) := by
  obtain ⟨lx, hlx⟩ := keyOf_str hk hx
  have hE := SetMap.entries hk he hm
  rcases (Maps.string_keyed hk).find w hlx es.toList (fun e hmem => (hE e hmem).choose_spec.2.2.2) with ⟨h1, h2⟩ | ⟨j, e, h1, h2, h3⟩
  · left
    refine ⟨fun hmem => ?_, h1⟩
    have : (Value.string x, Value.bool true) ∈ keys.map (fun k => (Value.string k, Value.bool true)) := List.mem_map.2 ⟨x, hmem, rfl⟩
    rw [← he] at this
    obtain ⟨e, hmem', he'⟩ := List.mem_map.1 this
    injection he' with e1 e2
    exact h2 e hmem' e1
  · right
    have hmem := List.mem_of_getElem? h2
    obtain ⟨s, hs, k1, k2, _⟩ := hE e hmem
    rw [h3] at k1
    injection k1 with k1
    subst k1
    rw [k2] at h1
    exact ⟨hs, j, h1⟩
theorem SetMap.look {t k e : TypeId} (h : SetMap w b keys) (ht : P.underlying t = some (.map k e)) (hk : P.underlying k = some .string) (hz : (zeroValue e).run P w = .ok (.bool false) w) (x : ByteArray) (hx : x.size ≤ maxLen) :
    (Instr.lookup t (.map (some b)) (.string x) false).run P w = .ok (.bool (Lib.containsS keys x)) w := by
  obtain ⟨es, clock, hb, he, hm⟩ := h
  obtain ⟨lx, hlx⟩ := keyOf_str hk hx
  have hck := (Maps.string_keyed hk).check w es.isEmpty hlx
  rcases SetMap.find hk he hm x hx w with ⟨h1, h2⟩ | ⟨h1, j, h2⟩
  · have hc : Lib.containsS keys x = false := by rw [← Bool.not_eq_true, Lib.containsS_iff]; exact h1
    simp [Instr.lookup, run_underlying ht, MapKept.run_getObj_map hb, hck, h2, hz, hc, Result.andThen]
  · have hc : Lib.containsS keys x = true := (Lib.containsS_iff _ _).2 h1
    simp [Instr.lookup, run_underlying ht, MapKept.run_getObj_map hb, hck, h2, hc, Result.andThen]
theorem SetMap.put {t k e : TypeId} (h : SetMap w b keys) (ht : P.underlying t = some (.map k e)) (hk : P.underlying k = some .string) (x : ByteArray) (hx : x.size ≤ maxLen) (hno : Lib.containsS keys x = false) :
    ∃ w1, (Instr.mapUpdate t (.map (some b)) (.string x) (.bool true)).run P w = .ok () w1 ∧ SetMap w1 b (keys ++ [x]) ∧ w.grownBy w1 (some b) ∧ w1.heap.size = w.heap.size := by
  have hlt := h.lt
  obtain ⟨es, clock, hb, he, hm⟩ := h
  obtain ⟨lx, hlx⟩ := keyOf_str hk hx
  have hck := (Maps.string_keyed hk).check w false hlx
  rcases SetMap.find hk he hm x hx w with ⟨h1, h2⟩ | ⟨h1, j, h2⟩
  · refine ⟨setBlock w b (.map (es.push ⟨.string x, .bool true, clock⟩) (clock + 1)), ?_, ⟨es.push ⟨.string x, .bool true, clock⟩, clock + 1, ?_, ?_, ?_⟩, ⟨rfl, rfl, rfl, ?_, ?_⟩, ?_⟩
    · simp [Instr.mapUpdate, run_underlying ht, MapKept.run_getObj_map hb, hck, h2, MapKept.run_setObj_map _ hb, Result.andThen, setBlock]
    · simp [setBlock, Array.getElem?_setIfInBounds, hlt]
    · rw [Array.toList_push, List.map_append, List.map_append, he]; rfl
    · intro y hy
      rcases List.mem_append.1 hy with hy | hy
      · exact hm y hy
      · simp at hy; subst hy; exact hx
    · simp [setBlock]
    · intro i _ hi
      simp only [setBlock]
      rw [Array.getElem?_setIfInBounds, if_neg (fun e => hi (by rw [e]))]
    · simp [setBlock]
  · have := (Lib.containsS_iff _ _).2 h1
    rw [hno] at this; cases this
theorem SetMap.clear {t : TypeId} {k e : TypeId} (h : SetMap w b keys) (ht : P.underlying t = some (.map k e)) :
    ∃ w1, (∀ ty, (Builtin.clear_ #[t] ty #[.map (some b)]).run P w = .ok (.tuple #[]) w1) ∧ SetMap w1 b [] ∧ w.grownBy w1 (some b) ∧ w1.heap.size = w.heap.size := by
  have hlt := h.lt
  obtain ⟨es, clock, hb, he, hm⟩ := h
  refine ⟨setBlock w b (.map #[] clock), ?_, ⟨#[], clock, ?_, rfl, fun _ h => absurd h (by simp)⟩, ⟨rfl, rfl, rfl, ?_, ?_⟩, ?_⟩
  · intro ty
    simp [Builtin.clear_, run_underlying ht, MapKept.run_getObj_map hb, MapKept.run_setObj_map _ hb, Result.andThen, setBlock]
  · simp [setBlock, Array.getElem?_setIfInBounds, hlt]
  · simp [setBlock]
  · intro i _ hi
    simp only [setBlock]
    rw [Array.getElem?_setIfInBounds, if_neg (fun e => hi (by rw [e]))]
  · simp [setBlock]
end
end Go.Pub
namespace Go.Proofs.YtpoafhgbhnblmaaGreatDoor
open Go.RowKit Go.Pub
def clsE : List ByteArray → List ByteArray → Nat
  | _, [] => 0
  | seen, c :: r => if nameB c = false then 6 else if Lib.containsS seen c = true then 7 else clsE (seen ++ [c]) r
def prsE : List ByteArray → List (ByteArray × ByteArray) → Nat
  | _, [] => 0
  | seen, p :: r => if nameB p.1 = false then 6 else if lineB p.2 = false then 17 else if Lib.containsS seen p.1 = true then 7 else prsE (seen ++ [p.1]) r
def limE (a : AttrL) : Nat := if 32 < a.cl.length ∨ 32 < a.pr.length then 3 else 0
def restE (a : AttrL) : Nat := if clsE [] a.cl = 0 then (if prsE [] a.pr = 0 then limE a else prsE [] a.pr) else clsE [] a.cl
/-- The first error of attributes. -/
def checkE (a : AttrL) : Nat := if a.id = ⟨#[]⟩ then restE a else if nameB a.id = true then restE a else 6
theorem clsE_at (l : List ByteArray) (k : Nat) (h : k < l.length) : clsE (l.take k) (l.drop k) = if nameB l[k] = false then 6 else if Lib.containsS (l.take k) l[k] = true then 7 else clsE (l.take (k + 1)) (l.drop (k + 1)) := by
  rw [List.drop_eq_getElem_cons h, clsE, List.take_succ_eq_append_getElem h]
theorem clsE_end (l : List ByteArray) (k : Nat) (h : l.length ≤ k) : clsE (l.take k) (l.drop k) = 0 := by
  rw [List.drop_eq_nil_of_le h]; rfl
def keysOf (l : List (ByteArray × ByteArray)) : List ByteArray := l.map (·.1)
theorem prsE_at (l : List (ByteArray × ByteArray)) (k : Nat) (h : k < l.length) : prsE (keysOf (l.take k)) (l.drop k) = if nameB l[k].1 = false then 6 else if lineB l[k].2 = false then 17 else if Lib.containsS (keysOf (l.take k)) l[k].1 = true then 7 else prsE (keysOf (l.take (k + 1))) (l.drop (k + 1)) := by
  rw [List.drop_eq_getElem_cons h, prsE, List.take_succ_eq_append_getElem h]
  unfold keysOf
  rw [List.map_append]; rfl
theorem prsE_end (l : List (ByteArray × ByteArray)) (k : Nat) (h : l.length ≤ k) : prsE (keysOf (l.take k)) (l.drop k) = 0 := by
  rw [List.drop_eq_nil_of_le h]; rfl
/-- Attributes that are read alone. -/
structure ReadA (w : World) (B : Nat) (a : AttrL) (A : Option Addr) (c : Nat) (D : Option Addr) (d : Nat) : Prop where
  cls : Reads w B 1 A a.cl.length (strs a.cl)
  prs : Reads w B 2 D a.pr.length (prs a.pr)
  le : B ≤ w.heap.size
  nc : a.cl.length ≤ 1000000
  np : a.pr.length ≤ 1000000
  sid : a.id.size ≤ 1000000
  scl : ∀ x ∈ a.cl, x.size ≤ 1000000
  spr : ∀ x ∈ a.pr, x.1.size ≤ 1000000 ∧ x.2.size ≤ 1000000
theorem ReadA.below {w w' : World} {B : Nat} {a : AttrL} {A : Option Addr} {c : Nat} {D : Option Addr} {d : Nat} (h : ReadA w B a A c D d) (hb : Below w.heap.size w w') : ReadA w' B a A c D d :=
  ⟨h.cls.below (hb.mono h.le), h.prs.below (hb.mono h.le), Nat.le_trans h.le hb.size, h.nc, h.np, h.sid, h.scl, h.spr⟩
theorem zero_bool (w : World) : (zeroValue 4).run Tryz.prog w = .ok (.bool false) w := by kernel_rfl
/-- What stands in memory in Check's loops. -/
structure CInv (w : World) (a : AttrL) (A : Option Addr) (c : Nat) (D : Option Addr) (d : Nat) (keys : List ByteArray) (wr : World) : Prop where
  blk : Blk wr w.heap.size 43 #[.string a.id, .slice A a.cl.length c, .slice D a.pr.length d]
  map : SetMap wr (w.heap.size + 1) keys
  bel : Below w.heap.size w wr
theorem CInv.put {w : World} {a : AttrL} {A : Option Addr} {c : Nat} {D : Option Addr} {d : Nat} {keys keys' : List ByteArray} {wr w1 : World} (h : CInv w a A c D d keys wr) (hm : SetMap w1 (w.heap.size + 1) keys') (hg : wr.grownBy w1 (some (w.heap.size + 1))) : CInv w a A c D d keys' w1 :=
  ⟨h.blk.grown hg (by simp), hm, h.bel.grown hg h.bel.size (fun k hk => by injection hk with hk; omega)⟩
theorem CInv.below {w : World} {a : AttrL} {A : Option Addr} {c : Nat} {D : Option Addr} {d : Nat} {keys : List ByteArray} {wr w1 : World} (h : CInv w a A c D d keys wr) (hb : Below wr.heap.size wr w1) : CInv w a A c D d keys w1 :=
  ⟨h.blk.below hb h.blk.lt, h.map.below hb, h.bel.trans (hb.mono h.bel.size)⟩
set_option maxRecDepth 100000 in
set_option maxHeartbeats 4000000 in
theorem check_rest (w : World) (a : AttrL) (A : Option Addr) (c : Nat) (D : Option Addr) (d B : Nat) (h : ReadA w B a A c D d) (hid : a.id = ⟨#[]⟩ ∨ (a.id ≠ ⟨#[]⟩ ∧ nameB a.id = true)) :
    Calls Tryz.prog 52 #[.agg #[.string a.id, .slice A a.cl.length c, .slice D a.pr.length d]] w fun e w' => e = .returned (.int .i64 (restE a)) ∧ Below w.heap.size w w' := by
  have hnc := h.nc
  have hnp := h.np
  have HRd := Lib.hid h
  have HE : Hid (restE a = if clsE (a.cl.take 0) (a.cl.drop 0) = 0 then (if prsE (keysOf (a.pr.take 0)) (a.pr.drop 0) = 0 then limE a else prsE (keysOf (a.pr.take 0)) (a.pr.drop 0)) else clsE (a.cl.take 0) (a.cl.drop 0)) := Lib.hid rfl
  have HL : Hid (limE a = if 32 < a.cl.length ∨ 32 < a.pr.length then 3 else 0) := Lib.hid rfl
  have hmm := @run_makeMap Tryz.prog
  have HI0 : Hid (CInv w a A c D d [] ((w.alloc (.cells #[.string a.id, .slice A a.cl.length c, .slice D a.pr.length d] 43)).alloc (.map #[] 0))) := Lib.hid ⟨(Blk.new _ _ _).alloc _, by
      have := SetMap.new (w.alloc (.cells #[.string a.id, .slice A a.cl.length c, .slice D a.pr.length d] 43))
      simpa using this, ((Below.refl _ _).alloc (Nat.le_refl _) _).alloc (by simp) _⟩
  have HN0 : Hid (∀ W, a.id ≠ ⟨#[]⟩ ∧ nameB a.id = true → Calls Tryz.prog 51 #[.string a.id] W fun e w' => e = .returned (.bool true) ∧ W = w') := Lib.hid fun W hh => by rw [← hh.2]; exact name_any _ W (by have := h.sid; omega)
  clear h
  generalize restE a = R at *
  generalize limE a = L at *
  generalize hC0 : clsE (a.cl.take 0) (a.cl.drop 0) = C at *
  generalize hP0 : prsE (keysOf (a.pr.take 0)) (a.pr.drop 0) = PP at *
  have HC0 := Lib.hid hC0
  have HP0 := Lib.hid hP0
  clear hC0 hP0
  have KEY : Hid (∀ (K : Prop), K → K) := Lib.hid fun _ h => h
  rcases hid with hid | hid
  case' inl =>
    have y1 : a.id.toList = [] := (toList_iff _).2 hid
    have y2 : a.id.toList.isEmpty = true := by rw [y1]; rfl
    clear hid HN0
    go_enter Tryz.func52, Tryz.ntmps52
    go_wp2_with fail
  case' inr =>
    have y1 : ¬ a.id.toList = [] := fun e => hid.1 ((toList_iff _).1 e)
    have y2 : a.id.toList.isEmpty = false := by rw [List.isEmpty_eq_false_iff]; exact y1
    have HN1 := Lib.hid fun W => HN0.out W hid
    clear hid HN0
    go_enter Tryz.func52, Tryz.ntmps52
    go_wp2_with fail
    ((with_reducible refine (HN1.out _).mono ?_))
    rintro e w1 ⟨rfl, rfl⟩
    go_wp2_with fail
  all_goals
    go_loopw [21] (fun v wr => ∃ k : Nat, v = .int .i64 k ∧ k ≤ a.cl.length ∧ Hid (CInv w a A c D d (a.cl.take k) wr) ∧ Hid (clsE (a.cl.take k) (a.cl.drop k) = C)) (fun v _ => a.cl.length - (intOf v).toNat)
    case atStart => exact ⟨0, rfl, by omega, HI0, HC0⟩
    case round =>
      obtain ⟨k, rfl, hk, KI, KC⟩ := hrel
      have hml := KI.out.map.lt
      by_cases hlt : k < a.cl.length
      · obtain ⟨b, off, rfl, hb, hcell⟩ := (HRd.out.cls.below (KI.out.bel.mono HRd.out.le)).row (by omega) (by omega)
        have hc := hcell k _ (strs_at a.cl k hlt)
        clear hcell
        have hsz := HRd.out.scl _ (List.getElem_mem hlt)
        have hat := Lib.hid ((clsE_at a.cl k hlt).symm.trans KC.out)
        have HN := Lib.hid (name_any a.cl[k] wr (by omega))
        have HLk := KI.out.map.look Tryz.underlying114 Tryz.underlying9 (zero_bool wr) a.cl[k] (by unfold maxLen; omega)
        have HPt := Lib.hid (KI.out.map.put Tryz.underlying114 Tryz.underlying9 a.cl[k] (by unfold maxLen; omega))
        have htk := Lib.hid (List.take_succ_eq_append_getElem hlt)
        generalize nameB a.cl[k] = nb at *
        generalize Lib.containsS (a.cl.take k) a.cl[k] = cs at *
        cases nb
        · have hR : Hid (R = 6) := Lib.hid (by rw [HE.out, ← hat.out]; rfl)
          clear HLk
          go_wp2_with fail
          ((with_reducible refine HN.out.mono ?_))
          rintro e w1 ⟨rfl, rfl⟩
          go_wp2
          go_ret
          exact ⟨ret_int (by rw [hR.out]; rfl), KI.out.bel⟩
        · cases cs
          · obtain ⟨w1, hrun, hm1, hg1, hsz1⟩ := HPt.out rfl
            have HM1 := Lib.hid hm1
            have HG1 := Lib.hid hg1
            have HZ1 := Lib.hid hsz1
            clear hm1 hg1 hsz1
            go_wp2_with fail
            ((with_reducible refine HN.out.mono ?_))
            rintro e w2 ⟨rfl, rfl⟩
            go_wp2_with fail
            go_roundw
            case rel => exact ⟨k + 1, by go_num, by omega, Lib.hid (KI.out.put (by rw [htk.out]; exact HM1.out) HG1.out), Lib.hid (by rw [← hat.out]; rfl)⟩
            case measure => simp [intOf]; omega
          · have hR : Hid (R = 7) := Lib.hid (by rw [HE.out, ← hat.out]; rfl)
            go_wp2_with fail
            ((with_reducible refine HN.out.mono ?_))
            rintro e w2 ⟨rfl, rfl⟩
            go_wp2_with fail
            go_ret
            exact ⟨ret_int (by rw [hR.out]; rfl), KI.out.bel⟩
      · have hC : Hid (C = 0) := Lib.hid (by rw [← KC.out, clsE_end _ _ (by omega)])
        have hbc := KI.out.blk.cell 2
        simp at hbc
        obtain ⟨w1, hrun, hm1, hg1, hsz1⟩ := KI.out.map.clear Tryz.underlying114
        have KI1 := Lib.hid (KI.out.put hm1 hg1)
        have hbd := KI1.out.blk.cell 2
        simp at hbd
        clear hm1 hg1 hsz1
        go_wp2_with fail
        clear hrun hbc hbd
        obtain ⟨wo, rfl⟩ : ∃ wo : World, wo = w1 := ⟨_, rfl⟩
        go_loopw [38] (fun v wr => ∃ k : Nat, v = .int .i64 k ∧ k ≤ a.pr.length ∧ Hid (CInv w a A c D d (keysOf (a.pr.take k)) wr) ∧ Hid (prsE (keysOf (a.pr.take k)) (a.pr.drop k) = PP)) (fun v _ => a.pr.length - (intOf v).toNat)
        case atStart => exact ⟨0, rfl, by omega, KI1, HP0⟩
        case round =>
          obtain ⟨k2, rfl, hk2, KJ, KP⟩ := hrel
          have hml2 := KJ.out.map.lt
          by_cases hlt2 : k2 < a.pr.length
          · obtain ⟨b2, off2, rfl, hb2, hcell⟩ := (HRd.out.prs.below (KJ.out.bel.mono HRd.out.le)).row (by omega) (by omega)
            have hc1 := hcell _ _ (prs_at a.pr k2 hlt2).1
            have hc2 := hcell _ _ (prs_at a.pr k2 hlt2).2
            rw [← Nat.add_assoc] at hc2
            clear hcell
            have hs1 := (HRd.out.spr _ (List.getElem_mem hlt2)).1
            have hs2 := (HRd.out.spr _ (List.getElem_mem hlt2)).2
            have hat := Lib.hid ((prsE_at a.pr k2 hlt2).symm.trans KP.out)
            have HN := Lib.hid fun W => name_any a.pr[k2].1 W (by omega)
            have HV := Lib.hid fun W => cleanLine_any a.pr[k2].2 W (by omega)
            have HLk : Hid (∀ W, SetMap W (w.heap.size + 1) (keysOf (a.pr.take k2)) → (Instr.lookup 114 (.map (some (w.heap.size + 1))) (.string a.pr[k2].1) false).run Tryz.prog W = .ok (.bool (Lib.containsS (keysOf (a.pr.take k2)) a.pr[k2].1)) W) := Lib.hid fun W hW => hW.look Tryz.underlying114 Tryz.underlying9 (zero_bool W) a.pr[k2].1 (by unfold maxLen; omega)
            have HPt : Hid (∀ W, SetMap W (w.heap.size + 1) (keysOf (a.pr.take k2)) → Lib.containsS (keysOf (a.pr.take k2)) a.pr[k2].1 = false → ∃ w1, (Instr.mapUpdate 114 (.map (some (w.heap.size + 1))) (.string a.pr[k2].1) (.bool true)).run Tryz.prog W = .ok () w1 ∧ SetMap w1 (w.heap.size + 1) (keysOf (a.pr.take k2) ++ [a.pr[k2].1]) ∧ W.grownBy w1 (some (w.heap.size + 1)) ∧ w1.heap.size = W.heap.size) := Lib.hid fun W hW hh => hW.put Tryz.underlying114 Tryz.underlying9 a.pr[k2].1 (by unfold maxLen; omega) hh
            have htk : Hid (keysOf (a.pr.take (k2 + 1)) = keysOf (a.pr.take k2) ++ [a.pr[k2].1]) := Lib.hid (by unfold keysOf; rw [List.take_succ_eq_append_getElem hlt2, List.map_append]; rfl)
            have KA := Lib.hid (KJ.out.below ((Below.refl _ _).alloc (Nat.le_refl _) (.cells #[.string a.pr[k2].1, .string a.pr[k2].2] 81)))
            generalize nameB a.pr[k2].1 = nb at *
            generalize lineB a.pr[k2].2 = lb at *
            generalize Lib.containsS (keysOf (a.pr.take k2)) a.pr[k2].1 = cs at *
            cases nb
            · have hR : Hid (R = 6) := Lib.hid (by rw [HE.out, hC.out, ← hat.out]; rfl)
              go_wp2_with fail
              ((with_reducible refine (HN.out _).mono ?_))
              rintro e w3 ⟨rfl, rfl⟩
              go_wp2_with fail
              go_ret
              exact ⟨ret_int (by rw [hR.out]; rfl), KA.out.bel⟩
            · cases lb
              · have hR : Hid (R = 17) := Lib.hid (by rw [HE.out, hC.out, ← hat.out]; rfl)
                go_wp2_with fail
                ((with_reducible refine (HN.out _).mono ?_))
                rintro e w3 ⟨rfl, rfl⟩
                go_wp2_with fail
                ((with_reducible refine (HV.out _).mono ?_))
                rintro e w3 ⟨rfl, b3⟩
                go_wp2_with fail
                go_ret
                exact ⟨ret_int (by rw [hR.out]; rfl), (KA.out.below b3).bel⟩
              · cases cs
                · go_wp2_with fail
                  ((with_reducible refine (HN.out _).mono ?_))
                  rintro e w3 ⟨rfl, rfl⟩
                  go_wp2_with fail
                  ((with_reducible refine (HV.out _).mono ?_))
                  rintro e w3 ⟨rfl, b3⟩
                  have KB := Lib.hid (KA.out.below b3)
                  have q0 : w3.cell? ⟨wr.heap.size, 0, none⟩ = some (.string a.pr[k2].1) := by
                    rw [b3.cell (by simp)]; simp [go_sem]
                  have hlk := HLk.out w3 KB.out.map
                  obtain ⟨w4, hrun4, hm4, hg4, hz4⟩ := HPt.out w3 KB.out.map (by first | rfl | trivial)
                  have KC4 := Lib.hid (KB.out.put (keys' := keysOf (a.pr.take (k2 + 1))) (by rw [htk.out]; exact hm4) hg4)
                  clear hm4 hg4 hz4 b3
                  go_wp2_with fail
                  go_roundw
                  case rel => exact ⟨k2 + 1, by go_num, by omega, KC4, Lib.hid (by rw [← hat.out]; rfl)⟩
                  case measure => simp [intOf]; omega
                · have hR : Hid (R = 7) := Lib.hid (by rw [HE.out, hC.out, ← hat.out]; rfl)
                  go_wp2_with fail
                  ((with_reducible refine (HN.out _).mono ?_))
                  rintro e w3 ⟨rfl, rfl⟩
                  go_wp2_with fail
                  ((with_reducible refine (HV.out _).mono ?_))
                  rintro e w3 ⟨rfl, b3⟩
                  have KB := Lib.hid (KA.out.below b3)
                  have q0 : w3.cell? ⟨wr.heap.size, 0, none⟩ = some (.string a.pr[k2].1) := by
                    rw [b3.cell (by simp)]; simp [go_sem]
                  have hlk := HLk.out w3 KB.out.map
                  clear b3
                  go_wp2_with fail
                  go_ret
                  exact ⟨ret_int (by rw [hR.out]; rfl), KB.out.bel⟩
          · have hP : Hid (PP = 0) := Lib.hid (by rw [← KP.out, prsE_end _ _ (by omega)])
            have j1 := KJ.out.blk.cell 1
            have j2 := KJ.out.blk.cell 2
            simp at j1 j2
            have hR : Hid (R = L) := Lib.hid (by rw [HE.out, hC.out, hP.out]; rfl)
            by_cases l1 : 32 < a.cl.length
            · have e1 : decide (32 < a.cl.length) = true := decide_eq_true l1
              go_wp2_with fail
              go_ret
              exact ⟨ret_int (by rw [hR.out, HL.out, if_pos (Or.inl l1)]; rfl), KJ.out.bel⟩
            · have e1 : decide (32 < a.cl.length) = false := decide_eq_false l1
              by_cases l2 : 32 < a.pr.length
              · have e2 : decide (32 < a.pr.length) = true := decide_eq_true l2
                go_wp2_with fail
                go_ret
                exact ⟨ret_int (by rw [hR.out, HL.out, if_pos (Or.inr l2)]; rfl), KJ.out.bel⟩
              · have e2 : decide (32 < a.pr.length) = false := decide_eq_false l2
                go_wp2_with fail
                go_ret
                exact ⟨ret_int (by rw [hR.out, HL.out, if_neg (by omega)]; rfl), KJ.out.bel⟩

set_option maxRecDepth 100000 in
set_option maxHeartbeats 1000000 in
theorem check_name (w : World) (a : AttrL) (v1 v2 : Value) (hs : a.id.size ≤ 1000000) (h1 : a.id ≠ ⟨#[]⟩) (h2 : nameB a.id = false) :
    Calls Tryz.prog 52 #[.agg #[.string a.id, v1, v2]] w fun e w' => e = .returned (.int .i64 6) ∧ Below w.heap.size w w' := by
  have HN0 : Hid (∀ W, Calls Tryz.prog 51 #[.string a.id] W fun e w' => e = .returned (.bool false) ∧ W = w') := Lib.hid fun W => by rw [← h2]; exact name_any _ W (by omega)
  have y1 : ¬ a.id.toList = [] := fun e => h1 ((toList_iff _).1 e)
  have y2 : a.id.toList.isEmpty = false := by rw [List.isEmpty_eq_false_iff]; exact y1
  clear h1 h2
  go_enter Tryz.func52, Tryz.ntmps52
  go_wp2_with fail
  ((with_reducible refine (HN0.out _).mono ?_))
  rintro e w1 ⟨rfl, rfl⟩
  go_wp2_with fail
  go_ret
  exact ⟨rfl, (Below.refl _ _).alloc (Nat.le_refl _) _⟩

theorem check_any (w : World) (a : AttrL) (A : Option Addr) (c : Nat) (D : Option Addr) (d B : Nat) (h : ReadA w B a A c D d) :
    Calls Tryz.prog 52 #[.agg #[.string a.id, .slice A a.cl.length c, .slice D a.pr.length d]] w fun e w' => e = .returned (.int .i64 (checkE a)) ∧ Below w.heap.size w w' := by
  unfold checkE
  by_cases h1 : a.id = ⟨#[]⟩
  · rw [if_pos h1]; exact check_rest w a A c D d B h (Or.inl h1)
  · rw [if_neg h1]
    by_cases h2 : nameB a.id = true
    · rw [if_pos h2]; exact check_rest w a A c D d B h (Or.inr ⟨h1, h2⟩)
    · rw [if_neg h2]; exact check_name w a _ _ h.sid h1 (by simpa using h2)
end Go.Proofs.YtpoafhgbhnblmaaGreatDoor
namespace Go.Pub
open Go.RowKit
/-- The cell of a part. -/
def cellL (p : List UInt8) : List UInt8 := unbarL (trimS p)
def cellV (x : Pt) : Value := .string (mk (cellL (bytesL x.1)))
theorem count_le_len (l : List UInt8) : Lib.count l oldU ≤ l.length := by
  have h := Lib.countB_mul_le (mk oldU) (by decide) (mk l).size (mk l) (Nat.le_refl _)
  unfold Lib.countB at h
  have e1 : (mk l).data.toList = l := bytesL_mk' l
  have e2 : (mk oldU).data.toList = oldU := bytesL_mk' oldU
  rw [e1, e2, mk_size, mk_size] at h
  rw [show oldU.length = 2 from rfl] at h
  omega
end Go.Pub
namespace Go.Proofs.YtpoafhgbhnblmaaGreatDoor
open Go.RowKit Go.Pub Go.Shelf
attribute [local go_sem] Oper.semAt_some
theorem strInfo : (Tryz.prog.info? 9).map (fun i => (i.zero, i.size, i.bytes)) = some (some (.string ⟨#[]⟩), 1, 16) := by kernel_rfl
theorem repl_any (s : ByteArray) (m : Int) (w : World) (hs : s.size ≤ 1000000) (hm : w.cell? ⟨0, 0, none⟩ = some (.int .i64 m)) :
    Calls Tryz.prog 173 #[.string s, .string ⟨#[92, 124]⟩, .string ⟨#[124]⟩] w fun e w' => e = .returned (.string (mk (unbarL (bytesL s)))) ∧ Below w.heap.size w w' := by
  have hc := count_le_len (bytesL s)
  rw [bytesL_length] at hc
  have h := Tryz.strings_ReplaceAll s ⟨#[92, 124]⟩ ⟨#[124]⟩ m w (by omega) hm (by decide) (by
    show s.size + Lib.count (bytesL s) oldU * 1 ≤ _
    omega)
  refine h.mono ?_
  rintro e w' ⟨rfl, hb⟩
  refine ⟨?_, hb⟩
  have e1 : Lib.replaceAll (bytesL s) [92, 124] [124] = unbarL (bytesL s) := by
    unfold Lib.replaceAll Lib.replace Lib.replaceNum
    rw [if_neg (by decide), if_pos (by omega)]
    exact repl_unbar _ _ (Nat.le_refl _)
  show Ending.returned (.string ⟨(Lib.replaceAll (bytesL s) [92, 124] [124]).toArray⟩) = _
  rw [e1]; rfl
set_option maxRecDepth 100000 in
set_option maxHeartbeats 4000000 in
theorem t_cells (s : ByteArray) (m : Int) (w : World) (hs : s.size ≤ 1000000) (hm : w.cell? ⟨0, 0, none⟩ = some (.int .i64 m)) :
    Calls Tryz.prog 120 #[.string s] w fun e W' => ∃ v, e = .returned v ∧ W'.ownsRow w.heap.size 9 1 v (partsL (bytesL s)).length ((partsL (bytesL s)).map fun p => .string (mk (cellL p))) ∧ Below w.heap.size w W' := by
  have h0w : 0 < w.heap.size := World.block_lt_of_cell? _ _ hm
  have HP := Lib.hid fun W => t_parts s W hs
  have hcs := coreB_size (bytesL s)
  rw [bytesL_length] at hcs
  have HX : Hid (partsL (bytesL s) = restP (coreB (bytesL s)) 0 0) := Lib.hid (by rw [restP_zero]; rfl)
  have hN : (restP (coreB (bytesL s)) 0 0).length ≤ 1000001 := by rw [← HX.out]; have := splitGo_len (bytesL (coreB (bytesL s))) false; rw [bytesL_length] at this; unfold partsL; omega
  have HM : Hid (∀ p ∈ restP (coreB (bytesL s)) 0 0, p.length ≤ 1000000) := Lib.hid (fun p hp => by
    rw [← HX.out] at hp
    have := splitGo_mem _ _ p hp
    rw [bytesL_length] at this
    omega)
  rw [HX.out]
  clear HX
  generalize coreB (bytesL s) = C at *
  obtain ⟨i0, hi, hz0, hz1, hz2⟩ := info_parts strInfo
  refine (callsIn_wide (n := 5)).1 ?_
  refine callsIn_of_wp_marks Tryz.func120 rfl trivial ?_ rfl
  simp only [Tryz.ntmps120, List.size_toArray, List.length_cons, List.length_nil, Nat.reduceAdd, Nat.reduceSub, Array.replicate_succ, Array.replicate_zero, List.push_toArray, List.append_toArray, List.nil_append, List.cons_append]
  gi_wp2_with fail
  refine ⟨trivial, ?_⟩
  ((with_reducible refine (callsIn_wide.2 (HP.out _)).mono ?_))
  rintro e w' ⟨rfl, rfl⟩
  gi_wp2_with fail
  have bO := Boxed.new w 22 (.slice none 0 0)
  have bN := Boxed.new (w.alloc (.cells #[.slice none 0 0] 22)) 9 (.string C)
  rw [World.size_alloc] at bN
  have hB0 : Below w.heap.size w ((w.alloc (.cells #[.slice none 0 0] 22)).alloc (.cells #[.string C] 9)) := ((Below.refl _ w).alloc (Nat.le_refl _) _).alloc (by simp) _
  refine wpIn_rangeFunc_ownG rfl (by omega) (gf := 214) (lb := #[.pointer (some ⟨w.heap.size + 1, 0, none⟩)]) rfl trivial (enters_of Tryz.func214 (by kernel_rfl) rfl)
    (parts_stops 4 (by omega) (w.heap.size + 1) C (by omega) _ bN) (Kp := KpB (w.heap.size + 1)) (fun h1 h2 => h2.trans h1) (fun W l o o' hl ho hc _ => World.putObj_heap_other (fun e => by simp at hl; omega)) (Below.refl _ _) (fun _ => rfl)
    (fun (pre : List Pt) W => (∃ v, Boxed W w.heap.size 22 v ∧ W.ownsRow (w.heap.size + 2) 9 1 v pre.length (pre.map cellV) ∧ True) ∧ (Boxed W (w.heap.size + 1) 9 (.string C) ∧ Below w.heap.size w W))
    (fun _ _ _ => False)
    (OwnFrom.and (Own.from (holdsRow_own (w.heap.size + 2) w.heap.size 22 9 1 (fun (pre : List Pt) => pre.length) (fun pre => pre.map cellV) (fun _ _ => True)) _) (OwnFrom.and (Own.from (boxed_own (w.heap.size + 1) 9 (fun _ => .string C)) _) (ownFrom_below (Nat.le_refl _) (by simp; omega))))
    (fun _ _ _ _ _ hs _ _ => hs)
    ⟨⟨_, bO.alloc _, World.ownsRow_nil _ _ _ _, trivial⟩, bN, hB0⟩
    (fun (x : Pt) => { tmps := #[.string s, undef, .slice none 0 0, .pointer (some ⟨w.heap.size, 0, none⟩), .string x.1, .string s, .func (.func 214) #[] #[.pointer (some ⟨w.heap.size + 1, 0, none⟩)], .string x.1, undef, undef, undef, undef, undef, undef, undef], defers := [] }) ?assign ?body ?done ?stop
  case assign =>
    intro l x W K hK
    gi_wp2_with fail
    exact hK
  case body =>
    rintro l pre x W ⟨⟨v, hv, hrow, _⟩, hsB, hB⟩ hlt
    have hc := hv.cell
    have hmx : Tryz.prog.follows .mixedOrders = true := by kernel_rfl
    have HT := Lib.hid fun W => t_trim x.1 W x.2
    have hxt : (mk (trimS (bytesL x.1))).size ≤ 1000000 := by rw [mk_size]; have := trimS_len (bytesL x.1); rw [bytesL_length] at this; have := x.2; omega
    have hpl : pre.length ≤ 1000001 := by omega
    have HR : Hid (∀ W1, W1.cell? ⟨0, 0, none⟩ = some (.int .i64 m) → Calls Tryz.prog 173 #[.string (mk (trimS (bytesL x.1))), .string ⟨#[92, 124]⟩, .string ⟨#[124]⟩] W1 fun e w' => e = .returned (.string (mk (cellL (bytesL x.1)))) ∧ Below W1.heap.size W1 w') := Lib.hid fun W1 h1 => by
      have h := repl_any (mk (trimS (bytesL x.1))) m W1 hxt h1
      rw [bytesL_mk'] at h
      exact h
    have hmW : W.drew.cell? ⟨0, 0, none⟩ = some (.int .i64 m) := (hB.cell (p := ⟨0, 0, none⟩) h0w).trans hm
    have HV : Hid (cellV x = .string (mk (cellL (bytesL x.1)))) := Lib.hid rfl
    generalize mk (trimS (bytesL x.1)) = T at *
    generalize mk (cellL (bytesL x.1)) = Y at *

    have hcW : W.drew.cell? ⟨w.heap.size, 0, none⟩ = some v := hc
    have HL : Hid ((pre ++ [x]).map cellV = pre.map cellV ++ [.string Y]) := Lib.hid (by rw [List.map_append]; show _ ++ [cellV x] = _; rw [HV.out])
    gi_wp2_with fail
    refine regionIn_any hmx (by kernel_rfl) (fun ⟨_, _, h⟩ => h) ?_
    refine wpAny_take (i := 1) (v := .string x.1) rfl (by kernel_rfl) (by kernel_rfl) (by kernel_rfl) (fun _ _ _ h => h) (Or.inl ⟨by rfl, fun w' => ?_⟩) ?_
    · go_simp
    simp only [Act.put, List.setIfInBounds_toArray, List.set_cons_zero, List.set_cons_succ]
    refine wpAny_ready (rs := [0, 2]) (by kernel_rfl) (by simp) (AllReady.cons rfl (fun K hK => ?_) (AllReady.cons rfl (fun K hK => ?_) AllReady.nil))
    · go_simp
      refine hK _ _ ?_
      clear hK K
      refine wpAny_ready (rs := [2]) (by kernel_rfl) (by simp) (AllReady.cons rfl (fun K hK => ?_) AllReady.nil)
      go_simp
      ((with_reducible refine (HT.out _).mono ?_))
      rintro e w' ⟨rfl, rfl⟩
      refine hK _ _ ?_
      clear hK K
      refine wpAny_ready (rs := [3]) (by kernel_rfl) (by simp) (AllReady.cons rfl (fun K hK => ?_) AllReady.nil)
      go_simp
      ((with_reducible refine (HR.out _ hmW).mono ?_))
      rintro e W1 ⟨rfl, b1⟩
      have hv1 : Boxed W1 w.heap.size 22 v := (b1.block _ hv.lt).trans hv
      have hs1 : Boxed W1 (w.heap.size + 1) 9 (.string C) := (b1.block _ hsB.lt).trans hsB
      have hrow1 : W1.ownsRow (w.heap.size + 2) 9 1 v pre.length (pre.map cellV) := own_below (w := W.drew) hrow b1
      have hzW := hs1.lt
      have hc1 := hv1.cell
      have hc2 := (hv1.alloc (.cells #[.string Y] 9)).cell
      refine hK _ _ ?_
      clear hK K
      refine wpAny_ready (rs := [4]) (by kernel_rfl) (by simp) (AllReady.cons rfl (fun K hK => ?_) AllReady.nil)
      go_simp
      refine hK _ _ ?_
      clear hK K
      refine wpAny_ready (rs := [5]) (by kernel_rfl) (by simp) (AllReady.cons rfl (fun K hK => ?_) AllReady.nil)
      rw [if_pos (by rfl)]
      refine wp_append_own _ _ _ 22 rfl (w.heap.size + 2) 9 i0 (.string ⟨#[]⟩) 1 16 Tryz.underlying22 hi hz0 hz1 hz2 rfl (by decide) v pre.length (pre.map cellV) rfl (hrow1.alloc _) ⟨W1.heap.size, 0, none⟩ 1 1 [.string Y] rfl rfl (cell_one_new _ _ _) (by simp [Value.oneCell']) (by unfold maxLen; omega) (by omega) (by simp; omega) ?_
      intro v' W2 hown2 hgrow _
      obtain ⟨g', cap', rfl⟩ := ownsRow_succ hown2
      obtain ⟨q1, q2, q6, q3, q4, q5⟩ := appended2 hv1 hs1 hrow1 hown2 hgrow
      have hc3 := q1.cell
      have hf3 := q1.frozen
      refine hK _ _ ?_
      clear hK K
      simp only [Act.put, List.setIfInBounds_toArray, List.set_cons_zero, List.set_cons_succ]
      refine wpAny_ready (rs := [6]) (by kernel_rfl) (by simp) (AllReady.cons rfl (fun K hK => ?_) AllReady.nil)
      go_simp
      refine hK _ _ ?_
      clear hK K
      refine wpAny_done (by kernel_rfl) ?_ _
      exact ⟨(((KeepsOthers.drew W).trans (keeps_of_below b1)).trans q4).from _, q6.trans hsB.symm, ⟨_, q2, by rw [HL.out, List.length_append]; exact q3, trivial⟩, q6, (hB.drew.trans (b1.mono hB.size)).trans q5⟩
    · go_simp
      ((with_reducible refine (HT.out _).mono ?_))
      rintro e w' ⟨rfl, rfl⟩
      refine hK _ _ ?_
      clear hK K
      refine wpAny_ready (rs := [0, 3]) (by kernel_rfl) (by simp) (AllReady.cons rfl (fun K hK => ?_) (AllReady.cons rfl (fun K hK => ?_) AllReady.nil))
      · go_simp
        refine hK _ _ ?_
        clear hK K
        refine wpAny_ready (rs := [3]) (by kernel_rfl) (by simp) (AllReady.cons rfl (fun K hK => ?_) AllReady.nil)
        go_simp
        ((with_reducible refine (HR.out _ hmW).mono ?_))
        rintro e W1 ⟨rfl, b1⟩
        have hv1 : Boxed W1 w.heap.size 22 v := (b1.block _ hv.lt).trans hv
        have hs1 : Boxed W1 (w.heap.size + 1) 9 (.string C) := (b1.block _ hsB.lt).trans hsB
        have hrow1 : W1.ownsRow (w.heap.size + 2) 9 1 v pre.length (pre.map cellV) := own_below (w := W.drew) hrow b1
        have hzW := hs1.lt
        have hc1 := hv1.cell
        have hc2 := (hv1.alloc (.cells #[.string Y] 9)).cell
        refine hK _ _ ?_
        clear hK K
        refine wpAny_ready (rs := [4]) (by kernel_rfl) (by simp) (AllReady.cons rfl (fun K hK => ?_) AllReady.nil)
        go_simp
        refine hK _ _ ?_
        clear hK K
        refine wpAny_ready (rs := [5]) (by kernel_rfl) (by simp) (AllReady.cons rfl (fun K hK => ?_) AllReady.nil)
        rw [if_pos (by rfl)]
        refine wp_append_own _ _ _ 22 rfl (w.heap.size + 2) 9 i0 (.string ⟨#[]⟩) 1 16 Tryz.underlying22 hi hz0 hz1 hz2 rfl (by decide) v pre.length (pre.map cellV) rfl (hrow1.alloc _) ⟨W1.heap.size, 0, none⟩ 1 1 [.string Y] rfl rfl (cell_one_new _ _ _) (by simp [Value.oneCell']) (by unfold maxLen; omega) (by omega) (by simp; omega) ?_
        intro v' W2 hown2 hgrow _
        obtain ⟨g', cap', rfl⟩ := ownsRow_succ hown2
        obtain ⟨q1, q2, q6, q3, q4, q5⟩ := appended2 hv1 hs1 hrow1 hown2 hgrow
        have hc3 := q1.cell
        have hf3 := q1.frozen
        refine hK _ _ ?_
        clear hK K
        simp only [Act.put, List.setIfInBounds_toArray, List.set_cons_zero, List.set_cons_succ]
        refine wpAny_ready (rs := [6]) (by kernel_rfl) (by simp) (AllReady.cons rfl (fun K hK => ?_) AllReady.nil)
        go_simp
        refine hK _ _ ?_
        clear hK K
        refine wpAny_done (by kernel_rfl) ?_ _
        exact ⟨(((KeepsOthers.drew W).trans (keeps_of_below b1)).trans q4).from _, q6.trans hsB.symm, ⟨_, q2, by rw [HL.out, List.length_append]; exact q3, trivial⟩, q6, (hB.drew.trans (b1.mono hB.size)).trans q5⟩
      · go_simp
        ((with_reducible refine (HR.out _ hmW).mono ?_))
        rintro e W1 ⟨rfl, b1⟩
        have hv1 : Boxed W1 w.heap.size 22 v := (b1.block _ hv.lt).trans hv
        have hs1 : Boxed W1 (w.heap.size + 1) 9 (.string C) := (b1.block _ hsB.lt).trans hsB
        have hrow1 : W1.ownsRow (w.heap.size + 2) 9 1 v pre.length (pre.map cellV) := own_below (w := W.drew) hrow b1
        have hzW := hs1.lt
        have hc1 := hv1.cell
        have hc2 := (hv1.alloc (.cells #[.string Y] 9)).cell
        refine hK _ _ ?_
        clear hK K
        refine wpAny_ready (rs := [0, 4]) (by kernel_rfl) (by simp) (AllReady.cons rfl (fun K hK => ?_) (AllReady.cons rfl (fun K hK => ?_) AllReady.nil))
        · go_simp
          refine hK _ _ ?_
          clear hK K
          refine wpAny_ready (rs := [4]) (by kernel_rfl) (by simp) (AllReady.cons rfl (fun K hK => ?_) AllReady.nil)
          go_simp
          refine hK _ _ ?_
          clear hK K
          refine wpAny_ready (rs := [5]) (by kernel_rfl) (by simp) (AllReady.cons rfl (fun K hK => ?_) AllReady.nil)
          rw [if_pos (by rfl)]
          refine wp_append_own _ _ _ 22 rfl (w.heap.size + 2) 9 i0 (.string ⟨#[]⟩) 1 16 Tryz.underlying22 hi hz0 hz1 hz2 rfl (by decide) v pre.length (pre.map cellV) rfl (hrow1.alloc _) ⟨W1.heap.size, 0, none⟩ 1 1 [.string Y] rfl rfl (cell_one_new _ _ _) (by simp [Value.oneCell']) (by unfold maxLen; omega) (by omega) (by simp; omega) ?_
          intro v' W2 hown2 hgrow _
          obtain ⟨g', cap', rfl⟩ := ownsRow_succ hown2
          obtain ⟨q1, q2, q6, q3, q4, q5⟩ := appended2 hv1 hs1 hrow1 hown2 hgrow
          have hc3 := q1.cell
          have hf3 := q1.frozen
          refine hK _ _ ?_
          clear hK K
          simp only [Act.put, List.setIfInBounds_toArray, List.set_cons_zero, List.set_cons_succ]
          refine wpAny_ready (rs := [6]) (by kernel_rfl) (by simp) (AllReady.cons rfl (fun K hK => ?_) AllReady.nil)
          go_simp
          refine hK _ _ ?_
          clear hK K
          refine wpAny_done (by kernel_rfl) ?_ _
          exact ⟨(((KeepsOthers.drew W).trans (keeps_of_below b1)).trans q4).from _, q6.trans hsB.symm, ⟨_, q2, by rw [HL.out, List.length_append]; exact q3, trivial⟩, q6, (hB.drew.trans (b1.mono hB.size)).trans q5⟩
        · go_simp
          refine hK _ _ ?_
          clear hK K
          refine wpAny_ready (rs := [0]) (by kernel_rfl) (by simp) (AllReady.cons rfl (fun K hK => ?_) AllReady.nil)
          go_simp
          refine hK _ _ ?_
          clear hK K
          refine wpAny_ready (rs := [5]) (by kernel_rfl) (by simp) (AllReady.cons rfl (fun K hK => ?_) AllReady.nil)
          rw [if_pos (by rfl)]
          refine wp_append_own _ _ _ 22 rfl (w.heap.size + 2) 9 i0 (.string ⟨#[]⟩) 1 16 Tryz.underlying22 hi hz0 hz1 hz2 rfl (by decide) v pre.length (pre.map cellV) rfl (hrow1.alloc _) ⟨W1.heap.size, 0, none⟩ 1 1 [.string Y] rfl rfl (cell_one_new _ _ _) (by simp [Value.oneCell']) (by unfold maxLen; omega) (by omega) (by simp; omega) ?_
          intro v' W2 hown2 hgrow _
          obtain ⟨g', cap', rfl⟩ := ownsRow_succ hown2
          obtain ⟨q1, q2, q6, q3, q4, q5⟩ := appended2 hv1 hs1 hrow1 hown2 hgrow
          have hc3 := q1.cell
          have hf3 := q1.frozen
          refine hK _ _ ?_
          clear hK K
          simp only [Act.put, List.setIfInBounds_toArray, List.set_cons_zero, List.set_cons_succ]
          refine wpAny_ready (rs := [6]) (by kernel_rfl) (by simp) (AllReady.cons rfl (fun K hK => ?_) AllReady.nil)
          go_simp
          refine hK _ _ ?_
          clear hK K
          refine wpAny_done (by kernel_rfl) ?_ _
          exact ⟨(((KeepsOthers.drew W).trans (keeps_of_below b1)).trans q4).from _, q6.trans hsB.symm, ⟨_, q2, by rw [HL.out, List.length_append]; exact q3, trivial⟩, q6, (hB.drew.trans (b1.mono hB.size)).trans q5⟩
  case done =>
    rintro D ys W hD rfl ⟨⟨v, hv, hrow, _⟩, hsB, hB⟩ hK
    have hc := hv.cell
    gi_wp2_with fail
    refine ⟨by simp, .inl ⟨_, _, rfl, run_takeDeferred hK, ?_⟩⟩
    refine ⟨_, results_tmp rfl _ _ _, v, rfl, ?_, hB.trans (belowK_b (w := w) (Nat.le_refl _) W D _ _ (by simp at hD; omega) hK rfl rfl)⟩
    have h := own_base (ownsRow_putObj hrow (.deferred none) hK rfl) (show w.heap.size ≤ w.heap.size + 2 by omega)
    have e1 : ((restP C 0 0).map toPt).map cellV = (restP C 0 0).map fun p => .string (mk (cellL p)) := by
      rw [List.map_map]
      refine List.map_congr_left fun p hp => ?_
      show cellV (toPt p) = _
      unfold cellV
      rw [toPt_val p (HM.out p hp), bytesL_mk']
    rw [e1, List.length_map] at h
    exact h
  case stop =>
    rintro D c pre W _ _ h _
    exact h.elim

end Go.Proofs.YtpoafhgbhnblmaaGreatDoor
namespace Go.Pub
open Go.RowKit
def letX (l r : Bool) : List UInt8 := if l && r then [99] else if l then [108] else if r then [114] else [45]
def inn1 (c : List UInt8) : List UInt8 := Lib.trimPrefix c [58]
def inn2 (c : List UInt8) : List UInt8 := Lib.trimSuffix (inn1 c) [58]
/-- The alignment letter of a cell, or nothing. -/
def letL (c : List UInt8) : List UInt8 := if inn2 c = [] ∨ (inn2 c).all (· == 45) = false then [] else letX (Lib.hasPrefix c [58]) (Lib.hasSuffix (inn1 c) [58])
theorem dropWhile_nil {p : UInt8 → Bool} : ∀ l : List UInt8, l.dropWhile p = [] ↔ l.all p = true
  | [] => by simp
  | c :: l => by
    by_cases h : p c = true
    · rw [List.dropWhile_cons_of_pos h, dropWhile_nil l, List.all_cons, h, Bool.true_and]
    · rw [List.dropWhile_cons_of_neg h, List.all_cons]; simp [h]
theorem trimB_nil (l : List UInt8) : Lib.trimB l 45 = [] ↔ l.all (· == 45) = true := by
  unfold Lib.trimB Lib.trimRightB Lib.trimLeftB
  rw [dropWhile_nil, List.all_reverse]
  have e : l.all (· == 45) = l.reverse.all (· == 45) := List.all_reverse.symm
  rw [e]
  generalize l.reverse = m
  by_cases h : m.all (· == 45) = true
  · rw [(dropWhile_nil m).2 h]; simp [h]
  · constructor
    · intro h2
      rw [← List.takeWhile_append_dropWhile (p := (· == 45)) (l := m), List.all_append, h2, Bool.and_true]
      exact List.all_takeWhile
    · exact fun e => absurd e h
theorem letL_len (c : List UInt8) : (letL c).length ≤ 1 := by
  unfold letL letX
  split
  · simp
  · split
    · simp
    · split
      · simp
      · split <;> simp
theorem tsuf_len (c p : List UInt8) : (Lib.trimSuffix c p).length ≤ c.length := by
  unfold Lib.trimSuffix; split <;> simp
theorem tpre_len (c p : List UInt8) : (Lib.trimPrefix c p).length ≤ c.length := by
  unfold Lib.trimPrefix; split <;> simp
theorem inn2_len (c : List UInt8) : (inn2 c).length ≤ c.length := Nat.le_trans (tsuf_len _ _) (tpre_len _ _)
end Go.Pub
namespace Go.Proofs.YtpoafhgbhnblmaaGreatDoor
open Go.RowKit Go.Pub
set_option maxRecDepth 100000 in
set_option maxHeartbeats 1000000 in
theorem t_align1 (c : ByteArray) (w : World) (hs : c.size ≤ 1000000) : Calls Tryz.prog 172 #[.string c] w fun e w' => e = .returned (.string (mk (letL (bytesL c)))) ∧ Below w.heap.size w w' := by
  have hz1 := tpre_len (bytesL c) [58]
  have hz2 := inn2_len (bytesL c)
  rw [bytesL_length] at hz1 hz2
  have H1 : Hid (∀ W, Calls Tryz.prog 215 #[.string c, .string ⟨#[58]⟩] W fun e w' => e = .returned (.tuple #[.string (mk (inn1 (bytesL c))), .bool (Lib.hasPrefix (bytesL c) [58])]) ∧ w' = W) := Lib.hid fun W => Tryz.strings_CutPrefix c ⟨#[58]⟩ W
  have H2 : Hid (∀ W, Calls Tryz.prog 216 #[.string (mk (inn1 (bytesL c))), .string ⟨#[58]⟩] W fun e w' => e = .returned (.tuple #[.string (mk (inn2 (bytesL c))), .bool (Lib.hasSuffix (inn1 (bytesL c)) [58])]) ∧ w' = W) := Lib.hid fun W => Tryz.strings_CutSuffix (mk (inn1 (bytesL c))) ⟨#[58]⟩ W (by rw [mk_size]; unfold inn1; omega)
  have H3 : Hid (∀ W, Calls Tryz.prog 94 #[.string (mk (inn2 (bytesL c))), .string ⟨#[45]⟩] W fun e w' => e = .returned (.string (mk (Lib.trimB (inn2 (bytesL c)) 45))) ∧ Below W.heap.size W w') := Lib.hid fun W => by
    refine (Tryz.strings_Trim_one (mk (inn2 (bytesL c))) 45 (by decide) W (by rw [mk_size]; omega)).mono ?_
    rintro e w' ⟨rfl, rfl | rfl⟩
    · exact ⟨rfl, Below.refl _ _⟩
    · exact ⟨rfl, (Below.refl _ _).drew⟩
  have HX : Hid (letL (bytesL c) = if inn2 (bytesL c) = [] ∨ (inn2 (bytesL c)).all (· == 45) = false then [] else letX (Lib.hasPrefix (bytesL c) [58]) (Lib.hasSuffix (inn1 (bytesL c)) [58])) := Lib.hid rfl
  have HT := Lib.hid (trimB_nil (inn2 (bytesL c)))
  generalize letL (bytesL c) = R at *
  generalize Lib.hasPrefix (bytesL c) [58] = p at *
  generalize Lib.hasSuffix (inn1 (bytesL c)) [58] = q at *
  generalize Lib.trimB (inn2 (bytesL c)) 45 = T at *
  generalize inn2 (bytesL c) = I at *
  generalize mk (inn1 (bytesL c)) = J at *
  by_cases h0 : I = []
  · have HF : Hid (R = []) := Lib.hid (by rw [HX.out, if_pos (Or.inl h0)])
    subst h0
    have H2' : Hid (∀ W, Calls Tryz.prog 216 #[.string J, .string ⟨#[58]⟩] W fun e w' => e = .returned (.tuple #[.string ⟨#[]⟩, .bool q]) ∧ w' = W) := Lib.hid H2.out
    go_enter Tryz.func172, Tryz.ntmps172
    go_wp2_with fail
    ((with_reducible refine (H1.out _).mono ?_))
    rintro e w0 ⟨rfl, rfl⟩
    go_wp2_with fail
    ((with_reducible refine (H2'.out _).mono ?_))
    rintro e w0 ⟨rfl, rfl⟩
    go_wp2_with fail
    go_ret
    exact ⟨ret_str (by rw [HF.out]; rfl), Below.refl _ _⟩
  · obtain ⟨x1, x2⟩ := cons_list (mk I) (by rw [bytesL_mk']; exact h0)
    by_cases h1 : I.all (· == 45) = true
    · have HF : Hid (R = letX p q) := Lib.hid (by rw [HX.out, if_neg (by rintro (e | e); exact h0 e; rw [h1] at e; cases e)])
      obtain rfl : T = [] := HT.out.2 h1
      have H3' : Hid (∀ W, Calls Tryz.prog 94 #[.string (mk I), .string ⟨#[45]⟩] W fun e w' => e = .returned (.string ⟨#[]⟩) ∧ Below W.heap.size W w') := Lib.hid H3.out
      clear H3 h0 h1 HT HX
      generalize mk I = I' at *
      cases p <;> cases q
      all_goals
        go_enter Tryz.func172, Tryz.ntmps172
        go_wp2_with fail
        ((with_reducible refine (H1.out _).mono ?_))
        rintro e w0 ⟨rfl, rfl⟩
        go_wp2_with fail
        ((with_reducible refine (H2.out _).mono ?_))
        rintro e w0 ⟨rfl, rfl⟩
        go_wp2_with fail
        ((with_reducible refine (H3'.out _).mono ?_))
        rintro e w1 ⟨rfl, b1⟩
        go_wp2_with fail
        go_ret
        exact ⟨ret_str (by rw [HF.out]; rfl), b1⟩
    · have HF : Hid (R = []) := Lib.hid (by rw [HX.out, if_pos (Or.inr (by simpa using h1))])
      obtain ⟨y1, y2⟩ := cons_list (mk T) (by rw [bytesL_mk']; exact fun e => h1 (HT.out.1 e))
      clear h0 h1 HT HX
      generalize mk I = I' at *
      generalize mk T = T' at *
      go_enter Tryz.func172, Tryz.ntmps172
      go_wp2_with fail
      ((with_reducible refine (H1.out _).mono ?_))
      rintro e w0 ⟨rfl, rfl⟩
      go_wp2_with fail
      ((with_reducible refine (H2.out _).mono ?_))
      rintro e w0 ⟨rfl, rfl⟩
      go_wp2_with fail
      ((with_reducible refine (H3.out _).mono ?_))
      rintro e w1 ⟨rfl, b1⟩
      go_wp2_with fail
      go_ret
      exact ⟨ret_str (by rw [HF.out]; rfl), b1⟩

end Go.Proofs.YtpoafhgbhnblmaaGreatDoor
namespace Go.Pub
open Go.RowKit
theorem quiet_left {P : Program} {f : FuncId} {args : Array Value} {w : World} {n : Nat} {v : Value}
    (h : Calls P f args (w.drewN n) fun e w' => e = .returned v ∧ w.drewN n = w') : Calls P f args (w.drewN n) fun e w'' => e = .returned v ∧ ∃ m, w'' = w.drewN m :=
  h.mono fun _ _ ⟨he, hm⟩ => ⟨he, n, hm.symm⟩
theorem Reads.take {w : World} {B size n k : Nat} {A : Option Addr} {xs : List Value} (h : Reads w B size A n xs) (hk : k ≤ n) : Reads w B size A k (xs.take (k * size)) := by
  refine ⟨by rw [List.length_take, h.1]; exact Nat.min_eq_left (Nat.mul_le_mul_right _ hk), fun h0 => ?_⟩
  obtain ⟨ad, e, hb, hc⟩ := h.2 (by omega)
  refine ⟨ad, e, hb, fun j u hu => hc j u ?_⟩
  rw [List.getElem?_take] at hu
  split at hu
  · exact hu
  · cases hu
end Go.Pub
namespace Go.Proofs.YtpoafhgbhnblmaaGreatDoor
open Go.RowKit Go.Pub
theorem contains_keys (zs : List (ByteArray × ByteArray)) (x : ByteArray) : hasKeyL zs x = Lib.containsS (keysOf zs) x := by
  rw [Bool.eq_iff_iff, Lib.containsS_iff]
  unfold hasKeyL keysOf
  induction zs with
  | nil => simp [getL]
  | cons p l ih =>
    unfold getL
    by_cases h : p.1 = x
    · rw [if_pos h]; simp [h]
    · rw [if_neg h, ih]; simp; intro e; exact absurd e.symm h
structure BInv (w : World) (a : AttrL) (A : Option Addr) (c : Nat) (D : Option Addr) (d : Nat) (wr : World) : Prop where
  blk : Blk wr w.heap.size 43 #[.string a.id, .slice A a.cl.length c, .slice D a.pr.length d]
  bel : Below w.heap.size w wr
theorem BInv.below {w : World} {a : AttrL} {A : Option Addr} {c : Nat} {D : Option Addr} {d : Nat} {wr w1 : World} (h : BInv w a A c D d wr) (hb : Below wr.heap.size wr w1) : BInv w a A c D d w1 :=
  ⟨h.blk.below hb h.blk.lt, h.bel.trans (hb.mono h.bel.size)⟩
theorem BInv.drewN {w : World} {a : AttrL} {A : Option Addr} {c : Nat} {D : Option Addr} {d : Nat} {wr : World} (h : BInv w a A c D d wr) (n : Nat) : BInv w a A c D d (wr.drewN n) := ⟨h.blk, below_drewN h.bel n⟩
end Go.Proofs.YtpoafhgbhnblmaaGreatDoor
namespace Go.Pub
open Go.RowKit
/-- Cells, cut or padded. -/
def fitL (zs : List ByteArray) (n : Nat) : List ByteArray := zs.take n ++ List.replicate (n - zs.length) ⟨#[]⟩
theorem fitL_len (zs : List ByteArray) (n : Nat) : (fitL zs n).length = n := by unfold fitL; simp; omega
/-- The number of columns. -/
def colN (c : Int) : Nat := min c.toNat 32
theorem made_rep (z : Value) (n : Nat) : madeCells #[z] n = (List.replicate n z).toArray := by
  unfold madeCells
  apply Array.ext
  · simp
  · intro i h1 h2
    simp [Nat.mod_one]
theorem splice_fit (zs : List ByteArray) (n : Nat) : splice (List.replicate n (Value.string ⟨#[]⟩)) 0 (strs (zs.take n)) = strs (fitL zs n) := by
  unfold splice fitL strs
  simp [List.map_append, List.map_replicate, List.drop_replicate]
  by_cases h : n ≤ zs.length
  · rw [show min n zs.length = n by omega, show n - n = 0 by omega, show n - zs.length = 0 by omega]
  · rw [show min n zs.length = zs.length by omega]
end Go.Pub
namespace Go.Proofs.YtpoafhgbhnblmaaGreatDoor
open Go.RowKit Go.Pub
end Go.Proofs.YtpoafhgbhnblmaaGreatDoor
