/-
  attr.Text.
-/
import Derived.Test.YtkcfcdnchlmekaaAttrM
import Derived.Test.YtkcfcdnchlmekaaAttrN
import Derived.Test.YtkcfcdnchlmekaaJoin
import Derived.Deep.RegionHeld3
import Derived.Deep.AppendLies
set_option linter.unusedVariables false
set_option linter.unusedSimpArgs false
namespace Go.Proofs.Ytkcfcdnchlmekaa
open Go.RowKit Go.Pub

def idItem (x : ByteArray) : ByteArray := ⟨#[35]⟩ ++ x
def clItem (x : ByteArray) : ByteArray := ⟨#[46]⟩ ++ x
def prItem (p : ByteArray × ByteArray) : ByteArray := p.1 ++ ⟨#[61, 34]⟩ ++ mk (escL (bytesL p.2)) ++ ⟨#[34]⟩
def idItems (x : ByteArray) : List ByteArray := if x = ⟨#[]⟩ then [] else [idItem x]
/-- The items of attributes, as texts. -/
def itemsL (a : AttrL) : List ByteArray := idItems a.id ++ a.cl.map clItem ++ a.pr.map prItem
/-- The source of attributes. -/
def textB (a : AttrL) : ByteArray := ⟨#[123]⟩ ++ mk (joinL ⟨#[32]⟩ (itemsL a)) ++ ⟨#[125]⟩

def TextPost (r : ByteArray × Nat) (w : World) (e : Ending) (w' : World) : Prop := e = .returned (.tuple #[.string r.1, .int .i64 r.2]) ∧ Below w.heap.size w w'

set_option maxRecDepth 100000 in
set_option maxHeartbeats 1000000 in
theorem text_fail (w : World) (a : AttrL) (A : Option Addr) (c : Nat) (D : Option Addr) (d B : Nat) (h : ReadA w B a A c D d) (hE : checkE a ≠ 0) :
    Calls Try.prog 16 #[.agg #[.string a.id, .slice A a.cl.length c, .slice D a.pr.length d]] w (TextPost (⟨#[]⟩, checkE a) w) := by
  have HC : Hid (Calls Try.prog 14 #[.agg #[.string a.id, .slice A a.cl.length c, .slice D a.pr.length d]] (w.alloc (.cells #[.string a.id, .slice A a.cl.length c, .slice D a.pr.length d] 27)) fun e w' => e = .returned (.int .i64 (checkE a)) ∧ Below (w.alloc (.cells #[.string a.id, .slice A a.cl.length c, .slice D a.pr.length d] 27)).heap.size (w.alloc (.cells #[.string a.id, .slice A a.cl.length c, .slice D a.pr.length d] 27)) w') := Lib.hid (check_any _ a A c D d B (h.below ((Below.refl _ _).alloc (Nat.le_refl _) _)))
  clear h
  generalize checkE a = E at *
  have z : ((E : Int) != 0) = true := by simp; exact hE
  clear hE
  go_enter Try.func16, Try.ntmps16
  go_wp2_with fail
  ((with_reducible refine HC.out.mono ?_))
  rintro e w1 ⟨rfl, b1⟩
  go_wp2_with fail
  go_ret2
  exact ⟨rfl, ((Below.refl _ _).alloc (Nat.le_refl _) _).trans (b1.mono (by simp))⟩

structure TInv (w : World) (a : AttrL) (A : Option Addr) (c : Nat) (D : Option Addr) (d : Nat) (its : List ByteArray) (v : Value) (wr : World) : Prop where
  blk : Blk wr w.heap.size 27 #[.string a.id, .slice A a.cl.length c, .slice D a.pr.length d]
  own : wr.ownsRow (w.heap.size + 1) 9 1 v its.length (strs its)
  bel : Below w.heap.size w wr
  le : w.heap.size + 1 ≤ wr.heap.size

theorem prItem_size (p : ByteArray × ByteArray) (h : p.1.size ≤ 1000000 ∧ p.2.size ≤ 1000000) : (prItem p).size ≤ 4000000 := by
  have h1 := escL_len (bytesL p.2)
  rw [bytesL_length] at h1
  have h2 : (mk (escL (bytesL p.2))).size = (escL (bytesL p.2)).length := by rw [← bytesL_length, bytesL_mk']
  unfold prItem
  rw [ByteArray.size_append, ByteArray.size_append, ByteArray.size_append, h2]
  show p.1.size + 2 + _ + 1 ≤ _
  omega
theorem below_undrew {B : Nat} {w w' : World} (h : Below B w.drew w') : Below B w w' := ⟨h.os, h.tape, h.output, h.size, h.block⟩
theorem strs_snoc (l : List ByteArray) (x : ByteArray) : strs (l ++ [x]) = strs l ++ [.string x] := by unfold strs; rw [List.map_append]; rfl
theorem TInv.push {w : World} {a : AttrL} {A : Option Addr} {c : Nat} {D : Option Addr} {d : Nat} {its : List ByteArray} {v v' : Value} {wr w2 : World} {x : ByteArray} (h : TInv w a A c D d its v wr)
    (hown : w2.ownsRow (w.heap.size + 1) 9 1 v' (its.length + 1) (strs its ++ [.string x])) (hg : (wr.alloc (.cells #[.string x] 9)).grownBy w2 v.ownBlock) : TInv w a A c D d (its ++ [x]) v' w2 := by
  have hne : some w.heap.size ≠ v.ownBlock := fun e => by have := (h.own.lt _ e.symm).1; omega
  have hz := hg.size
  have hle := h.le
  simp only [heap_alloc_size] at hz
  refine ⟨(h.blk.alloc _).grown hg hne, ?_, (h.bel.alloc (by omega) _).grown hg (by simp; omega) (fun k hk => by have := (h.own.lt k hk).1; omega), by omega⟩
  rw [List.length_append, strs_snoc]
  exact hown
theorem TInv.below {w : World} {a : AttrL} {A : Option Addr} {c : Nat} {D : Option Addr} {d : Nat} {its : List ByteArray} {v : Value} {wr w2 : World} (h : TInv w a A c D d its v wr) (hb : Below wr.heap.size wr w2) : TInv w a A c D d its v w2 :=
  ⟨h.blk.below hb h.blk.lt, own_below h.own hb, h.bel.trans (hb.mono h.bel.size), Nat.le_trans h.le hb.size⟩

set_option maxRecDepth 100000 in
set_option maxHeartbeats 2000000 in
theorem text_ok (w : World) (a : AttrL) (A : Option Addr) (c : Nat) (D : Option Addr) (d B : Nat) (h : ReadA w B a A c D d) (hE : checkE a = 0) (hc32 : a.cl.length ≤ 32) (hp32 : a.pr.length ≤ 32) :
    Calls Try.prog 16 #[.agg #[.string a.id, .slice A a.cl.length c, .slice D a.pr.length d]] w (TextPost (textB a, 0) w) := by
  have HC : Hid (Calls Try.prog 14 #[.agg #[.string a.id, .slice A a.cl.length c, .slice D a.pr.length d]] (w.alloc (.cells #[.string a.id, .slice A a.cl.length c, .slice D a.pr.length d] 27)) fun e w' => e = .returned (.int .i64 (0 : Nat)) ∧ Below (w.alloc (.cells #[.string a.id, .slice A a.cl.length c, .slice D a.pr.length d] 27)).heap.size (w.alloc (.cells #[.string a.id, .slice A a.cl.length c, .slice D a.pr.length d] 27)) w') := Lib.hid (by rw [← hE]; exact check_any _ a A c D d B (h.below ((Below.refl _ _).alloc (Nat.le_refl _) _)))
  have HRd := Lib.hid h
  have hsid := h.sid
  have HT : Hid (textB a = ⟨#[123]⟩ ++ mk (joinL ⟨#[32]⟩ (idItems a.id ++ a.cl.map clItem ++ a.pr.map prItem)) ++ ⟨#[125]⟩) := Lib.hid rfl
  obtain ⟨i0, hi0, hz0, hz1, hz2⟩ := info_parts str_info
  have HI0 : Hid (TInv w a A c D d [] (.slice none 0 0) (w.alloc (.cells #[.string a.id, .slice A a.cl.length c, .slice D a.pr.length d] 27))) := Lib.hid ⟨Blk.new _ _ _, World.ownsRow_nil _ _ _ _, (Below.refl _ _).alloc (Nat.le_refl _) _, by simp⟩
  clear h hE
  generalize textB a = R at *
  have HID : Hid (idItems a.id = if a.id = ⟨#[]⟩ then [] else [idItem a.id]) := Lib.hid rfl
  have hidl : (idItems a.id).length ≤ 1 := by unfold idItems; split <;> simp
  have HI0s : Hid (∀ x ∈ idItems a.id, x.size ≤ 4000000) := Lib.hid fun x hx => by
    unfold idItems at hx
    split at hx
    · cases hx
    · simp at hx; subst hx; unfold idItem; rw [ByteArray.size_append]; show 1 + a.id.size ≤ _; omega
  generalize idItems a.id = I0 at *
  by_cases hid : a.id = ⟨#[]⟩
  case' pos =>
    have hI0 : Hid (I0 = []) := Lib.hid (by rw [HID.out, if_pos hid])
    have y1 : a.id.toList = [] := (toList_iff _).2 hid
    have y2 : a.id.toList.isEmpty = true := by rw [y1]; rfl
    clear hid
    go_enter Try.func16, Try.ntmps16
    go_wp2_with fail
    ((with_reducible refine HC.out.mono ?_))
    rintro e w1 ⟨rfl, b1⟩
    have KI := Lib.hid (HI0.out.below b1)
    have k0 := KI.out.blk.cell 0
    have k1 := KI.out.blk.cell 1
    simp at k0 k1
    clear b1
    have KI1 : Hid (TInv w a A c D d I0 (.slice none 0 0) w1) := Lib.hid (by rw [hI0.out]; exact KI.out)
    clear KI
    go_wp2_with fail
    clear k0 k1 y1 y2
  case' neg =>
    have hI0 : Hid (I0 = [⟨#[35]⟩ ++ a.id]) := Lib.hid (by rw [HID.out, if_neg hid]; rfl)
    have y1 : ¬ a.id.toList = [] := fun e => hid ((toList_iff _).1 e)
    have y2 : a.id.toList.isEmpty = false := by rw [List.isEmpty_eq_false_iff]; exact y1
    clear hid
    go_enter Try.func16, Try.ntmps16
    go_wp2_with fail
    ((with_reducible refine HC.out.mono ?_))
    rintro e w1 ⟨rfl, b1⟩
    have KI := Lib.hid (HI0.out.below b1)
    have k0 := KI.out.blk.cell 0
    simp at k0
    have hle1 := KI.out.le
    clear b1
    go_wp2_with (at_builtin; refine wpList_append_own _ rfl _ _ 24 rfl (w.heap.size + 1) 9 i0 _ 1 16 Try.underlying24 hi0 hz0 hz1 hz2 rfl (by decide) _ _ _ rfl (KI.out.own.alloc _) ⟨w1.heap.size, 0, none⟩ 1 1 [.string (⟨#[35]⟩ ++ a.id)] rfl rfl ?c1 ?c2 ?c3 ?c4 ?c5 ?_)
    case c1 =>
      intro j u hj
      match j, hj with
      | 0, hj => simp at hj; subst hj; simp [Addr.add]
    case c2 => intro u hu; simp at hu; subst hu; rfl
    case c3 => unfold maxLen; simp
    case c4 => simp
    case c5 => simp; omega
    intro v' w2 hown2 hgrow _
    have KI1 : Hid (TInv w a A c D d I0 v' w2) := Lib.hid (by rw [hI0.out]; exact KI.out.push hown2 hgrow)
    have k1 := KI1.out.blk.cell 1
    simp at k1
    clear hown2 hgrow k0 KI
    go_wp2_with fail
    clear k1 y1 y2
  all_goals
    go_loopw [5, 27] (fun v i wr => ∃ k : Nat, i = .int .i64 k ∧ k ≤ a.cl.length ∧ Hid (TInv w a A c D d (I0 ++ (a.cl.take k).map clItem) v wr)) (fun _ i _ => a.cl.length - (intOf i).toNat)
    case atStart => exact ⟨0, rfl, by omega, Lib.hid (by rw [List.take_zero, List.map_nil, List.append_nil]; exact KI1.out)⟩
    case round =>
      clear KI1 HC HI0
      obtain ⟨k, rfl, hk, KT⟩ := hrel
      by_cases hlt : k < a.cl.length
      · obtain ⟨b, off, rfl, hb, hcell⟩ := (HRd.out.cls.below (KT.out.bel.mono HRd.out.le)).row (by omega) (by omega)
        have hc := hcell k _ (strs_at a.cl k hlt)
        clear hcell
        have hsz := HRd.out.scl _ (List.getElem_mem hlt)
        have hlen : (I0 ++ (a.cl.take k).map clItem).length ≤ 33 := by rw [List.length_append, List.length_map, List.length_take]; omega
        have hle1 := KT.out.le
        have hnext : Hid (I0 ++ (a.cl.take (k + 1)).map clItem = (I0 ++ (a.cl.take k).map clItem) ++ [⟨#[46]⟩ ++ a.cl[k]]) := Lib.hid (by rw [List.take_succ_eq_append_getElem hlt, List.map_append, List.append_assoc]; rfl)
        generalize I0 ++ (a.cl.take k).map clItem = its at *
        go_wp2_with (at_builtin; refine wpList_append_own _ rfl _ _ 24 rfl (w.heap.size + 1) 9 i0 _ 1 16 Try.underlying24 hi0 hz0 hz1 hz2 rfl (by decide) _ _ _ rfl (KT.out.own.alloc _) ⟨wr.heap.size, 0, none⟩ 1 1 [.string (⟨#[46]⟩ ++ a.cl[k])] rfl rfl ?c1 ?c2 ?c3 ?c4 ?c5 ?_)
        case c1 =>
          intro j u hj
          match j, hj with
          | 0, hj => simp at hj; subst hj; simp [Addr.add]
        case c2 => intro u hu; simp at hu; subst hu; rfl
        case c3 => unfold maxLen; omega
        case c4 => omega
        case c5 => simp; omega
        intro v' w2 hown2 hgrow _
        have KT2 := Lib.hid (KT.out.push hown2 hgrow)
        clear hown2 hgrow
        go_wp2_with fail
        go_roundw
        case rel => exact ⟨k + 1, by go_num, by omega, Lib.hid (by rw [hnext.out]; exact KT2.out)⟩
        case measure => simp [intOf]; omega
      · obtain rfl : k = a.cl.length := by omega
        have KT1 : Hid (TInv w a A c D d (I0 ++ a.cl.map clItem) _ wr) := Lib.hid (by have := KT.out; rw [List.take_length] at this; exact this)
        clear KT
        have k2 := KT1.out.blk.cell 2
        simp at k2
        go_wp2_with fail
        clear k2
        obtain ⟨wo, rfl⟩ : ∃ wo : World, wo = wr := ⟨_, rfl⟩
        have hI1l : (I0 ++ a.cl.map clItem).length ≤ 33 := by rw [List.length_append, List.length_map]; omega
        have HI1s : Hid (∀ x ∈ I0 ++ a.cl.map clItem, x.size ≤ 4000000) := Lib.hid fun x hx => by
          rcases List.mem_append.1 hx with hx | hx
          · exact HI0s.out x hx
          · obtain ⟨p, hp, rfl⟩ := List.mem_map.1 hx
            have := HRd.out.scl p hp
            unfold clItem; rw [ByteArray.size_append]; show 1 + p.size ≤ _; omega
        have HT1 : Hid (R = ⟨#[123]⟩ ++ mk (joinL ⟨#[32]⟩ ((I0 ++ a.cl.map clItem) ++ a.pr.map prItem)) ++ ⟨#[125]⟩) := HT
        clear HT
        generalize I0 ++ a.cl.map clItem = I1 at *
        go_loopw [5, 40] (fun v i wr => ∃ k : Nat, i = .int .i64 k ∧ k ≤ a.pr.length ∧ Hid (TInv w a A c D d (I1 ++ (a.pr.take k).map prItem) v wr)) (fun _ i _ => a.pr.length - (intOf i).toNat)
        case atStart => exact ⟨0, rfl, by omega, Lib.hid (by rw [List.take_zero, List.map_nil, List.append_nil]; exact KT1.out)⟩
        case round =>
          clear KT1
          obtain ⟨k, rfl, hk, KT⟩ := hrel
          by_cases hlt : k < a.pr.length
          · obtain ⟨b, off, rfl, hb, hcell⟩ := (HRd.out.prs.below (KT.out.bel.mono HRd.out.le)).row (by omega) (by omega)
            have hc1 := hcell _ _ (prs_at a.pr k hlt).1
            have hc2 := hcell _ _ (prs_at a.pr k hlt).2
            rw [← Nat.add_assoc] at hc2
            clear hcell
            have hs1 := (HRd.out.spr _ (List.getElem_mem hlt)).1
            have hs2 := (HRd.out.spr _ (List.getElem_mem hlt)).2
            have hlen : (I1 ++ (a.pr.take k).map prItem).length ≤ 65 := by rw [List.length_append, List.length_map, List.length_take]; omega
            have hle1 := KT.out.le
            have hnext : Hid (I1 ++ (a.pr.take (k + 1)).map prItem = (I1 ++ (a.pr.take k).map prItem) ++ [a.pr[k].1 ++ ⟨#[61, 34]⟩ ++ mk (escL (bytesL a.pr[k].2)) ++ ⟨#[34]⟩]) := Lib.hid (by rw [List.take_succ_eq_append_getElem hlt, List.map_append, List.append_assoc]; rfl)
            have HX := Lib.hid fun W => escape_any a.pr[k].2 W hs2
            have hes : (mk (escL (bytesL a.pr[k].2))).size ≤ 2000000 := by have := escL_len (bytesL a.pr[k].2); rw [← bytesL_length, bytesL_mk']; rw [bytesL_length] at this; omega
            generalize mk (escL (bytesL a.pr[k].2)) = ES at *
            generalize I1 ++ (a.pr.take k).map prItem = its at *
            have KT0 := Lib.hid (KT.out.below ((Below.refl _ _).alloc (Nat.le_refl _) (.cells #[.string a.pr[k].1, .string a.pr[k].2] 42)))
            have hpb : Blk (wr.alloc (.cells #[.string a.pr[k].1, .string a.pr[k].2] 42)) wr.heap.size 42 #[.string a.pr[k].1, .string a.pr[k].2] := Blk.new _ _ _
            have HPB := Lib.hid hpb
            have KOL := Lib.hid fun g e => (KT.out.own.lt g e).2
            clear hpb KT
            go_wp2_with fail
            have hpl := HPB.out.lt
            have p0 : (wr.alloc (.cells #[.string a.pr[k].1, .string a.pr[k].2] 42)).cell? ⟨wr.heap.size, 0, none⟩ = some (.string a.pr[k].1) := HPB.out.cell 0
            have p1 : (wr.alloc (.cells #[.string a.pr[k].1, .string a.pr[k].2] 42)).cell? ⟨wr.heap.size, 1, none⟩ = some (.string a.pr[k].2) := HPB.out.cell 1
            clear HPB
            generalize a.pr[k].1 = key at *
            generalize a.pr[k].2 = val at *
            generalize wr.alloc (.cells #[.string key, .string val] 42) = W0 at *
            generalize wr.heap.size = pb at *
            have hne : u5.ownBlock ≠ some pb := fun e => by have := KOL.out pb e; omega
            have q2 : (key ++ (⟨#[61, 34]⟩ : ByteArray)).size = key.size + 2 := by rw [ByteArray.size_append]; rfl
            have q3 : (key ++ (⟨#[61, 34]⟩ : ByteArray) ++ ES).size = key.size + 2 + ES.size := by rw [ByteArray.size_append, q2]
            have cat1 : ∀ w : World, (Op.stringOp .add key ⟨#[61, 34]⟩).run Try.prog w = .ok (.string (key ++ ⟨#[61, 34]⟩)) w := fun w => run_string_add_sum _ _ _ (by show key.size + 2 ≤ _; omega)
            have cat2 : ∀ w : World, (Op.stringOp .add (key ++ ⟨#[61, 34]⟩) ES).run Try.prog w = .ok (.string (key ++ ⟨#[61, 34]⟩ ++ ES)) w := fun w => run_string_add_sum _ _ _ (by rw [q2]; omega)
            have cat3 : ∀ w : World, (Op.stringOp .add (key ++ ⟨#[61, 34]⟩ ++ ES) ⟨#[34]⟩).run Try.prog w = .ok (.string (key ++ ⟨#[61, 34]⟩ ++ ES ++ ⟨#[34]⟩)) w := fun w => run_string_add_sum _ _ _ (by rw [q3]; show key.size + 2 + ES.size + 1 ≤ _; omega)
            clear q2 q3
            go_region_held3 (fun w' => w'.cell? ⟨pb, 0, none⟩ = some (.string key) ∧ w'.cell? ⟨pb, 1, none⟩ = some (.string val))
              (first
                | go_keep
                | (go_split_ands
                   refine ⟨?_, ?_⟩
                   · (rw [hgrow.cell_far _ (by have := b1.size; simp at *; omega) (Ne.symm hne)]; first | assumption | (simp [*]; done))
                   · (rw [hgrow.cell_far _ (by have := b1.size; simp at *; omega) (Ne.symm hne)]; first | assumption | (simp [*]; done)))
                | (refine ⟨(b1.cell (by simp; omega)).trans ?_, (b1.cell (by simp; omega)).trans ?_⟩ <;> first | assumption | (simp [*]; done)))
              (first
                | (go_at_call 36; refine (HX.out _).mono ?_; rintro e W1 ⟨rfl, b1⟩)
                | (refine step_append_lies _ (by rfl) _ _ _ (by rfl) (w.heap.size + 1) 9 i0 _ 1 16 Try.underlying24 hi0 hz0 hz1 hz2 rfl (by omega) u5 its.length (strs its) (by rfl) ((own_below KT0.out.own (below_undrew b1)).alloc _)
                    ⟨W1.heap.size, 0, none⟩ 1 1 [.string (key ++ ⟨#[61, 34]⟩ ++ ES ++ ⟨#[34]⟩)] (by rfl) (by rfl) (World.news_of_block (cs := #[.string (key ++ ⟨#[61, 34]⟩ ++ ES ++ ⟨#[34]⟩)]) (t := 9) (fr := (0, 0)) (heap_alloc_new W1 _)) (by simp [Value.oneCell']) (by omega) (by unfold maxLen; omega) (by omega) (Nat.le_trans (Nat.le_trans KT0.out.le (below_undrew b1).size) (by simp)) (W1.heap.size + 1) (by simp) ?_; intro gg cap w1 hown1 hgrow hat hlt1))
            have KT2 := Lib.hid ((KT0.out.below (below_undrew b1)).push hown1 hgrow)
            clear hown1 hgrow hat hlt1 b1 cat1 cat2 cat3 p0 p1
            go_wp2_with fail
            go_roundw
            case rel => exact ⟨k + 1, by go_num, by omega, Lib.hid (by rw [hnext.out]; exact KT2.out)⟩
            case measure => simp [intOf]; omega
          · obtain rfl : k = a.pr.length := by omega
            have KT1 : Hid (TInv w a A c D d (I1 ++ a.pr.map prItem) u5 wr) := Lib.hid (by have := KT.out; rw [List.take_length] at this; exact this)
            clear KT
            have hItl : (I1 ++ a.pr.map prItem).length ≤ 65 := by rw [List.length_append, List.length_map]; omega
            have hIts : ∀ x ∈ I1 ++ a.pr.map prItem, x.size ≤ 4000000 := by
              intro x hx
              rcases List.mem_append.1 hx with hx | hx
              · exact HI1s.out x hx
              · obtain ⟨p, hp, rfl⟩ := List.mem_map.1 hx
                exact prItem_size p (HRd.out.spr p hp)
            have HITS := Lib.hid hIts
            have hRR : Hid (R = ⟨#[123]⟩ ++ mk (joinL ⟨#[32]⟩ (I1 ++ a.pr.map prItem)) ++ ⟨#[125]⟩) := HT1
            clear hIts HT1
            generalize I1 ++ a.pr.map prItem = its at *
            have hsz := sizes_bd 4000000 its HITS.out
            have hmul : its.length * 4000000 ≤ 65 * 4000000 := Nat.mul_le_mul_right _ hItl
            have hjl := joinL_len ⟨#[32]⟩ its
            have hs32 : (⟨#[32]⟩ : ByteArray).size = 1 := rfl
            rw [hs32, Nat.mul_one] at hjl
            have hjs : (mk (joinL ⟨#[32]⟩ its)).size ≤ 300000000 := by rw [← bytesL_length, bytesL_mk']; omega
            obtain ⟨A5, c5, rfl⟩ := own_slice KT1.out.own
            have hcap : its.length ≤ c5 := by
              rcases KT1.out.own.2 with ⟨h1, h2⟩ | ⟨g', cap', cur', h1, _, _, h2, _⟩
              · omega
              · injection h1 with _ _ h3; omega
            have HJ := Lib.hid (join_any its A5 c5 wr.heap.size ⟨#[32]⟩ wr (Reads.of_own KT1.out.own) (Nat.le_refl _) hcap (by omega) (by omega) (by decide) (by decide))
            have KB := Lib.hid KT1.out.bel
            clear hsz hmul hjl hs32
            generalize mk (joinL ⟨#[32]⟩ its) = J at *
            have q2 : ((⟨#[123]⟩ : ByteArray) ++ J).size = 1 + J.size := by rw [ByteArray.size_append]; rfl
            have cat1 : ∀ w : World, (Op.stringOp .add ⟨#[123]⟩ J).run Try.prog w = .ok (.string (⟨#[123]⟩ ++ J)) w := fun w => run_string_add_sum _ _ _ (by show 1 + J.size ≤ _; omega)
            have cat2 : ∀ w : World, (Op.stringOp .add (⟨#[123]⟩ ++ J) ⟨#[125]⟩).run Try.prog w = .ok (.string (⟨#[123]⟩ ++ J ++ ⟨#[125]⟩)) w := fun w => run_string_add_sum _ _ _ (by rw [q2]; show 1 + J.size + 1 ≤ _; omega)
            clear q2
            go_wp2_with fail
            ((with_reducible refine HJ.out.mono ?_))
            rintro e w9 ⟨rfl, b9⟩
            go_wp2_with fail
            go_ret2
            refine ⟨?_, KB.out.trans (b9.mono KB.out.size)⟩
            rw [hRR.out]; rfl

theorem checkE_lim (a : AttrL) (h : checkE a = 0) : a.cl.length ≤ 32 ∧ a.pr.length ≤ 32 := by
  have key : restE a = 0 → a.cl.length ≤ 32 ∧ a.pr.length ≤ 32 := by
    intro h
    unfold restE at h
    split at h
    · split at h
      · unfold limE at h
        split at h
        · cases h
        · omega
      · rename_i h2; exact absurd h h2
    · rename_i h2; exact absurd h h2
  unfold checkE at h
  split at h
  · exact key h
  · split at h
    · exact key h
    · cases h
/-- What Text gives. -/
def textR (a : AttrL) : ByteArray × Nat := if checkE a = 0 then (textB a, 0) else (⟨#[]⟩, checkE a)
theorem text_any (w : World) (a : AttrL) (A : Option Addr) (c : Nat) (D : Option Addr) (d B : Nat) (h : ReadA w B a A c D d) :
    Calls Try.prog 16 #[.agg #[.string a.id, .slice A a.cl.length c, .slice D a.pr.length d]] w (TextPost (textR a) w) := by
  unfold textR
  by_cases hE : checkE a = 0
  · rw [if_pos hE]; exact text_ok w a A c D d B h hE (checkE_lim a hE).1 (checkE_lim a hE).2
  · rw [if_neg hE]; exact text_fail w a A c D d B h hE
end Go.Proofs.Ytkcfcdnchlmekaa
