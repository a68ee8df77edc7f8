/-
  Texts of the proof, put together (what this law reaches): EmA, EmB, EmC, EmQ.
-/
import Derived.Test.YtfnloonmeilhlaaGreatDoorT05
set_option linter.unusedVariables false
set_option linter.unusedSimpArgs false
namespace Go.Pub
/-- An inline. -/
inductive InT where
  | mk (kind : Int) (text dest title : ByteArray) (att : AttrL) (args : List ByteArray) (cites : List CitL) (kids : List InT)
def InT.kind : InT → Int | .mk k _ _ _ _ _ _ _ => k
def InT.text : InT → ByteArray | .mk _ t _ _ _ _ _ _ => t
def InT.kids : InT → List InT | .mk _ _ _ _ _ _ _ l => l
def noAt : AttrL := ⟨⟨#[]⟩, [], []⟩
/-- An inline with text alone. -/
def txtT (k : Int) (s : ByteArray) : InT := .mk k s ⟨#[]⟩ ⟨#[]⟩ noAt [] [] []
/-- An inline with others in it alone. -/
def kidT (k : Int) (l : List InT) : InT := .mk k ⟨#[]⟩ ⟨#[]⟩ ⟨#[]⟩ noAt [] [] l
def zeroT : InT := kidT 0 []
/-- A piece. -/
structure PcT where
  kind : Int
  inl : InT
  ch : ByteArray
  n : Int
  opn : Bool
  clo : Bool
  img : Bool
  bg : Int
  nd : Int
/-- The number of a delimiter. -/
def charNum (c : ByteArray) : Nat := if c.toList = [42] then 0 else if c.toList = [95] then 1 else 2
/-- Is a piece a run? -/
def runBit (kind : Int) (ch : ByteArray) (n : Int) : Bool := decide (kind = 1) && (((decide (ch.toList = [42]) || decide (ch.toList = [95])) && (decide (1 ≤ n) && decide (n ≤ 262144))) || (decide (ch.toList = [126]) && decide (n = 2)))
def runP (p : PcT) : Bool := runBit p.kind p.ch p.n
/-- An element. -/
structure ElL where
  t : InT := zeroT
  run : Bool := false
  pc : Nat := 0
  left : Nat := 0
  before : Nat := 0
  next : Nat := 0
def z0 : ElL := {}
def elX (xs : List ElL) (i : Nat) : ElL := xs.getD i z0
def setBf (xs : List ElL) (i v : Nat) : List ElL := xs.set i { elX xs i with before := v }
def setN (xs : List ElL) (i v : Nat) : List ElL := xs.set i { elX xs i with next := v }
def setLf (xs : List ElL) (i v : Nat) : List ElL := xs.set i { elX xs i with left := v }
/-- An element more, before another one. -/
def insX (xs : List ElL) (e : ElL) (k : Nat) : List ElL :=
  setBf (setN (xs ++ [{ e with before := (elX xs k).before, next := k }]) (elX xs k).before xs.length) k xs.length
/-- An element less. -/
def rmX (xs : List ElL) (k : Nat) : List ElL :=
  setBf (setN xs (elX xs k).before (elX xs k).next) (elX xs k).next (elX xs k).before
/-- The list of openers of a run. -/
def kindO (p : PcT) : Nat := (charNum p.ch * 3 + p.n.toNat % 3) * 2 + (if p.clo = true then 1 else 0)
/-- The nearest opener of a list, from its end. -/
def nearL (prev near : Nat) : List Nat → Nat
  | [] => near
  | x :: l => if x ≤ near then near else if prev ≠ x then x else nearL prev near l
def skipK (c : PcT) (k : Nat) : Bool := (decide (k % 2 = 1) || c.opn) && !decide (c.ch.toList = [126]) && (decide ((k / 2 + c.n.toNat) % 3 = 0) && !decide (k / 2 = 0))
/-- The nearest opener, the first k kinds looked at. -/
def openerF (c : PcT) (ops : Nat → List Nat) (prev : Nat) : Nat → Nat
  | 0 => 0
  | k + 1 => if skipK c k = true then openerF c ops prev k else nearL prev (openerF c ops prev k) (ops (charNum c.ch * 6 + k)).reverse
def openA (c : PcT) (ops : Nat → List Nat) (prev : Nat) : Nat := openerF c ops prev 6
/-- A list without what is greater at its end. -/
def popW (k : Nat) (l : List Nat) : List Nat := (l.reverse.dropWhile fun x => decide (k < x)).reverse
/-- The state. -/
structure EmS where
  xs : List ElL
  ops : Nat → List Nat
  prs : List (Nat × Nat × Nat)
def zP : PcT := ⟨0, zeroT, ⟨#[]⟩, 0, false, false, false, 0, 0⟩
def pcX (ps : List PcT) (i : Nat) : PcT := ps.getD i zP
/-- A text n times. -/
def repB (c : ByteArray) : Nat → List UInt8
  | 0 => []
  | n + 1 => c.toList ++ repB c n
def toI (ps : List PcT) (e : ElL) : InT := if e.run = true then txtT 1 ⟨(repB (pcX ps e.pc).ch e.left).toArray⟩ else e.t
/-- The inlines from k up to c. -/
def betF (ps : List PcT) (xs : List ElL) (c : Nat) : Nat → Nat → List InT
  | 0, _ => []
  | f + 1, k => if k = c then [] else toI ps (elX xs k) :: betF ps xs c f (elX xs k).next
def betA (ps : List PcT) (xs : List ElL) (o c : Nat) : List InT := betF ps xs c xs.length (elX xs o).next
def pairN (xs : List ElL) (o c : Nat) : Nat := if 2 ≤ (elX xs o).left ∧ 2 ≤ (elX xs c).left then 2 else 1
def pairK (ps : List PcT) (xs : List ElL) (o c : Nat) : Int := if (pcX ps (elX xs c).pc).ch.toList = [126] then 8 else if pairN xs o c = 2 then 7 else 6
/-- The elements when a match is made, all but the empty runs' removal. -/
def pairX (ps : List PcT) (xs : List ElL) (o c : Nat) : List ElL :=
  let ys := insX (setBf (setN xs o c) c o) { t := kidT (pairK ps xs o c) (betA ps xs o c) } c
  let zs := setLf ys o ((elX ys o).left - pairN xs o c)
  setLf zs c ((elX zs c).left - pairN xs o c)
def rmZ (xs : List ElL) (k : Nat) : List ElL := if (elX xs k).left = 0 then rmX xs k else xs
def mtchA (ps : List PcT) (st : EmS) (o c : Nat) : EmS :=
  let ys := pairX ps st.xs o c
  let zs := rmZ ys o
  { xs := rmZ zs c, ops := fun j => popW (if (elX ys o).left = 0 then o - 1 else o) (st.ops j), prs := st.prs ++ [((elX st.xs o).pc, (elX st.xs c).pc, pairN st.xs o c)] }
/-- All matches of a closer. -/
def closeF (ps : List PcT) (c : Nat) : Nat → EmS → EmS
  | 0, st => st
  | f + 1, st => if (elX st.xs c).left = 0 then st else
      if openA (pcX ps (elX st.xs c).pc) st.ops (elX st.xs c).before = 0 then st
      else closeF ps c f (mtchA ps st (openA (pcX ps (elX st.xs c).pc) st.ops (elX st.xs c).before) c)
def clsA (ps : List PcT) (c : Nat) (st : EmS) : EmS := closeF ps c (elX st.xs c).left st
/-- What a piece makes of the state. -/
def stepA (ps : List PcT) (st : EmS) (i : Nat) : EmS :=
  let p := pcX ps i
  if runP p = true then
    let c := st.xs.length
    let s1 : EmS := { st with xs := insX st.xs { run := true, pc := i, left := p.n.toNat } 0 }
    let s2 := if p.clo = true then clsA ps c s1 else s1
    if p.opn = true ∧ 0 < (elX s2.xs c).left then { s2 with ops := fun j => if j = kindO p then s2.ops j ++ [c] else s2.ops j } else s2
  else if p.kind = 0 ∧ (p.inl.kind ≠ 1 ∨ p.inl.text.toList ≠ []) then { st with xs := insX st.xs { t := p.inl } 0 } else st
def start0 : EmS := { xs := [z0], ops := fun _ => [], prs := [] }
def matchF (ps : List PcT) : Nat → EmS
  | 0 => start0
  | i + 1 => stepA ps (matchF ps i) i
def matchA (ps : List PcT) : EmS := matchF ps ps.length
/-- Texts that stand together joined, empty ones left out. -/
def joinT : List InT → List InT
  | [] => []
  | x :: l => if x.kind ≠ 1 then x :: joinT l else if x.text.toList = [] then joinT l else match x, joinT l with
    | .mk k t d ti a ar c ks, [] => [.mk k t d ti a ar c ks]
    | .mk k t d ti a ar c ks, y :: r => if y.kind = 1 then .mk k ⟨(t.toList ++ y.text.toList).toArray⟩ d ti a ar c ks :: r else .mk k t d ti a ar c ks :: y :: r
mutual
def mergeI : InT → InT
  | .mk k t d ti a ar c kids => .mk k t d ti a ar c (joinT (mapI kids))
def mapI : List InT → List InT
  | [] => []
  | x :: l => mergeI x :: mapI l
end
def mergeL (l : List InT) : List InT := joinT (mapI l)
def nestA (ps : List PcT) : List InT := mergeL (betA ps (matchA ps).xs 0 0)
end Go.Pub
namespace Go.Pub
def nx (xs : List ElL) (i : Nat) : Nat := (elX xs i).next
def bf (xs : List ElL) (i : Nat) : Nat := (elX xs i).before
/-- What of an element stays. -/
def core (xs : List ElL) (i : Nat) : InT × Bool × Nat × Nat := ((elX xs i).t, (elX xs i).run, (elX xs i).pc, (elX xs i).left)
theorem elX_set (xs : List ElL) (i j : Nat) (e : ElL) : elX (xs.set i e) j = if j = i ∧ i < xs.length then e else elX xs j := by
  unfold elX
  rw [List.getD_eq_getElem?_getD, List.getD_eq_getElem?_getD, List.getElem?_set]
  by_cases h : i = j
  · subst h
    by_cases h2 : i < xs.length
    · rw [if_pos rfl, if_pos h2, if_pos ⟨rfl, h2⟩]; rfl
    · rw [if_pos rfl, if_neg h2, if_neg (fun h => h2 h.2), List.getElem?_eq_none (by omega)]
  · rw [if_neg h, if_neg (fun h' => h h'.1.symm)]
theorem elX_app (xs : List ElL) (e : ElL) (j : Nat) : elX (xs ++ [e]) j = if j = xs.length then e else elX xs j := by
  unfold elX
  rw [List.getD_eq_getElem?_getD, List.getD_eq_getElem?_getD]
  rcases Nat.lt_trichotomy j xs.length with h | h | h
  · rw [List.getElem?_append_left h, if_neg (by omega)]
  · subst h; rw [List.getElem?_append_right (Nat.le_refl _), if_pos rfl]; simp
  · rw [List.getElem?_append_right (by omega), if_neg (by omega), List.getElem?_eq_none (by simp; omega), List.getElem?_eq_none (by omega)]
theorem len_setBf (xs : List ElL) (i v : Nat) : (setBf xs i v).length = xs.length := by unfold setBf; simp
theorem len_setN (xs : List ElL) (i v : Nat) : (setN xs i v).length = xs.length := by unfold setN; simp
theorem len_setLf (xs : List ElL) (i v : Nat) : (setLf xs i v).length = xs.length := by unfold setLf; simp
theorem len_ins (xs : List ElL) (e : ElL) (k : Nat) : (insX xs e k).length = xs.length + 1 := by unfold insX; rw [len_setBf, len_setN]; simp
theorem len_rm (xs : List ElL) (k : Nat) : (rmX xs k).length = xs.length := by unfold rmX; rw [len_setBf, len_setN]
section
variable (xs : List ElL) (i v j : Nat)
theorem nx_setBf : nx (setBf xs i v) j = nx xs j := by unfold nx setBf; rw [elX_set]; split <;> simp_all
theorem nx_setN : nx (setN xs i v) j = if j = i ∧ i < xs.length then v else nx xs j := by unfold nx setN; rw [elX_set]; split <;> simp_all
theorem nx_setLf : nx (setLf xs i v) j = nx xs j := by unfold nx setLf; rw [elX_set]; split <;> simp_all
theorem bf_setN : bf (setN xs i v) j = bf xs j := by unfold bf setN; rw [elX_set]; split <;> simp_all
theorem bf_setBf : bf (setBf xs i v) j = if j = i ∧ i < xs.length then v else bf xs j := by unfold bf setBf; rw [elX_set]; split <;> simp_all
theorem bf_setLf : bf (setLf xs i v) j = bf xs j := by unfold bf setLf; rw [elX_set]; split <;> simp_all
theorem core_setBf : core (setBf xs i v) j = core xs j := by unfold core setBf; rw [elX_set]; split <;> simp_all
theorem core_setN : core (setN xs i v) j = core xs j := by unfold core setN; rw [elX_set]; split <;> simp_all
end
theorem nx_ins (xs : List ElL) (e : ElL) (k j : Nat) (h : bf xs k ≤ xs.length) : nx (insX xs e k) j = if j = bf xs k then xs.length else if j = xs.length then k else nx xs j := by
  unfold insX
  rw [nx_setBf, nx_setN]
  have h1 : (elX xs k).before = bf xs k := rfl
  rw [h1]
  by_cases hj : j = bf xs k
  · rw [if_pos ⟨hj, by simp; omega⟩, if_pos hj]
  · rw [if_neg (fun h => hj h.1), if_neg hj]
    unfold nx
    rw [elX_app]
    by_cases h2 : j = xs.length
    · rw [if_pos h2, if_pos h2]
    · rw [if_neg h2, if_neg h2]
theorem bf_ins (xs : List ElL) (e : ElL) (k j : Nat) (h : k < xs.length) : bf (insX xs e k) j = if j = k then xs.length else if j = xs.length then bf xs k else bf xs j := by
  unfold insX
  rw [bf_setBf, bf_setN, len_setN]
  have h1 : (elX xs k).before = bf xs k := rfl
  rw [h1]
  by_cases hj : j = k
  · rw [if_pos ⟨hj, by simp; omega⟩, if_pos hj]
  · rw [if_neg (fun h => hj h.1), if_neg hj]
    unfold bf
    rw [elX_app]
    by_cases h2 : j = xs.length
    · rw [if_pos h2, if_pos h2]
    · rw [if_neg h2, if_neg h2]
theorem core_ins (xs : List ElL) (e : ElL) (k j : Nat) : core (insX xs e k) j = if j = xs.length then (e.t, e.run, e.pc, e.left) else core xs j := by
  unfold insX
  rw [core_setBf, core_setN]
  unfold core
  rw [elX_app]
  split <;> rfl
theorem nx_rm (xs : List ElL) (k j : Nat) (h : bf xs k < xs.length) : nx (rmX xs k) j = if j = bf xs k then nx xs k else nx xs j := by
  unfold rmX
  rw [nx_setBf, nx_setN]
  have h1 : (elX xs k).before = bf xs k := rfl
  rw [h1]
  by_cases hj : j = bf xs k
  · rw [if_pos ⟨hj, h⟩, if_pos hj]; rfl
  · rw [if_neg (fun h => hj h.1), if_neg hj]
theorem bf_rm (xs : List ElL) (k j : Nat) (h : nx xs k < xs.length) : bf (rmX xs k) j = if j = nx xs k then bf xs k else bf xs j := by
  unfold rmX
  rw [bf_setBf, bf_setN, len_setN]
  have h1 : (elX xs k).next = nx xs k := rfl
  rw [h1]
  by_cases hj : j = nx xs k
  · rw [if_pos ⟨hj, h⟩, if_pos hj]; rfl
  · rw [if_neg (fun h => hj h.1), if_neg hj]
theorem core_rm (xs : List ElL) (k j : Nat) : core (rmX xs k) j = core xs j := by unfold rmX; rw [core_setBf, core_setN]
/-- Elements linked to both sides. -/
def LinkL (xs : List ElL) : Nat → List Nat → Nat → Prop
  | a, [], b => nx xs a = b ∧ bf xs b = a
  | a, i :: l, b => nx xs a = i ∧ bf xs i = a ∧ LinkL xs i l b
def lastOf : Nat → List Nat → Nat
  | a, [] => a
  | _, i :: l => lastOf i l
theorem lastOf_mem : ∀ (l : List Nat) (a : Nat), lastOf a l ∈ a :: l
  | [], a => by simp [lastOf]
  | i :: l, a => List.mem_cons_of_mem _ (lastOf_mem l i)
theorem lastOf_snoc : ∀ (l : List Nat) (a b : Nat), lastOf a (l ++ [b]) = b
  | [], a, b => rfl
  | i :: l, a, b => lastOf_snoc l i b
section
variable {xs ys : List ElL}
theorem LinkL.app : ∀ {l r : List Nat} {a i b : Nat}, LinkL xs a (l ++ i :: r) b ↔ LinkL xs a l i ∧ LinkL xs i r b
  | [], r, a, i, b => ⟨fun h => ⟨⟨h.1, h.2.1⟩, h.2.2⟩, fun h => ⟨h.1.1, h.1.2, h.2⟩⟩
  | x :: l, r, a, i, b => ⟨fun h => ⟨⟨h.1, h.2.1, (LinkL.app.1 h.2.2).1⟩, (LinkL.app.1 h.2.2).2⟩, fun h => ⟨h.1.1, h.1.2.1, LinkL.app.2 ⟨h.1.2.2, h.2⟩⟩⟩
theorem LinkL.bf_ : ∀ {l : List Nat} {a b : Nat}, LinkL xs a l b → bf xs b = lastOf a l
  | [], a, b, h => h.2
  | i :: l, a, b, h => h.2.2.bf_
theorem LinkL.frame : ∀ {l : List Nat} {a b : Nat}, LinkL xs a l b → (∀ i ∈ a :: l, nx ys i = nx xs i) → (∀ i ∈ l, bf ys i = bf xs i) → bf ys b = bf xs b → LinkL ys a l b
  | [], a, b, h, h1, h2, h3 => ⟨(h1 a (by simp)).trans h.1, h3.trans h.2⟩
  | i :: l, a, b, h, h1, h2, h3 => ⟨(h1 a (by simp)).trans h.1, (h2 i (by simp)).trans h.2.1, h.2.2.frame (fun j hj => h1 j (List.mem_cons_of_mem _ hj)) (fun j hj => h2 j (List.mem_cons_of_mem _ hj)) h3⟩
/-- The same elements with another one behind them. -/
theorem LinkL.to : ∀ {l : List Nat} {a b k : Nat}, LinkL xs a l b → (a :: l).Nodup → (∀ i ∈ a :: l, i ≠ lastOf a l → nx ys i = nx xs i) → (∀ i ∈ l, bf ys i = bf xs i) → nx ys (lastOf a l) = k → bf ys k = lastOf a l → LinkL ys a l k
  | [], a, b, k, h, hn, h1, h2, h3, h4 => ⟨h3, h4⟩
  | i :: l, a, b, k, h, hn, h1, h2, h3, h4 => by
    have hne : a ≠ lastOf i l := fun e => (List.nodup_cons.1 hn).1 (e ▸ lastOf_mem l i)
    exact ⟨(h1 a (by simp) hne).trans h.1, (h2 i (by simp)).trans h.2.1, h.2.2.to (List.nodup_cons.1 hn).2 (fun j hj => h1 j (List.mem_cons_of_mem _ hj)) (fun j hj => h2 j (List.mem_cons_of_mem _ hj)) h3 h4⟩
end
/-- The ring: the elements ids, in this order, behind the element 0. -/
structure RingI (xs : List ElL) (ids : List Nat) : Prop where
  link : LinkL xs 0 ids 0
  nd : (0 :: ids).Nodup
  bd : ∀ i ∈ ids, i < xs.length
  pos : 0 < xs.length
def headZ : List Nat → Nat
  | [] => 0
  | b :: _ => b
section
variable {xs ys : List ElL} {l r ids : List Nat}
theorem RingI.bd0 (h : RingI xs ids) : ∀ i ∈ 0 :: ids, i < xs.length := fun i hi => by
  rcases List.mem_cons.1 hi with rfl | hi
  · exact h.pos
  · exact h.bd i hi
theorem RingI.two (h : RingI xs (l ++ r)) : LinkL xs 0 l (headZ r) ∧ (0 :: l).Nodup ∧ (∀ i ∈ 0 :: l, i ∉ r) ∧ (∀ i ∈ r, i ≠ 0) := by
  have hn := h.nd
  rw [← List.cons_append, List.nodup_append] at hn
  refine ⟨?_, hn.1, fun i hi hr => hn.2.2 i hi i hr rfl, fun i hi e => hn.2.2 0 (by simp) i hi e.symm⟩
  cases r with
  | nil => simpa [headZ] using h.link
  | cons b r => exact (LinkL.app.1 h.link).1
/-- An element more in the ring. -/
theorem RingI.ins (h : RingI xs (l ++ r)) (e : ElL) : RingI (insX xs e (headZ r)) (l ++ xs.length :: r) := by
  obtain ⟨h1, hn, hd, h0⟩ := h.two
  have hbd := h.bd0
  have hb : bf xs (headZ r) = lastOf 0 l := h1.bf_
  have hl := lastOf_mem l 0
  have hlt : lastOf 0 l < xs.length := hbd _ (by rcases List.mem_cons.1 hl with e | e; rw [e]; simp; exact List.mem_cons_of_mem _ (List.mem_append_left _ e))
  have hk : headZ r < xs.length := by
    cases r with
    | nil => exact h.pos
    | cons b r => exact h.bd b (by simp)
  have hN := fun j => nx_ins xs e (headZ r) j (by omega)
  have hB := fun j => bf_ins xs e (headZ r) j hk
  rw [hb] at hN hB
  have hlm : ∀ i ∈ 0 :: l, i < xs.length := fun i hi => hbd i (by rcases List.mem_cons.1 hi with rfl | hi; simp; exact List.mem_cons_of_mem _ (List.mem_append_left _ hi))
  have hhz : ∀ i ∈ l, i ≠ headZ r := fun i hi e => by
    cases r with
    | nil => exact (List.nodup_cons.1 hn).1 (by have : i = 0 := e; exact this ▸ hi)
    | cons b r => exact hd i (List.mem_cons_of_mem _ hi) (by rw [e]; simp [headZ])
  refine ⟨?_, ?_, ?_, by rw [len_ins]; omega⟩
  · refine LinkL.app.2 ⟨h1.to hn (fun i hi hne => ?_) (fun i hi => ?_) ?_ ?_, ?_⟩
    · rw [hN, if_neg hne, if_neg (by have := hlm i hi; omega)]
    · rw [hB, if_neg (hhz i hi), if_neg (by have := hlm i (List.mem_cons_of_mem _ hi); omega)]
    · rw [hN, if_pos rfl]
    · rw [hB, if_neg (by omega), if_pos rfl]
    · cases r with
      | nil => exact ⟨by rw [hN, if_neg (by omega), if_pos rfl]; rfl, by rw [hB]; rfl⟩
      | cons b r =>
        have h2 := (LinkL.app.1 h.link).2
        have hnr : (b :: r).Nodup := by
          have := h.nd
          rw [← List.cons_append, List.nodup_append] at this
          exact this.2.1
        refine ⟨by rw [hN, if_neg (by omega), if_pos rfl]; rfl, by rw [hB]; simp [headZ], h2.frame (fun i hi => ?_) (fun i hi => ?_) ?_⟩
        · rw [hN, if_neg (fun e => hd _ hl (by rw [← e]; exact hi)), if_neg (by have := h.bd i (List.mem_append_right _ hi); omega)]
        · have hne : i ≠ b := fun e => (List.nodup_cons.1 hnr).1 (e ▸ hi)
          rw [hB, if_neg (show ¬ i = headZ (b :: r) from hne), if_neg (by have := h.bd i (List.mem_append_right _ (List.mem_cons_of_mem _ hi)); omega)]
        · have hb0 := h0 b (by simp)
          rw [hB, if_neg (show ¬ 0 = headZ (b :: r) from fun e => hb0 e.symm), if_neg (by have := h.pos; omega)]
  · rw [← List.cons_append, List.nodup_append]
    have hn' := h.nd
    rw [← List.cons_append, List.nodup_append] at hn'
    refine ⟨hn, List.nodup_cons.2 ⟨fun hm => ?_, hn'.2.1⟩, fun a ha b hb => ?_⟩
    · have := h.bd _ (List.mem_append_right _ hm); omega
    · rcases List.mem_cons.1 hb with rfl | hb
      · have := hlm a ha; omega
      · exact hn'.2.2 a ha b hb
  · intro i hi
    rw [len_ins]
    rw [List.mem_append, List.mem_cons] at hi
    rcases hi with hi | rfl | hi
    · have := h.bd i (List.mem_append_left _ hi); omega
    · omega
    · have := h.bd i (List.mem_append_right _ hi); omega
theorem RingI.insEnd (h : RingI xs ids) (e : ElL) : RingI (insX xs e 0) (ids ++ [xs.length]) := by
  have := RingI.ins (r := []) (by simpa using h) e
  exact this
/-- What lies between two elements goes out of the ring. -/
theorem RingI.cut {m : List Nat} {o c : Nat} (h : RingI xs (l ++ o :: (m ++ c :: r))) : RingI (setBf (setN xs o c) c o) (l ++ o :: c :: r) := by
  have ho : o < xs.length := h.bd o (by simp)
  have hc : c < xs.length := h.bd c (by simp)
  have hn := h.nd
  rw [← List.cons_append, List.nodup_append] at hn
  obtain ⟨hn1, hnb, hn7⟩ := hn
  obtain ⟨hn2, hnc⟩ := List.nodup_cons.1 hnb
  rw [List.nodup_append] at hnc
  obtain ⟨hn3, hnd, hn6⟩ := hnc
  obtain ⟨hn4, hn5⟩ := List.nodup_cons.1 hnd
  have hoc : o ≠ c := fun e => hn2 (by rw [e]; simp)
  obtain ⟨a1, a2⟩ := LinkL.app.1 h.link
  obtain ⟨a3, a4⟩ := LinkL.app.1 a2
  have hN := fun j => (nx_setBf (setN xs o c) c o j).trans (nx_setN xs o c j)
  have hB : ∀ j, bf (setBf (setN xs o c) c o) j = if j = c then o else bf xs j := fun j => by
    rw [bf_setBf, bf_setN, len_setN]
    by_cases hj : j = c
    · rw [if_pos ⟨hj, hc⟩, if_pos hj]
    · rw [if_neg (fun h => hj h.1), if_neg hj]
  have hl : ∀ i ∈ 0 :: l, i ≠ o ∧ i ≠ c := fun i hi => ⟨hn7 i hi o (by simp), hn7 i hi c (by simp)⟩
  have hr : ∀ i ∈ r, i ≠ o ∧ i ≠ c := fun i hi => ⟨fun e => hn2 (by rw [← e]; simp [hi]), fun e => hn4 (by rw [← e]; exact hi)⟩
  have h0o : (0 : Nat) ≠ o ∧ (0 : Nat) ≠ c := hl 0 (by simp)
  refine ⟨LinkL.app.2 ⟨a1.frame (fun i hi => ?_) (fun i hi => ?_) ?_, ?_, ?_, a4.frame (fun i hi => ?_) (fun i hi => ?_) ?_⟩, ?_, ?_, by rw [len_setBf, len_setN]; exact h.pos⟩
  · rw [hN, if_neg (fun e => (hl i hi).1 e.1)]
  · rw [hB, if_neg (hl i (List.mem_cons_of_mem _ hi)).2]
  · rw [hB, if_neg hoc]
  · rw [hN, if_pos ⟨rfl, ho⟩]
  · rw [hB, if_pos rfl]
  · rw [hN, if_neg (fun e => ?_)]
    rcases List.mem_cons.1 hi with rfl | hi
    · exact hoc e.1.symm
    · exact (hr i hi).1 e.1
  · rw [hB, if_neg (hr i hi).2]
  · rw [hB, if_neg h0o.2]
  · rw [← List.cons_append, List.nodup_append]
    refine ⟨hn1, List.nodup_cons.2 ⟨fun hm => hn2 ?_, List.nodup_cons.2 ⟨hn4, hn5⟩⟩, fun a ha b hb => hn7 a ha b ?_⟩
    · rcases List.mem_cons.1 hm with e | e <;> simp [e]
    · rcases List.mem_cons.1 hb with e | e
      · simp [e]
      · rcases List.mem_cons.1 e with e | e <;> simp [e]
  · intro i hi
    rw [len_setBf, len_setN]
    refine h.bd i ?_
    rw [List.mem_append, List.mem_cons, List.mem_cons] at hi
    rcases hi with e | e | e | e <;> simp [e]
/-- An element less in the ring. -/
theorem RingI.rm {k : Nat} (h : RingI xs (l ++ k :: r)) : RingI (rmX xs k) (l ++ r) := by
  have hn := h.nd
  rw [← List.cons_append, List.nodup_append] at hn
  obtain ⟨hn1, hnb, hn4⟩ := hn
  obtain ⟨hn2, hn3⟩ := List.nodup_cons.1 hnb
  obtain ⟨a1, a2⟩ := LinkL.app.1 h.link
  have hlm : ∀ i ∈ 0 :: l, i < xs.length := fun i hi => h.bd0 i (by rcases List.mem_cons.1 hi with rfl | hi; simp; exact List.mem_cons_of_mem _ (List.mem_append_left _ hi))
  have hb : bf xs k = lastOf 0 l := a1.bf_
  have hbl : lastOf 0 l < xs.length := hlm _ (lastOf_mem l 0)
  have hx : nx xs k = headZ r := by
    cases r with
    | nil => exact a2.1
    | cons b r => exact a2.1
  have hxl : headZ r < xs.length := by
    cases r with
    | nil => exact h.pos
    | cons b r => exact h.bd b (by simp)
  have hN := fun j => nx_rm xs k j (by omega)
  have hB := fun j => bf_rm xs k j (by omega)
  rw [hb, hx] at hN hB
  have hz : ∀ i ∈ l, i ≠ headZ r := fun i hi e => by
    cases r with
    | nil => exact (List.nodup_cons.1 hn1).1 (by have : i = 0 := e; exact this ▸ hi)
    | cons b r => exact hn4 i (List.mem_cons_of_mem _ hi) b (by simp) e
  have hto : LinkL (rmX xs k) 0 l (headZ r) := a1.to hn1 (fun i hi hne => by rw [hN, if_neg hne]) (fun i hi => by rw [hB, if_neg (hz i hi)]) (by rw [hN, if_pos rfl]) (by rw [hB, if_pos rfl])
  refine ⟨?_, ?_, fun i hi => ?_, by rw [len_rm]; exact h.pos⟩
  · cases r with
    | nil => rw [List.append_nil]; exact hto
    | cons b r =>
      refine LinkL.app.2 ⟨hto, a2.2.2.frame (fun i hi => ?_) (fun i hi => ?_) ?_⟩
      · rw [hN, if_neg (fun e => hn4 _ (lastOf_mem l 0) i (List.mem_cons_of_mem _ hi) e.symm)]
      · rw [hB, if_neg (fun e => (List.nodup_cons.1 hn3).1 (by have : i = b := e; exact this ▸ hi))]
      · have : (0 : Nat) ≠ b := hn4 0 (by simp) b (by simp)
        rw [hB, if_neg (show ¬ 0 = headZ (b :: r) from this)]
  · rw [← List.cons_append, List.nodup_append]
    exact ⟨hn1, hn3, fun a ha b hb => hn4 a ha b (List.mem_cons_of_mem _ hb)⟩
  · rw [len_rm]
    refine h.bd i ?_
    rw [List.mem_append] at hi ⊢
    exact hi.imp id (List.mem_cons_of_mem _)
end
end Go.Pub
namespace Go.Pub
theorem nearL_spec (prev : Nat) : ∀ (l : List Nat) (near : Nat), nearL prev near l = near ∨ (nearL prev near l ∈ l ∧ nearL prev near l ≠ prev ∧ near < nearL prev near l)
  | [], near => .inl rfl
  | x :: l, near => by
    unfold nearL
    by_cases h1 : x ≤ near
    · rw [if_pos h1]; exact .inl rfl
    · rw [if_neg h1]
      by_cases h2 : prev ≠ x
      · rw [if_pos h2]; exact .inr ⟨by simp, h2.symm, by omega⟩
      · rw [if_neg h2]
        rcases nearL_spec prev l near with h | ⟨h, h3, h4⟩
        · exact .inl h
        · exact .inr ⟨List.mem_cons_of_mem _ h, h3, h4⟩
theorem openerF_spec (c : PcT) (ops : Nat → List Nat) (prev : Nat) : ∀ k, openerF c ops prev k = 0 ∨ ∃ j, j < k ∧ skipK c j = false ∧ openerF c ops prev k ∈ ops (charNum c.ch * 6 + j) ∧ openerF c ops prev k ≠ prev
  | 0 => .inl rfl
  | k + 1 => by
    unfold openerF
    by_cases hs : skipK c k = true
    · rw [if_pos hs]
      rcases openerF_spec c ops prev k with h | ⟨j, h1, h2⟩
      · exact .inl h
      · exact .inr ⟨j, by omega, h2⟩
    · rw [if_neg hs]
      rcases nearL_spec prev (ops (charNum c.ch * 6 + k)).reverse (openerF c ops prev k) with h | ⟨h, h3, h4⟩
      · rw [h]
        rcases openerF_spec c ops prev k with h | ⟨j, h1, h2⟩
        · exact .inl h
        · exact .inr ⟨j, by omega, h2⟩
      · exact .inr ⟨k, by omega, by simpa using hs, by simpa using h, h3⟩
theorem popW_sub (k : Nat) (l : List Nat) : ∃ r, l = popW k l ++ r ∧ ∀ x ∈ r, k < x := by
  refine ⟨(l.reverse.takeWhile fun x => decide (k < x)).reverse, ?_, fun x hx => ?_⟩
  · unfold popW
    rw [← List.reverse_append, List.takeWhile_append_dropWhile, List.reverse_reverse]
  · rw [List.mem_reverse] at hx
    have := List.all_takeWhile (p := fun x => decide (k < x)) (l := l.reverse)
    rw [List.all_eq_true] at this
    simpa using this x hx
theorem popW_le (k : Nat) (l : List Nat) (h : l.Pairwise (· < ·)) : ∀ x ∈ popW k l, x ≤ k := by
  intro x hx
  obtain ⟨r, e, hr⟩ := popW_sub k l
  unfold popW at hx
  rw [List.mem_reverse] at hx
  rcases hd : l.reverse.dropWhile (fun x => decide (k < x)) with _ | ⟨y, t⟩
  · rw [hd] at hx; cases hx
  · have hy : ¬ k < y := by
      have := List.head_dropWhile_not (fun x => decide (k < x)) (l := l.reverse) (by rw [hd]; simp)
      simp only [hd, List.head_cons] at this
      simpa using this
    have hp : (y :: t).Pairwise (· > ·) := by
      have h2 : l.reverse.Pairwise (· > ·) := by rw [List.pairwise_reverse]; exact h
      rw [← hd]
      exact h2.sublist (List.dropWhile_sublist _)
    rw [hd] at hx
    rcases List.mem_cons.1 hx with rfl | hx
    · omega
    · have := (List.pairwise_cons.1 hp).1 x hx
      omega
theorem popW_mem (k : Nat) (l : List Nat) {x : Nat} (hx : x ∈ popW k l) : x ∈ l := by
  obtain ⟨r, e, hr⟩ := popW_sub k l
  rw [e]; exact List.mem_append_left _ hx
theorem popW_asc (k : Nat) (l : List Nat) (h : l.Pairwise (· < ·)) : (popW k l).Pairwise (· < ·) := by
  obtain ⟨r, e, hr⟩ := popW_sub k l
  rw [e] at h
  exact (List.pairwise_append.1 h).1
def runX (xs : List ElL) (i : Nat) : Bool := (elX xs i).run
def lfX (xs : List ElL) (i : Nat) : Nat := (elX xs i).left
def pX (xs : List ElL) (i : Nat) : Nat := (elX xs i).pc
theorem core_eq {xs ys : List ElL} {i j : Nat} (h : core xs i = core ys j) : (elX xs i).t = (elX ys j).t ∧ runX xs i = runX ys j ∧ pX xs i = pX ys j ∧ lfX xs i = lfX ys j := by
  unfold core at h
  injection h with h1 h2
  injection h2 with h2 h3
  injection h3 with h3 h4
  exact ⟨h1, h2, h3, h4⟩
/-- What holds of the state between two pieces. -/
structure EmI (ps : List PcT) (st : EmS) (ids : List Nat) : Prop where
  ring : RingI st.xs ids
  run : ∀ i ∈ ids, runX st.xs i = true → pX st.xs i < ps.length ∧ 0 < lfX st.xs i
  asc : ids.Pairwise fun a b => runX st.xs a = true → runX st.xs b = true → a < b
  ops : ∀ j x, x ∈ st.ops j → x ∈ ids ∧ runX st.xs x = true
  oas : ∀ j, (st.ops j).Pairwise (· < ·)
theorem RingI.frame {xs ys : List ElL} {ids : List Nat} (h : RingI xs ids) (h1 : ∀ i, nx ys i = nx xs i) (h2 : ∀ i, bf ys i = bf xs i) (hl : ys.length = xs.length) : RingI ys ids :=
  ⟨h.link.frame (fun i _ => h1 i) (fun i _ => h2 i) (h2 0), h.nd, fun i hi => by rw [hl]; exact h.bd i hi, by rw [hl]; exact h.pos⟩
theorem EmI.start (ps : List PcT) : EmI ps start0 [] :=
  ⟨⟨⟨rfl, rfl⟩, by simp, fun i hi => (List.not_mem_nil hi).elim, by decide⟩, fun i hi => (List.not_mem_nil hi).elim, .nil, fun j x hx => (List.not_mem_nil hx).elim, fun j => .nil⟩
section
variable {ps : List PcT} {st : EmS} {ids : List Nat}
theorem EmI.ins (h : EmI ps st ids) (e : ElL) (he : e.run = true → e.pc < ps.length ∧ 0 < e.left) : EmI ps { st with xs := insX st.xs e 0 } (ids ++ [st.xs.length]) := by
  have hc : ∀ i ∈ ids, core (insX st.xs e 0) i = core st.xs i := fun i hi => by
    rw [core_ins, if_neg (by have := h.ring.bd i hi; omega)]
  have hk : core (insX st.xs e 0) st.xs.length = (e.t, e.run, e.pc, e.left) := by rw [core_ins, if_pos rfl]
  have hk' : runX (insX st.xs e 0) st.xs.length = e.run ∧ pX (insX st.xs e 0) st.xs.length = e.pc ∧ lfX (insX st.xs e 0) st.xs.length = e.left := by
    unfold core at hk
    injection hk with h1 h2
    injection h2 with h2 h3
    injection h3 with h3 h4
    exact ⟨h2, h3, h4⟩
  refine ⟨h.ring.insEnd e, fun i hi hr => ?_, ?_, fun j x hx => ?_, h.oas⟩
  · rw [List.mem_append, List.mem_singleton] at hi
    rcases hi with hi | rfl
    · obtain ⟨-, c1, c2, c3⟩ := core_eq (hc i hi)
      show pX (insX st.xs e 0) i < _ ∧ 0 < lfX (insX st.xs e 0) i
      rw [c2, c3]
      exact h.run i hi (c1 ▸ hr)
    · show pX (insX st.xs e 0) _ < _ ∧ 0 < lfX (insX st.xs e 0) _
      rw [hk'.2.1, hk'.2.2]
      exact he (hk'.1 ▸ hr)
  · rw [List.pairwise_append]
    refine ⟨h.asc.imp_of_mem fun {a b} ha hb hab => ?_, List.pairwise_singleton _ _, fun a ha b hb _ _ => ?_⟩
    · show runX (insX st.xs e 0) a = true → runX (insX st.xs e 0) b = true → _
      rw [(core_eq (hc a ha)).2.1, (core_eq (hc b hb)).2.1]
      exact hab
    · rw [List.mem_singleton] at hb
      have := h.ring.bd a ha
      omega
  · obtain ⟨h1, h2⟩ := h.ops j x hx
    exact ⟨List.mem_append_left _ h1, by show runX (insX st.xs e 0) x = true; rw [(core_eq (hc x h1)).2.1]; exact h2⟩
theorem len_pairX (ps : List PcT) (xs : List ElL) (o c : Nat) : (pairX ps xs o c).length = xs.length + 1 := by
  unfold pairX
  rw [len_setLf, len_setLf, len_ins, len_setBf, len_setN]
theorem len_rmZ (xs : List ElL) (k : Nat) : (rmZ xs k).length = xs.length := by unfold rmZ; split; rw [len_rm]; rfl
theorem core_rmZ (xs : List ElL) (k j : Nat) : core (rmZ xs k) j = core xs j := by unfold rmZ; split; rw [core_rm]; rfl
theorem elX_setLf (xs : List ElL) (i v j : Nat) : elX (setLf xs i v) j = if j = i ∧ i < xs.length then { elX xs i with left := v } else elX xs j := by unfold setLf; rw [elX_set]
/-- What the elements are when a match was made. -/
theorem core_pairX (ps : List PcT) (xs : List ElL) (o c j : Nat) (ho : o < xs.length) (hc : c < xs.length) (hne : o ≠ c) :
    core (pairX ps xs o c) j = if j = xs.length then (kidT (pairK ps xs o c) (betA ps xs o c), false, 0, 0) else
      ((elX xs j).t, runX xs j, pX xs j, if j = o ∨ j = c then lfX xs j - pairN xs o c else lfX xs j) := by
  have hI : ∀ i, core (insX (setBf (setN xs o c) c o) { t := kidT (pairK ps xs o c) (betA ps xs o c) } c) i = if i = xs.length then (kidT (pairK ps xs o c) (betA ps xs o c), false, 0, 0) else core xs i := fun i => by
    rw [core_ins, len_setBf, len_setN, core_setBf, core_setN]
  unfold pairX
  have hl : (insX (setBf (setN xs o c) c o) { t := kidT (pairK ps xs o c) (betA ps xs o c) } c).length = xs.length + 1 := by rw [len_ins, len_setBf, len_setN]
  generalize insX (setBf (setN xs o c) c o) { t := kidT (pairK ps xs o c) (betA ps xs o c) } c = ys at hI hl
  have hs : ∀ (zs : List ElL) (i v j : Nat), i < zs.length → core (setLf zs i v) j = if j = i then ((elX zs j).t, runX zs j, pX zs j, v) else core zs j := fun zs i v j hi => by
    unfold core runX pX
    rw [elX_setLf]
    by_cases h : j = i
    · subst h; rw [if_pos ⟨rfl, hi⟩, if_pos rfl]
    · rw [if_neg (fun h' => h h'.1), if_neg h]
  show core (setLf (setLf ys o _) c _) j = _
  have hIo := hI o
  have hIc := hI c
  rw [if_neg (by omega)] at hIo hIc
  obtain ⟨o1, o2, o3, o4⟩ := core_eq hIo
  obtain ⟨c1, c2, c3, c4⟩ := core_eq hIc
  have hzc : core (setLf ys o ((elX ys o).left - pairN xs o c)) c = core xs c := by rw [hs _ _ _ _ (by omega), if_neg (fun e => hne e.symm)]; exact hIc
  obtain ⟨z1, z2, z3, z4⟩ := core_eq hzc
  rw [hs _ _ _ _ (by rw [len_setLf]; omega)]
  by_cases hjc : j = c
  · subst hjc
    rw [if_pos rfl, if_neg (by omega), if_pos (.inr rfl), z1, z2, z3]
    show (_, _, _, lfX _ _ - _) = _
    rw [z4]
  · rw [if_neg hjc, hs _ _ _ _ (by omega)]
    by_cases hjo : j = o
    · subst hjo
      rw [if_pos rfl, if_neg (by omega), if_pos (.inl rfl), o1, o2, o3]
      show (_, _, _, lfX _ _ - _) = _
      rw [o4]
    · rw [if_neg hjo, hI]
      by_cases hk : j = xs.length
      · rw [if_pos hk, if_pos hk]
      · rw [if_neg hk, if_neg hk, if_neg (by omega)]; rfl
theorem RingI.setLf {xs : List ElL} {ids : List Nat} (h : RingI xs ids) (i v : Nat) : RingI (setLf xs i v) ids := h.frame (fun j => nx_setLf xs i v j) (fun j => bf_setLf xs i v j) (len_setLf xs i v)
theorem RingI.pairX {xs : List ElL} {A B : List Nat} {o c : Nat} (h : RingI xs (A ++ o :: (B ++ [c]))) : RingI (pairX ps xs o c) (A ++ o :: xs.length :: [c]) := by
  have h1 : RingI (setBf (setN xs o c) c o) ((A ++ [o]) ++ [c]) := by
    have := RingI.cut (m := B) (r := []) h
    simpa using this
  have h2 := h1.ins (r := [c]) { t := kidT (pairK ps xs o c) (betA ps xs o c) }
  rw [len_setBf, len_setN] at h2
  have h3 : RingI (insX (setBf (setN xs o c) c o) { t := kidT (pairK ps xs o c) (betA ps xs o c) } c) (A ++ o :: xs.length :: [c]) := by simpa [headZ] using h2
  exact (h3.setLf _ _).setLf _ _
set_option maxHeartbeats 4000000 in
/-- A match of the opener o and the closer c, which is the last element. -/
theorem EmI.pair {A B : List Nat} {o c : Nat} (h : EmI ps st (A ++ o :: (B ++ [c]))) (ho : runX st.xs o = true) (hc : runX st.xs c = true) (hno : ∀ j, c ∉ st.ops j) :
    EmI ps (mtchA ps st o c) ((A ++ (if lfX st.xs o ≤ pairN st.xs o c then [] else [o]) ++ [st.xs.length]) ++ (if lfX st.xs c ≤ pairN st.xs o c then [] else [c])) ∧
      runX (mtchA ps st o c).xs c = true ∧ pX (mtchA ps st o c).xs c = pX st.xs c ∧ lfX (mtchA ps st o c).xs c = lfX st.xs c - pairN st.xs o c ∧ pairN st.xs o c ≤ lfX st.xs c ∧ 0 < pairN st.xs o c ∧
      (∀ j, c ∉ (mtchA ps st o c).ops j) ∧ (mtchA ps st o c).xs.length = st.xs.length + 1 := by
  have hR := h.ring
  have hol : o < st.xs.length := hR.bd o (by simp)
  have hcl : c < st.xs.length := hR.bd c (by simp)
  have hnd := hR.nd
  rw [← List.cons_append, List.nodup_append] at hnd
  obtain ⟨-, hn2, -⟩ := hnd
  have hoB : o ∉ B ++ [c] := (List.nodup_cons.1 hn2).1
  have hoc : o ≠ c := fun e => hoB (by rw [e]; simp)
  have hasc := h.asc
  rw [List.pairwise_append, List.pairwise_cons, List.pairwise_append] at hasc
  obtain ⟨a1, ⟨a2, a3, a4, a5⟩, a6⟩ := hasc
  have hlo := (h.run o (by simp) ho).2
  have hlc := (h.run c (by simp) hc).2
  have hN : pairN st.xs o c ≤ lfX st.xs o ∧ pairN st.xs o c ≤ lfX st.xs c ∧ 0 < pairN st.xs o c := by
    unfold pairN lfX at *
    split <;> omega
  have hC : ∀ j, core (pairX ps st.xs o c) j = _ := fun j => core_pairX ps st.xs o c j hol hcl hoc
  have hF : ∀ j, core (mtchA ps st o c).xs j = core (pairX ps st.xs o c) j := fun j => by
    show core (rmZ (rmZ (pairX ps st.xs o c) o) c) j = _
    rw [core_rmZ, core_rmZ]
  have hcore : ∀ j, j ≠ st.xs.length → runX (mtchA ps st o c).xs j = runX st.xs j ∧ pX (mtchA ps st o c).xs j = pX st.xs j ∧ lfX (mtchA ps st o c).xs j = if j = o ∨ j = c then lfX st.xs j - pairN st.xs o c else lfX st.xs j := fun j hj => by
    have e := (hF j).trans (hC j)
    rw [if_neg hj] at e
    unfold core at e
    injection e with e1 e2
    injection e2 with e2 e3
    injection e3 with e3 e4
    exact ⟨e2, e3, e4⟩
  have hk : runX (mtchA ps st o c).xs st.xs.length = false := by
    have e := (hF st.xs.length).trans (hC _)
    rw [if_pos rfl] at e
    unfold core at e
    injection e with e1 e2
    injection e2 with e2 e3
  have hxo : lfX (Pub.pairX ps st.xs o c) o = lfX st.xs o - pairN st.xs o c := by
    have := (core_eq (hF o)).2.2.2
    rw [← this, (hcore o (by omega)).2.2, if_pos (.inl rfl)]
  have hxc : lfX (rmZ (Pub.pairX ps st.xs o c) o) c = lfX st.xs c - pairN st.xs o c := by
    have h1 := (core_eq (core_rmZ (Pub.pairX ps st.xs o c) o c)).2.2.2
    have := (core_eq (hF c)).2.2.2
    rw [h1, ← this, (hcore c (by omega)).2.2, if_pos (.inr rfl)]
  have hr1 : RingI (rmZ (Pub.pairX ps st.xs o c) o) ((A ++ (if lfX st.xs o ≤ pairN st.xs o c then [] else [o]) ++ [st.xs.length]) ++ [c]) := by
    have h0 := RingI.pairX (ps := ps) hR
    unfold rmZ
    have e1 : (elX (Pub.pairX ps st.xs o c) o).left = lfX st.xs o - pairN st.xs o c := hxo
    rw [e1]
    by_cases hz : lfX st.xs o ≤ pairN st.xs o c
    · rw [if_pos (by omega), if_pos hz]
      have := h0.rm
      simpa using this
    · rw [if_neg (by omega), if_neg hz]
      simpa using h0
  have hr2 : RingI (mtchA ps st o c).xs ((A ++ (if lfX st.xs o ≤ pairN st.xs o c then [] else [o]) ++ [st.xs.length]) ++ (if lfX st.xs c ≤ pairN st.xs o c then [] else [c])) := by
    show RingI (rmZ (rmZ (Pub.pairX ps st.xs o c) o) c) _
    generalize hY : rmZ (Pub.pairX ps st.xs o c) o = Y at *
    unfold rmZ
    have e1 : (elX Y c).left = lfX st.xs c - pairN st.xs o c := hxc
    rw [e1]
    by_cases hz : lfX st.xs c ≤ pairN st.xs o c
    · rw [if_pos (by omega), if_pos hz]
      exact hr1.rm
    · rw [if_neg (by omega), if_neg hz]
      exact hr1
  have hlast : lfX (mtchA ps st o c).xs c = lfX st.xs c - pairN st.xs o c := by
    have h1 := (hcore c (Nat.ne_of_lt hcl)).2.2
    rw [if_pos (Or.inr rfl)] at h1
    exact h1
  have hlen : (mtchA ps st o c).xs.length = st.xs.length + 1 := by
    show (rmZ (rmZ (Pub.pairX ps st.xs o c) o) c).length = _
    rw [len_rmZ, len_rmZ, len_pairX]
  have hin : ∀ i, i ∈ (A ++ (if lfX st.xs o ≤ pairN st.xs o c then [] else [o]) ++ [st.xs.length]) ++ (if lfX st.xs c ≤ pairN st.xs o c then [] else [c]) → i = st.xs.length ∨ i ∈ A ∨ (i = o ∧ pairN st.xs o c < lfX st.xs o) ∨ (i = c ∧ pairN st.xs o c < lfX st.xs c) := by
    intro i hi
    simp only [List.mem_append, List.mem_singleton] at hi
    rcases hi with ((hi | hi) | hi) | hi
    · exact .inr (.inl hi)
    · by_cases hz : lfX st.xs o ≤ pairN st.xs o c
      · rw [if_pos hz] at hi; cases hi
      · rw [if_neg hz, List.mem_singleton] at hi; exact .inr (.inr (.inl ⟨hi, by omega⟩))
    · exact .inl hi
    · by_cases hz : lfX st.xs c ≤ pairN st.xs o c
      · rw [if_pos hz] at hi; cases hi
      · rw [if_neg hz, List.mem_singleton] at hi; exact .inr (.inr (.inr ⟨hi, by omega⟩))
  have hAl : ∀ i ∈ A, i ≠ st.xs.length := fun i hi => by have := hR.bd i (by simp [hi]); omega
  have hAo : ∀ i ∈ A, i ≠ o ∧ i ≠ c := fun i hi => by
    have hn := hR.nd
    rw [← List.cons_append, List.nodup_append] at hn
    exact ⟨hn.2.2 i (List.mem_cons_of_mem _ hi) o (by simp), hn.2.2 i (List.mem_cons_of_mem _ hi) c (by simp)⟩
  refine ⟨⟨hr2, fun i hi hr => ?_, ?_, fun j x hx => ?_, fun j => popW_asc _ _ (h.oas j)⟩, ?_, ?_, ?_, hN.2.1, hN.2.2, fun j hx => hno j (popW_mem _ _ hx), ?_⟩
  · rcases hin i hi with rfl | hiA | ⟨rfl, hlt⟩ | ⟨rfl, hlt⟩
    · rw [hk] at hr; cases hr
    · obtain ⟨e1, e2, e3⟩ := hcore i (hAl i hiA)
      rw [if_neg (by have := hAo i hiA; omega)] at e3
      rw [e2, e3]
      exact h.run i (by simp [hiA]) (e1 ▸ hr)
    · obtain ⟨e1, e2, e3⟩ := hcore i (by omega)
      rw [if_pos (.inl rfl)] at e3
      rw [e2, e3]
      exact ⟨(h.run i (by simp) ho).1, by omega⟩
    · obtain ⟨e1, e2, e3⟩ := hcore i (by omega)
      rw [if_pos (.inr rfl)] at e3
      rw [e2, e3]
      exact ⟨(h.run i (by simp) hc).1, by omega⟩
  · have b1 : A.Pairwise fun a b => runX (mtchA ps st o c).xs a = true → runX (mtchA ps st o c).xs b = true → a < b := a1.imp_of_mem fun {a b} ha hb hab => by
      rw [(hcore a (hAl a ha)).1, (hcore b (hAl b hb)).1]; exact hab
    have bo : ∀ a ∈ A, runX (mtchA ps st o c).xs a = true → a < o ∧ a < c := fun a ha hr => by
      rw [(hcore a (hAl a ha)).1] at hr
      exact ⟨a6 a ha o (by simp) hr ho, a6 a ha c (by simp) hr hc⟩
    have boc : o < c := a2 c (by simp) ho hc
    have one : ∀ (p : Prop) [Decidable p] (x : Nat), (if p then ([] : List Nat) else [x]).Pairwise fun a b => runX (mtchA ps st o c).xs a = true → runX (mtchA ps st o c).xs b = true → a < b := fun p _ x => by
      split
      · exact .nil
      · exact List.pairwise_singleton _ _
    rw [List.pairwise_append, List.pairwise_append, List.pairwise_append]
    refine ⟨⟨⟨b1, one _ _, fun a ha b hb hra hrb => ?_⟩, List.pairwise_singleton _ _, fun a ha b hb hra hrb => ?_⟩, one _ _, fun a ha b hb hra hrb => ?_⟩
    · have : b = o := by
        by_cases hz : lfX st.xs o ≤ pairN st.xs o c
        · rw [if_pos hz] at hb; cases hb
        · rw [if_neg hz, List.mem_singleton] at hb; exact hb
      rw [this]; exact (bo a ha hra).1
    · rw [List.mem_singleton] at hb
      subst hb
      rw [hk] at hrb; cases hrb
    · have hbc : b = c := by
        by_cases hz : lfX st.xs c ≤ pairN st.xs o c
        · rw [if_pos hz] at hb; cases hb
        · rw [if_neg hz, List.mem_singleton] at hb; exact hb
      rw [hbc]
      simp only [List.mem_append, List.mem_singleton] at ha
      rcases ha with (ha | ha) | ha
      · exact (bo a ha hra).2
      · have : a = o := by
          by_cases hz : lfX st.xs o ≤ pairN st.xs o c
          · rw [if_pos hz] at ha; cases ha
          · rw [if_neg hz, List.mem_singleton] at ha; exact ha
        omega
      · subst ha; rw [hk] at hra; cases hra
  · have hx0 : x ∈ st.ops j := popW_mem _ _ hx
    have hxl := popW_le _ _ (h.oas j) x hx
    have e1 : (elX (Pub.pairX ps st.xs o c) o).left = lfX st.xs o - pairN st.xs o c := hxo
    rw [e1] at hxl
    obtain ⟨m1, m2⟩ := h.ops j x hx0
    have hne : x ≠ st.xs.length := by have := hR.bd x m1; omega
    refine ⟨?_, by rw [(hcore x hne).1]; exact m2⟩
    simp only [List.mem_append, List.mem_cons, List.mem_singleton] at m1
    rcases m1 with m1 | m1 | m1 | m1
    · simp [m1]
    · subst m1
      by_cases hz : lfX st.xs x ≤ pairN st.xs x c
      · rw [if_pos (by omega)] at hxl
        have : 0 < x := by
          have hn := hR.nd
          rw [← List.cons_append, List.nodup_append] at hn
          have := hn.2.2 0 (by simp) x (by simp)
          omega
        omega
      · simp [hz]
    · exfalso
      have := a2 x (by simp [m1]) ho m2
      split at hxl <;> omega
    · have e : x = c := by simpa using m1
      rw [e] at hx0
      exact absurd hx0 (hno j)
  · rw [(hcore c (by omega)).1]; exact hc
  · exact (hcore c (by omega)).2.1
  · exact hlast
  · exact hlen

end
end Go.Pub
namespace Go.Pub
/-- Runs are runs of the pieces, not longer. -/
def RunB (ps : List PcT) (xs : List ElL) : Prop := ∀ x, runX xs x = true → pX xs x < ps.length ∧ runP (pcX ps (pX xs x)) = true ∧ (lfX xs x : Int) ≤ (pcX ps (pX xs x)).n
theorem core_mtch (ps : List PcT) (st : EmS) (o c j : Nat) (ho : o < st.xs.length) (hc : c < st.xs.length) (hne : o ≠ c) :
    core (mtchA ps st o c).xs j = if j = st.xs.length then (kidT (pairK ps st.xs o c) (betA ps st.xs o c), false, 0, 0) else ((elX st.xs j).t, runX st.xs j, pX st.xs j, if j = o ∨ j = c then lfX st.xs j - pairN st.xs o c else lfX st.xs j) := by
  show core (rmZ (rmZ (pairX ps st.xs o c) o) c) j = _
  rw [core_rmZ, core_rmZ, core_pairX ps st.xs o c j ho hc hne]
theorem core_mtch' {ps : List PcT} {st : EmS} {o c j : Nat} (ho : o < st.xs.length) (hc : c < st.xs.length) (hne : o ≠ c) (hj : j ≠ st.xs.length) :
    (elX (mtchA ps st o c).xs j).t = (elX st.xs j).t ∧ runX (mtchA ps st o c).xs j = runX st.xs j ∧ pX (mtchA ps st o c).xs j = pX st.xs j ∧ lfX (mtchA ps st o c).xs j = if j = o ∨ j = c then lfX st.xs j - pairN st.xs o c else lfX st.xs j := by
  have e := core_mtch ps st o c j ho hc hne
  rw [if_neg hj] at e
  unfold core at e
  injection e with e1 e2
  injection e2 with e2 e3
  injection e3 with e3 e4
  exact ⟨e1, e2, e3, e4⟩
theorem core_mtch0 {ps : List PcT} {st : EmS} {o c : Nat} (ho : o < st.xs.length) (hc : c < st.xs.length) (hne : o ≠ c) :
    (elX (mtchA ps st o c).xs st.xs.length).t = kidT (pairK ps st.xs o c) (betA ps st.xs o c) ∧ runX (mtchA ps st o c).xs st.xs.length = false := by
  have e := core_mtch ps st o c st.xs.length ho hc hne
  rw [if_pos rfl] at e
  unfold core at e
  injection e with e1 e2
  injection e2 with e2 e3
  exact ⟨e1, e2⟩
theorem RunB.mtch {ps : List PcT} {st : EmS} {o c : Nat} (h : RunB ps st.xs) (ho : o < st.xs.length) (hc : c < st.xs.length) (hne : o ≠ c) : RunB ps (mtchA ps st o c).xs := by
  intro x hx
  by_cases hj : x = st.xs.length
  · subst hj
    rw [(core_mtch0 ho hc hne).2] at hx; cases hx
  · obtain ⟨-, e2, e3, e4⟩ := core_mtch' (ps := ps) ho hc hne hj
    rw [e2] at hx
    obtain ⟨h1, h2, h3⟩ := h x hx
    rw [e3, e4]
    refine ⟨h1, h2, ?_⟩
    split
    · omega
    · exact h3
theorem core_ins' {xs : List ElL} {e : ElL} {k j : Nat} (hj : j ≠ xs.length) : (elX (insX xs e k) j).t = (elX xs j).t ∧ runX (insX xs e k) j = runX xs j ∧ pX (insX xs e k) j = pX xs j ∧ lfX (insX xs e k) j = lfX xs j := by
  have := core_ins xs e k j
  rw [if_neg hj] at this
  exact core_eq this
theorem core_ins0 {xs : List ElL} {e : ElL} {k : Nat} : (elX (insX xs e k) xs.length).t = e.t ∧ runX (insX xs e k) xs.length = e.run ∧ pX (insX xs e k) xs.length = e.pc ∧ lfX (insX xs e k) xs.length = e.left := by
  have hk := core_ins xs e k xs.length
  rw [if_pos rfl] at hk
  unfold core at hk
  injection hk with h1 h2
  injection h2 with h2 h3
  injection h3 with h3 h4
  exact ⟨h1, h2, h3, h4⟩
theorem RunB.ins {ps : List PcT} {xs : List ElL} {e : ElL} {k : Nat} (h : RunB ps xs) (he : e.run = true → e.pc < ps.length ∧ runP (pcX ps e.pc) = true ∧ (e.left : Int) ≤ (pcX ps e.pc).n) : RunB ps (insX xs e k) := by
  intro x hx
  by_cases hj : x = xs.length
  · subst hj
    obtain ⟨-, e2, e3, e4⟩ := core_ins0 (xs := xs) (e := e) (k := k)
    rw [e2] at hx
    rw [e3, e4]
    exact he hx
  · obtain ⟨-, e2, e3, e4⟩ := core_ins' (e := e) (k := k) hj
    rw [e2] at hx
    rw [e3, e4]
    exact h x hx
theorem runP_spec {p : PcT} (h : runP p = true) : p.kind = 1 ∧ 1 ≤ p.n ∧ p.n ≤ 262144 ∧ (p.ch.toList = [42] ∨ p.ch.toList = [95] ∨ p.ch.toList = [126]) ∧ (p.ch.toList = [126] → p.n = 2) := by
  unfold runP runBit at h
  simp only [Bool.and_eq_true, Bool.or_eq_true, decide_eq_true_eq] at h
  obtain ⟨h1, h2⟩ := h
  rcases h2 with ⟨h2 | h2, h3, h4⟩ | ⟨h2, h3⟩
  · exact ⟨h1, h3, h4, .inl h2, fun e => by rw [h2] at e; exact absurd e (by decide)⟩
  · exact ⟨h1, h3, h4, .inr (.inl h2), fun e => by rw [h2] at e; exact absurd e (by decide)⟩
  · exact ⟨h1, by omega, by omega, .inr (.inr h2), fun _ => h3⟩
theorem runP_size {p : PcT} (h : runP p = true) : p.ch.size = 1 := by
  have hl : p.ch.toList.length = p.ch.size := by rw [Lib.toList_data]; exact Array.length_toList
  obtain ⟨-, -, -, h4, -⟩ := runP_spec h
  rcases h4 with h4 | h4 | h4 <;> (rw [← hl, h4]; rfl)
/-- A closer, the last element, makes matches; L: the elements ahead of it. -/
structure ClI (ps : List PcT) (i c : Nat) (st : EmS) (L : List Nat) : Prop where
  em : EmI ps st (L ++ if lfX st.xs c = 0 then [] else [c])
  rb : RunB ps st.xs
  run : runX st.xs c = true
  pc : pX st.xs c = i
  lt : c < st.xs.length
  no : ∀ j, c ∉ st.ops j
def clO (ps : List PcT) (st : EmS) (c : Nat) : Nat := openA (pcX ps (pX st.xs c)) st.ops (bf st.xs c)
theorem openA_pr {P : PcT} {ops : Nat → List Nat} {pv : Nat} (h : openA P ops pv ≠ 0) : ∃ j, j < 6 ∧ skipK P j = false ∧ openA P ops pv ∈ ops (charNum P.ch * 6 + j) ∧ openA P ops pv ≠ pv := by
  rcases openerF_spec P ops pv 6 with h1 | h1
  · exact absurd h1 h
  · exact h1
theorem ClI.pair {ps : List PcT} {i c : Nat} {st : EmS} {L : List Nat} (h : ClI ps i c st L) (hl : lfX st.xs c ≠ 0) (hR : clO ps st c ≠ 0) :
    ∃ A B L', L = A ++ clO ps st c :: B ∧ B ≠ [] ∧ L' = A ++ (if lfX st.xs (clO ps st c) ≤ pairN st.xs (clO ps st c) c then [] else [clO ps st c]) ++ [st.xs.length] ∧ RingI st.xs (A ++ clO ps st c :: (B ++ [c])) ∧ runX st.xs (clO ps st c) = true ∧ 0 < lfX st.xs (clO ps st c) ∧ clO ps st c < st.xs.length ∧ clO ps st c ≠ c ∧
      ClI ps i c (mtchA ps st (clO ps st c) c) L' ∧ lfX (mtchA ps st (clO ps st c) c).xs c < lfX st.xs c ∧ (mtchA ps st (clO ps st c) c).xs.length = st.xs.length + 1 ∧ (mtchA ps st (clO ps st c) c).prs.length = st.prs.length + 1 := by
  have hem := h.em
  rw [if_neg hl] at hem
  obtain ⟨j, -, -, hj, hne⟩ := openA_pr hR
  obtain ⟨hin, hrun⟩ := hem.ops _ _ hj
  change clO ps st c ∈ _ at hin
  change runX st.xs (clO ps st c) = true at hrun
  change clO ps st c ∈ st.ops _ at hj
  change clO ps st c ≠ bf st.xs c at hne
  have hlt := hem.ring.bd _ hin
  generalize clO ps st c = R at *
  have hRc : R ≠ c := fun e => h.no _ (e ▸ hj)
  rw [List.mem_append, List.mem_singleton] at hin
  rcases hin with hin | hin
  · obtain ⟨A, B, rfl⟩ := List.append_of_mem hin
    rw [List.append_assoc, List.cons_append] at hem
    have hB : B ≠ [] := by
      rintro rfl
      have := (LinkL.app.1 (LinkL.app.1 hem.ring.link).2).1
      exact hne this.2.symm
    have hlR := (hem.run R (by simp) hrun).2
    obtain ⟨e1, e2, e3, e4, e5, e6, e7, e8⟩ := hem.pair hrun h.run h.no
    refine ⟨A, B, _, rfl, hB, rfl, hem.ring, hrun, hlR, hlt, hRc, ⟨?_, h.rb.mtch hlt h.lt hRc, e2, e3.trans h.pc, by rw [e8]; have := h.lt; omega, e7⟩, by omega, e8, ?_⟩
    · have : (if lfX (mtchA ps st R c).xs c = 0 then ([] : List Nat) else [c]) = if lfX st.xs c ≤ pairN st.xs R c then [] else [c] := by
        rw [e4]
        by_cases hz : lfX st.xs c ≤ pairN st.xs R c
        · rw [if_pos (by omega), if_pos hz]
        · rw [if_neg (by omega), if_neg hz]
      rw [this]; exact e1
    · show (st.prs ++ [_]).length = _
      simp
  · exact absurd hin hRc
theorem closeF_zero {ps : List PcT} {c f : Nat} {st : EmS} (h : lfX st.xs c = 0) : closeF ps c f st = st := by
  cases f with
  | zero => rfl
  | succ f => unfold closeF; rw [if_pos (show (elX st.xs c).left = 0 from h)]
theorem closeF_none {ps : List PcT} {c f : Nat} {st : EmS} (h : clO ps st c = 0) : closeF ps c f st = st := by
  cases f with
  | zero => rfl
  | succ f =>
    unfold closeF
    split
    · rfl
    · rw [if_pos (show openA (pcX ps (elX st.xs c).pc) st.ops (elX st.xs c).before = 0 from h)]
theorem closeF_some {ps : List PcT} {c f : Nat} {st : EmS} (hl : lfX st.xs c ≠ 0) (h : clO ps st c ≠ 0) : closeF ps c (f + 1) st = closeF ps c f (mtchA ps st (clO ps st c) c) := by
  conv => lhs; unfold closeF
  rw [if_neg (show ¬ (elX st.xs c).left = 0 from hl), if_neg (show ¬ openA (pcX ps (elX st.xs c).pc) st.ops (elX st.xs c).before = 0 from h)]
  rfl
/-- What is reached by a closer's matches has what each match keeps. -/
theorem closeF_ind {ps : List PcT} {i c : Nat} (P : EmS → List Nat → Prop) (hp : ∀ {st A B R}, ClI ps i c st (A ++ R :: B) → lfX st.xs c ≠ 0 → R = clO ps st c → R ≠ 0 → B ≠ [] → RingI st.xs (A ++ R :: (B ++ [c])) → runX st.xs R = true → 0 < lfX st.xs R → P st (A ++ R :: B) →
      P (mtchA ps st R c) (A ++ (if lfX st.xs R ≤ pairN st.xs R c then [] else [R]) ++ [st.xs.length])) :
    ∀ (f : Nat) (st : EmS) (L : List Nat), ClI ps i c st L → lfX st.xs c ≤ f → P st L → ∃ L', ClI ps i c (closeF ps c f st) L' ∧ P (closeF ps c f st) L' ∧ (lfX (closeF ps c f st).xs c = 0 ∨ clO ps (closeF ps c f st) c = 0)
  | 0, st, L, h, hf, hP => ⟨L, h, hP, .inl (by show lfX st.xs c = 0; omega)⟩
  | f + 1, st, L, h, hf, hP => by
    by_cases hl : lfX st.xs c = 0
    · rw [closeF_zero hl]; exact ⟨L, h, hP, .inl hl⟩
    · by_cases hR : clO ps st c = 0
      · rw [closeF_none hR]; exact ⟨L, h, hP, .inr hR⟩
      · obtain ⟨A, B, L', e1, hB, e2, h1, h2, h3, h4, h5, h6, h7, h8, h9⟩ := h.pair hl hR
        rw [closeF_some hl hR]
        subst e1
        refine closeF_ind P hp f _ L' h6 (by omega) ?_
        rw [e2]
        exact hp h hl rfl hR hB h1 h2 h3 hP
end Go.Pub
