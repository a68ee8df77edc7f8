import Derived.Test.YtpoafhgbhnblmaaGreatDoorF08
set_option linter.unusedVariables false
set_option linter.unusedSimpArgs false
set_option maxRecDepth 100000
set_option maxHeartbeats 20000000
namespace Go.Proofs.YtpoafhgbhnblmaaGreatDoor
open Go.Proofs.Tryz (prog)
open Go.RowKit
structure tu(w:World)(g base:Nat)(a:AttrL)(vC vP:Value):Prop where
 blk:ae w g 43 #[.string a.id,vC,vP]
 cls:w.ownsRow base 9 1 vC a.cl.length (strs a.cl)
 aH:w.ownsRow base 81 2 vP a.pr.length (aH a.pr)
 lt:g<base
 le:base≤w.heap.size
 c32:a.cl.length≤32
 p32:a.pr.length≤32
def iY(w:World)(g base:Nat)(a:AttrL):Prop:=∃vC vP,tu w g base a vC vP
theorem tu.below{w w':World}{g base:Nat}{a:AttrL}{vC vP:Value}(h:tu w g base a vC vP)(hb:Below w.heap.size w w'):tu w' g base a vC vP:=
 ⟨h.blk.below hb (by have:=h.lt;have:=h.le;omega),own_below h.cls hb,own_below h.aH hb,h.lt,aev h.le hb.size,h.c32,h.p32⟩
def lN(a:AttrL)(name:ByteArray):Nat:=if Lib.containsS a.cl name=true then 7 else if 32≤a.cl.length then 3 else 0
def mO(a:AttrL)(name:ByteArray):AttrL:=if lN a name=0 then {a with cl:=a.cl++[name]} else a
def E4(e0:Nat)(a':AttrL)(g base:Nat)(w:World)(e:Ending)(w':World):Prop:=e=.returned (.int .i64 e0)∧iY w' g base a'∧gp g base w w'
theorem O7:(prog.info? 9).map (fun i=>(i.zero,i.size,i.bytes))=some (some (.string ⟨#[]⟩),1,16):=by kernel_rfl
theorem O8:(prog.info? 81).map (fun i=>(i.zero,i.size,i.bytes))=some (some (.agg #[.string ⟨#[]⟩,.string ⟨#[]⟩]),2,32):=by kernel_rfl
theorem Xc{w1 w2:World}{g base:Nat}{a:AttrL}{vC vP v':Value}{name:ByteArray}(h:tu w1 g base a vC vP)
 (hown:w2.ownsRow base 9 1 v' (a.cl.length+1) (strs a.cl++[.string name])) (hg:(w1.alloc (.cells #[.string name] 9)).grownBy w2 vC.ownBlock) (hl:a.cl.length<32) :
 tu (w2.setCell ⟨g,1,none⟩ v') g base {a with cl:=a.cl++[name]} v' vP∧gp g base w1 (w2.setCell ⟨g,1,none⟩ v'):=by
 have xN:some g≠vC.ownBlock:=fun e=>by have:=(h.cls.lt g e.symm).1;have:=h.lt;omega
 refine⟨⟨?_,?_,?_,h.lt,?_,?_,h.p32⟩,?_⟩
 ·have:=((h.blk.alloc (.cells #[.string name] 9)).grown hg xN).bJ 1 v';simpa using this
 ·refine ownsRow_setCell_below ?_ h.lt _;show w2.ownsRow base 9 1 v' (a.cl++[name]).length (strs (a.cl++[name]));unfold strs at hown ⊢;rw[aey,List.map_append];exact hown
 ·exact ownsRow_setCell_below ((h.aH.alloc _).kept hg (own_ne h.aH h.cls (by decide))) h.lt _
 ·have:=hg.size;have:=h.le;simp[World.setCell] at *;omega
 ·simp;omega
 ·refine gp.store ?_ _ _;refine .of (((aer _ _).alloc h.le _).grown hg (by have:=h.le;simp;omega) (fun k hk=>(h.cls.lt k hk).1))
theorem Xd(w:World)(g base:Nat)(a:AttrL)(name:ByteArray)(h:iY w g base a) :
 Calls prog 231 #[.pointer (some ⟨g,0,none⟩),.string name] w (E4 (lN a name) (mO a name) g base w):=by
 obtain⟨vC,vP,hA⟩:=h;obtain⟨AC,cC,rfl⟩:=ay hA.cls;obtain⟨i0,hi0,hz0,hz1,hz2⟩:=info_parts O7;have HH:=aen (Xb a.id AC cC w.heap.size a.cl vP name w (aeo _) (Reads.of_own hA.cls) (by have:=hA.c32;omega));have hc0:w.cell? ⟨g,0,none⟩=some (.string a.id):=hA.blk.cell 0;have hc1:w.cell? ⟨g,1,none⟩=some (.slice AC a.cl.length cC):=hA.blk.cell 1;have hc2:w.cell? ⟨g,2,none⟩=some vP:=hA.blk.cell 2;have hgl:=hA.blk.lt;have HE:Hid (lN a name=if Lib.containsS a.cl name=true then 7 else if 32≤a.cl.length then 3 else 0):=aen rfl;have HA:Hid (mO a name=if lN a name=0 then {a with cl:=a.cl++[name]} else a):=aen rfl;generalize mO a name=A1 at *;generalize lN a name=E1 at *;generalize Lib.containsS a.cl name=R at *;cases R
 ·by_cases hl:32≤a.cl.length
  ·have hE:Hid (E1=3):=aen (by rw[HE.out,if_neg (by decide),if_pos hl]);go_enter Tryz.func231,Tryz.ntmps231;go_wp2_with fail;refine HH.out.mono ?_;rintro e w1 ⟨rfl,b1⟩;have k1:=(hA.below b1).blk.cell 1;simp at k1;go_wp2;go_ret;refine⟨by rw[hE.out];rfl,?_,.of (b1.mono hA.le)⟩;rw[HA.out,if_neg (by rw[hE.out];decide)];exact⟨_,_,hA.below b1⟩
  ·have hE:Hid (E1=0):=aen (by rw[HE.out,if_neg (by decide),if_neg hl]);have hl':a.cl.length<32:=by omega
   go_enter Tryz.func231,Tryz.ntmps231;go_wp2_with fail;refine HH.out.mono ?_;rintro e w1 ⟨rfl,b1⟩;have hA1:=hA.below b1;have k1:=hA1.blk.cell 1;simp at k1;have f1:=hA1.blk.frozen 1;have Jl:=hA1.blk.lt;go_wp2_with (at_builtin;refine wpList_append_own _ rfl _ _ 22 rfl base 9 i0 _ 1 16 Tryz.underlying22 hi0 hz0 hz1 hz2 rfl (by decide) _ _ _ rfl (hA1.cls.alloc _) ⟨w1.heap.size,0,none⟩ 1 1 [.string name] rfl rfl ?c1 ?c2 ?c3 ?c4 ?c5 ?_);case c1=>
    intro j u hj;match j,hj with
    |0,hj=>simp at hj;subst hj;simp[Addr.add]
   case c2=>intro u hu;simp at hu;subst hu;rfl
   case c3=>unfold maxLen;omega
   case c4=>omega
   case c5=>have:=hA1.le;simp;omega
   intro v' w2 hown2 hgrow _;obtain⟨A2,c2,rfl⟩:=ay hown2;obtain⟨hd1,hd2⟩:=Xc hA1 hown2 hgrow hl';have xN:some g≠(Value.slice AC a.cl.length cC).ownBlock:=fun e=>by have:=(hA1.cls.lt g e.symm).1;have:=hA1.lt;omega
   have hb2:=(hA1.blk.alloc (.cells #[.string name] 9)).grown hgrow xN;have k2:=hb2.cell 1;simp at k2;have f2:=hb2.frozen 1;go_wp2;go_ret;refine⟨by rw[hE.out];rfl,?_,(gp.of (b1.mono hA.le)).trans hd2⟩;rw[HA.out,if_pos hE.out];exact⟨_,_,hd1⟩
 ·have hE:Hid (E1=7):=aen (by rw[HE.out,if_pos rfl]);go_enter Tryz.func231,Tryz.ntmps231;go_wp2_with fail;refine HH.out.mono ?_;rintro e w1 ⟨rfl,b1⟩;go_wp2;go_ret;refine⟨by rw[hE.out];rfl,?_,.of (b1.mono hA.le)⟩;rw[HA.out,if_neg (by rw[hE.out];decide)];exact⟨_,_,hA.below b1⟩
def oO(a:AttrL)(key:ByteArray):Nat:=if oN a.pr key=true then 7 else if 32≤a.pr.length then 3 else 0
def qh(a:AttrL)(key val:ByteArray):AttrL:=if oO a key=0 then {a with pr:=a.pr++[(key,val)]} else a
theorem Xe{w1 w2:World}{g base:Nat}{a:AttrL}{vC vP v':Value}{key val:ByteArray}(h:tu w1 g base a vC vP)
 (hown:w2.ownsRow base 81 2 v' (a.pr.length+1) (aH a.pr++[.string key,.string val])) (hg:(w1.alloc (.cells #[.string key,.string val] 81)).grownBy w2 vP.ownBlock) (hl:a.pr.length<32) :
 tu (w2.setCell ⟨g,2,none⟩ v') g base {a with pr:=a.pr++[(key,val)]} vC v'∧gp g base w1 (w2.setCell ⟨g,2,none⟩ v'):=by
 have xN:some g≠vP.ownBlock:=fun e=>by have:=(h.aH.lt g e.symm).1;have:=h.lt;omega
 refine⟨⟨?_,?_,?_,h.lt,?_,h.c32,?_⟩,?_⟩
 ·have:=((h.blk.alloc (.cells #[.string key,.string val] 81)).grown hg xN).bJ 2 v';simpa using this
 ·exact ownsRow_setCell_below ((h.cls.alloc _).kept hg (own_ne h.cls h.aH (by decide))) h.lt _
 ·refine ownsRow_setCell_below ?_ h.lt _;show w2.ownsRow base 81 2 v' (a.pr++[(key,val)]).length (aH (a.pr++[(key,val)]));unfold aH at hown ⊢;rw[aey,List.flatMap_append];exact hown
 ·have:=hg.size;have:=h.le;simp[World.setCell] at *;omega
 ·simp;omega
 ·refine gp.store ?_ _ _;refine .of (((aer _ _).alloc h.le _).grown hg (by have:=h.le;simp;omega) (fun k hk=>(h.aH.lt k hk).1))
theorem Xf(w:World)(g base:Nat)(a:AttrL)(key val:ByteArray)(h:iY w g base a) :
 Calls prog 233 #[.pointer (some ⟨g,0,none⟩),.string key,.string val] w (E4 (oO a key) (qh a key val) g base w):=by
 obtain⟨vC,vP,hA⟩:=h;obtain⟨AC,cC,rfl⟩:=ay hA.aH;obtain⟨i0,hi0,hz0,hz1,hz2⟩:=info_parts O8;have HH:=aen (get_any a.id AC cC w.heap.size a.pr vC key w (aeo _) (Reads.of_own hA.aH) (by have:=hA.p32;omega));have hc0:w.cell? ⟨g,0,none⟩=some (.string a.id):=hA.blk.cell 0;have hc1:w.cell? ⟨g,1,none⟩=some vC:=hA.blk.cell 1;have hc2:w.cell? ⟨g,2,none⟩=some (.slice AC a.pr.length cC):=hA.blk.cell 2;have hgl:=hA.blk.lt;have HE:Hid (oO a key=if oN a.pr key=true then 7 else if 32≤a.pr.length then 3 else 0):=aen rfl;have HA:Hid (qh a key val=if oO a key=0 then {a with pr:=a.pr++[(key,val)]} else a):=aen rfl;have HK:Hid (oN a.pr key=(kE a.pr key).isSome):=aen rfl;have HG:Hid (∀e w',GetPost a.pr key w e w'→e=.returned (.tuple #[.string ((kE a.pr key).getD ⟨#[]⟩),.bool (kE a.pr key).isSome])∧Below w.heap.size w w'):=aen fun e w' h=>h;generalize qh a key val=A1 at *;generalize oO a key=E1 at *;generalize oN a.pr key=R at *;generalize kE a.pr key=G at *;cases G with
 |none=>
  obtain rfl:R=false:=HK.out;by_cases hl:32≤a.pr.length
  ·have hE:Hid (E1=3):=aen (by rw[HE.out,if_neg (by decide),if_pos hl]);go_enter Tryz.func233,Tryz.ntmps233;go_wp2_with fail;refine HH.out.mono ?_;intro e w1 hpost;obtain⟨rfl,b1⟩:=HG.out _ _ hpost;clear hpost;have k1:=(hA.below b1).blk.cell 2;simp at k1;go_wp2;go_ret;refine⟨by rw[hE.out];rfl,?_,.of (b1.mono hA.le)⟩;rw[HA.out,if_neg (by rw[hE.out];decide)];exact⟨_,_,hA.below b1⟩
  ·have hE:Hid (E1=0):=aen (by rw[HE.out,if_neg (by decide),if_neg hl]);have hl':a.pr.length<32:=by omega
   go_enter Tryz.func233,Tryz.ntmps233;go_wp2_with fail;refine HH.out.mono ?_;intro e w1 hpost;obtain⟨rfl,b1⟩:=HG.out _ _ hpost;clear hpost;have hA1:=hA.below b1;have k1:=hA1.blk.cell 2;simp at k1;have f1:=hA1.blk.frozen 2;have Jl:=hA1.blk.lt;go_wp2_with (at_builtin;refine wpList_append_own _ rfl _ _ 41 rfl base 81 i0 _ 2 32 Tryz.underlying41 hi0 hz0 hz1 hz2 rfl (by decide) _ _ _ rfl (hA1.aH.alloc _) ⟨w1.heap.size,0,none⟩ 1 1 [.string key,.string val] rfl rfl ?c1 ?c2 ?c3 ?c4 ?c5 ?_);case c1=>
    intro j u hj;match j,hj with
    |0,hj=>simp at hj;subst hj;simp[Addr.add]
    |1,hj=>simp at hj;subst hj;simp[Addr.add]
   case c2=>intro u hu;simp at hu;rcases hu with rfl|rfl <;> rfl
   case c3=>unfold maxLen;omega
   case c4=>omega
   case c5=>have:=hA1.le;simp;omega
   intro v' w2 hown2 hgrow _;obtain⟨A2,c2,rfl⟩:=ay hown2;obtain⟨hd1,hd2⟩:=Xe hA1 hown2 hgrow hl';have xN:some g≠(Value.slice AC a.pr.length cC).ownBlock:=fun e=>by have:=(hA1.aH.lt g e.symm).1;have:=hA1.lt;omega
   have hb2:=(hA1.blk.alloc (.cells #[.string key,.string val] 81)).grown hgrow xN;have k2:=hb2.cell 2;simp at k2;have f2:=hb2.frozen 2;go_wp2;go_ret;refine⟨by rw[hE.out];rfl,?_,(gp.of (b1.mono hA.le)).trans hd2⟩;rw[HA.out,if_pos hE.out];exact⟨_,_,hd1⟩
 |some y=>
  obtain rfl:R=true:=HK.out;have hE:Hid (E1=7):=aen (by rw[HE.out,if_pos rfl]);go_enter Tryz.func233,Tryz.ntmps233;go_wp2_with fail;refine HH.out.mono ?_;intro e w1 hpost;obtain⟨rfl,b1⟩:=HG.out _ _ hpost;clear hpost;go_wp2;go_ret;refine⟨by rw[hE.out];rfl,?_,.of (b1.mono hA.le)⟩;rw[HA.out,if_neg (by rw[hE.out];decide)];exact⟨_,_,hA.below b1⟩
def dM(s:ByteArray)(i:Nat):ByteArray × Nat × Bool:=if i<s.size∧bt s i=34 then valOf (qv s s.size (i+1) []) else uZ s i
theorem Xg(s:ByteArray)(i:Nat)(w:World)(hs:s.size≤1000000)(hi:i≤s.size):Calls prog 232 #[.string s,.int .i64 i] w (uX (dM s i) w):=by
 unfold dM;by_cases h:i<s.size∧bt s i=34
 ·rw[if_pos h];exact WS s i w hs h.1 h.2
 ·rw[if_neg h];exact WU s i w hs hi h
theorem Xh(s:ByteArray)(i:Nat)(w:World)(hs:s.size≤1000000)(hi:i≤s.size):Calls prog 261 #[.string s,.int .i64 i] w (uX (qU (dM s i)) w):=by
 unfold dM;by_cases h:i<s.size∧bt s i=34
 ·rw[if_pos h];exact WY s i w hs h.1 h.2
 ·rw[if_neg h];exact WV s i w hs hi h
def nameAt(s:ByteArray)(i:Nat):ByteArray:=s.extract i (wordAt s i)
def qV(a:AttrL)(s:ByteArray)(name:ByteArray)(t:Nat):Nat × Nat × AttrL:=
 if t<s.size∧bt s t=61 then (if (dM s (t+1)).2.2=true then ((dM s (t+1)).2.1,oO a name,qh a name (dM s (t+1)).1) else (0,5,a)) else (0,5,a)
def bG(a:AttrL)(s:ByteArray)(i:Nat):Nat × Nat × AttrL:=
 if bt s i=35 then (if nameB (nameAt s (i+1))=true then (if a.id=⟨#[]⟩ then (wordAt s (i+1),0,{a with id:=nameAt s (i+1)}) else (0,7,a)) else (0,5,a))
 else if bt s i=46 then (if nameB (nameAt s (i+1))=true then (wordAt s (i+1),lN a (nameAt s (i+1)),mO a (nameAt s (i+1))) else (0,5,a))
 else if nameB (nameAt s i)=true then qV a s (nameAt s i) (wordAt s i) else (0,5,a)
def E5(r:Nat × Nat × AttrL)(g base:Nat)(w:World)(e:Ending)(w':World):Prop:=
 e=.returned (.tuple #[.int .i64 r.1,.int .i64 r.2.1])∧iY w' g base r.2.2∧gp g base w w'
theorem iY.below{w w':World}{g base:Nat}{a:AttrL}(h:iY w g base a)(hb:Below w.heap.size w w'):iY w' g base a:=by
 obtain⟨vC,vP,h⟩:=h;exact⟨vC,vP,h.below hb⟩
theorem iY.le{w:World}{g base:Nat}{a:AttrL}(h:iY w g base a):base≤w.heap.size:=by
 obtain⟨vC,vP,h⟩:=h;exact h.le
theorem iY.Jm{w:World}{g base:Nat}{a:AttrL}(h:iY w g base a)(x:ByteArray):iY (w.setCell ⟨g,0,none⟩ (.string x)) g base {a with id:=x}:=by
 obtain⟨vC,vP,h⟩:=h;refine⟨vC,vP,?_,ownsRow_setCell_below h.cls h.lt _,ownsRow_setCell_below h.aH h.lt _,h.lt,by simpa [World.setCell] using h.le,h.c32,h.p32⟩;have:=h.blk.bJ 0 (.string x);simpa using this
theorem toList_nil:(⟨#[]⟩:ByteArray).toList=[]:=by
 unfold ByteArray.toList ByteArray.toList.loop;rfl
theorem E6(a:ByteArray):a.toList=[]↔a=⟨#[]⟩:=by
 rw[←Lib.bytes_beq_iff,toList_nil,beq_iff_eq]
theorem wL(i:Nat):((i+1:Nat):Int)=(i:Int)+1:=by omega
theorem Xi(w:World)(g base:Nat)(a:AttrL)(s:ByteArray)(i:Nat)(h:iY w g base a)(hs:s.size≤1000000)(hi:i<s.size)(hb:bt s i=35) :
 Calls prog 204 #[.pointer (some ⟨g,0,none⟩),.string s,.int .i64 i] w (E5 (bG a s i) g base w):=by
 have HI:Hid (bG a s i=(if nameB (nameAt s (i+1))=true then (if a.id=⟨#[]⟩ then (wordAt s (i+1),0,{a with id:=nameAt s (i+1)}) else (0,7,a)) else (0,5,a))):=aen (by unfold bG;rw[if_pos hb]);have hlt:((s[i].toNat:Nat):Int)<256:=by rw[get_bt s i hi];omega
 have z1:(((s[i].toNat:Nat):Int)==35)=true:=by rw[get_bt s i hi,hb];rfl
 clear hb;have hwb:=pZ s (s.size - (i+1)) (i+1);have hw1:i+1≤wordAt s (i+1):=hwb.1;have hw2:wordAt s (i+1)≤s.size:=hwb.2 hi;clear hwb;have HW:Hid (∀W,Calls prog 97 #[.string s,.int .i64 ((i:Int)+1)] W fun e w'=>e=.returned (.int .i64 (wordAt s (i+1)))∧W=w'):=aen fun W=>by rw[←wL];exact BN s (i+1) W (by omega)
 have HN:Hid (∀W,Calls prog 51 #[.string (s.extract (i+1) (wordAt s (i+1)))] W fun e w'=>e=.returned (.bool (nameB (nameAt s (i+1))))∧W=w'):=aen fun W=>name_any _ W (by rw[extract_size s _ _ hw1 hw2];omega);have BX:Hid (nameAt s (i+1)=s.extract (i+1) (wordAt s (i+1))):=aen rfl;have HA:=aen h;obtain⟨vC,vP,hA⟩:=h;have hc0:w.cell? ⟨g,0,none⟩=some (.string a.id):=hA.blk.cell 0;have hf0:=hA.blk.frozen 0;clear hA;generalize bG a s i=T at *;generalize nameB (nameAt s (i+1))=nb at *;generalize nameAt s (i+1)=na at *;generalize wordAt s (i+1)=t at *;cases nb
 ·go_enter Tryz.func204,Tryz.ntmps204;go_wp2_with fail;with_reducible refine(HW.out _).mono ?_
  rintro e w1 ⟨rfl,rfl⟩;go_wp2_with fail;with_reducible refine(HN.out _).mono ?_
  rintro e w1 ⟨rfl,rfl⟩;go_wp2_with fail;go_ret2;rw[HI.out];exact⟨rfl,HA.out,.refl⟩
 ·by_cases hid:a.id=⟨#[]⟩
  ·have hT:Hid (T=(t,0,{a with id:=na})):=aen (by rw[HI.out,if_pos rfl,if_pos hid]);have y1:a.id.toList=[]:=(E6 _).2 hid;have y2:a.id.toList.isEmpty=true:=by rw[y1];rfl
   clear hid;go_enter Tryz.func204,Tryz.ntmps204;go_wp2_with fail;with_reducible refine(HW.out _).mono ?_
   rintro e w1 ⟨rfl,rfl⟩;go_wp2_with fail;with_reducible refine(HN.out _).mono ?_
   rintro e w1 ⟨rfl,rfl⟩;go_wp2_with fail;go_ret2;rw[hT.out,BX.out];exact⟨rfl,HA.out.Jm _,gp.refl.store _ _⟩
  ·have hT:Hid (T=(0,7,a)):=aen (by rw[HI.out,if_pos rfl,if_neg hid]);have y1:¬a.id.toList=[]:=fun e=>hid ((E6 _).1 e);have y2:a.id.toList.isEmpty=false:=by rw[List.isEmpty_eq_false_iff];exact y1
   clear hid;go_enter Tryz.func204,Tryz.ntmps204;go_wp2_with fail;with_reducible refine(HW.out _).mono ?_
   rintro e w1 ⟨rfl,rfl⟩;go_wp2_with fail;with_reducible refine(HN.out _).mono ?_
   rintro e w1 ⟨rfl,rfl⟩;go_wp2_with fail;go_ret2;rw[hT.out];exact⟨rfl,HA.out,.refl⟩
theorem Xj(w:World)(g base:Nat)(a:AttrL)(s:ByteArray)(i:Nat)(h:iY w g base a)(hs:s.size≤1000000)(hi:i<s.size)(hb:bt s i=46) :
 Calls prog 204 #[.pointer (some ⟨g,0,none⟩),.string s,.int .i64 i] w (E5 (bG a s i) g base w):=by
 have HI:Hid (bG a s i=(if nameB (nameAt s (i+1))=true then (wordAt s (i+1),lN a (nameAt s (i+1)),mO a (nameAt s (i+1))) else (0,5,a))):=aen (by unfold bG;rw[if_neg (by omega),if_pos hb]);have hlt:((s[i].toNat:Nat):Int)<256:=by rw[get_bt s i hi];omega
 have z1:(((s[i].toNat:Nat):Int)==35)=false:=by rw[get_bt s i hi,hb];rfl
 have z2:(((s[i].toNat:Nat):Int)==46)=true:=by rw[get_bt s i hi,hb];rfl
 clear hb;have hwb:=pZ s (s.size - (i+1)) (i+1);have hw1:i+1≤wordAt s (i+1):=hwb.1;have hw2:wordAt s (i+1)≤s.size:=hwb.2 hi;clear hwb;have HW:Hid (∀W,Calls prog 97 #[.string s,.int .i64 ((i:Int)+1)] W fun e w'=>e=.returned (.int .i64 (wordAt s (i+1)))∧W=w'):=aen fun W=>by rw[←wL];exact BN s (i+1) W (by omega)
 have HN:Hid (∀W,Calls prog 51 #[.string (s.extract (i+1) (wordAt s (i+1)))] W fun e w'=>e=.returned (.bool (nameB (nameAt s (i+1))))∧W=w'):=aen fun W=>name_any _ W (by rw[extract_size s _ _ hw1 hw2];omega);have HC:Hid (Calls prog 231 #[.pointer (some ⟨g,0,none⟩),.string (s.extract (i+1) (wordAt s (i+1)))] w (E4 (lN a (nameAt s (i+1))) (mO a (nameAt s (i+1))) g base w)):=aen (Xd w g base a (nameAt s (i+1)) h);have HA:=aen h;clear h;generalize bG a s i=T at *;generalize nameB (nameAt s (i+1))=nb at *;generalize lN a (nameAt s (i+1))=E1 at *;generalize mO a (nameAt s (i+1))=A1 at *;generalize wordAt s (i+1)=t at *;cases nb
 ·go_enter Tryz.func204,Tryz.ntmps204;go_wp2_with fail;with_reducible refine(HW.out _).mono ?_
  rintro e w1 ⟨rfl,rfl⟩;go_wp2_with fail;with_reducible refine(HN.out _).mono ?_
  rintro e w1 ⟨rfl,rfl⟩;go_wp2_with fail;go_ret2;rw[HI.out];exact⟨rfl,HA.out,.refl⟩
 ·go_enter Tryz.func204,Tryz.ntmps204;go_wp2_with fail;with_reducible refine(HW.out _).mono ?_
  rintro e w1 ⟨rfl,rfl⟩;go_wp2_with fail;with_reducible refine(HN.out _).mono ?_
  rintro e w1 ⟨rfl,rfl⟩;go_wp2_with fail;with_reducible refine HC.out.mono ?_
  rintro e w1 ⟨rfl,hA1,hb1⟩;go_wp2_with fail;go_ret2;rw[HI.out];exact⟨rfl,hA1,hb1⟩
theorem Xk(w:World)(g base:Nat)(a:AttrL)(s:ByteArray)(i:Nat)(h:iY w g base a)(hs:s.size≤1000000)(hi:i<s.size)(hb1:bt s i≠35)(hb2:bt s i≠46) :
 Calls prog 204 #[.pointer (some ⟨g,0,none⟩),.string s,.int .i64 i] w (E5 (bG a s i) g base w):=by
 have HI:Hid (bG a s i=if nameB (nameAt s i)=true then qV a s (nameAt s i) (wordAt s i) else (0,5,a)):=aen (by unfold bG;rw[if_neg hb1,if_neg hb2]);have hlt:((s[i].toNat:Nat):Int)<256:=by rw[get_bt s i hi];have:=aK s i;omega
 have z1:(((s[i].toNat:Nat):Int)==35)=false:=by rw[get_bt s i hi,aes];omega
 have z2:(((s[i].toNat:Nat):Int)==46)=false:=by rw[get_bt s i hi,aes];omega
 clear hb1 hb2;have hwb:=pZ s (s.size - i) i;have hw1:i≤wordAt s i:=hwb.1;have hw2:wordAt s i≤s.size:=hwb.2 (by omega);clear hwb;have HW:=aen (fun W=>BN s i W (by omega));have HN:Hid (∀W,Calls prog 51 #[.string (s.extract i (wordAt s i))] W fun e w'=>e=.returned (.bool (nameB (nameAt s i)))∧W=w'):=aen fun W=>name_any _ W (by rw[extract_size s _ _ hw1 hw2];omega);have HP:Hid (∀v W,iY W g base a→Calls prog 233 #[.pointer (some ⟨g,0,none⟩),.string (s.extract i (wordAt s i)),.string v] W (E4 (oO a (nameAt s i)) (qh a (nameAt s i) v) g base W)):=aen fun v W h=>Xf W g base a (nameAt s i) v h;have xO:Hid (qV a s (nameAt s i) (wordAt s i)=if wordAt s i<s.size∧bt s (wordAt s i)=61 then (if (dM s (wordAt s i+1)).2.2=true then ((dM s (wordAt s i+1)).2.1,oO a (nameAt s i),qh a (nameAt s i) (dM s (wordAt s i+1)).1) else (0,5,a)) else (0,5,a)):=aen rfl;have HA:=aen h;clear h;generalize qV a s (nameAt s i) (wordAt s i)=PI at *;generalize bG a s i=T at *;generalize nameB (nameAt s i)=nb at *;generalize oO a (nameAt s i)=E1 at *;generalize qh a (nameAt s i)=A1 at *;generalize wordAt s i=t at *;cases nb
 ·go_enter Tryz.func204,Tryz.ntmps204;go_wp2_with fail;with_reducible refine(HW.out _).mono ?_
  rintro e w1 ⟨rfl,rfl⟩;go_wp2_with fail;with_reducible refine(HN.out _).mono ?_
  rintro e w1 ⟨rfl,rfl⟩;go_wp2_with fail;go_ret2;rw[HI.out];exact⟨rfl,HA.out,.refl⟩
 ·by_cases ht:t<s.size
  ·have htl:((s[t].toNat:Nat):Int)<256:=by rw[get_bt s t ht];have:=aK s t;omega
   by_cases qW:bt s t=61
   ·have z3:(((s[t].toNat:Nat):Int) != 61)=false:=by rw[get_bt s t ht,qW];rfl
    have hT:Hid (T=if (dM s (t+1)).2.2=true then ((dM s (t+1)).2.1,E1,A1 (dM s (t+1)).1) else (0,5,a)):=aen (by rw[HI.out,if_pos rfl,xO.out,if_pos ⟨ht,qW⟩]);have d1:decide (s.size≤t)=false:=aep (by omega);clear qW;have HV:Hid (∀W,Calls prog 232 #[.string s,.int .i64 ((t:Int)+1)] W (uX (dM s (t+1)) W)):=aen fun W=>by rw[←wL];exact Xg s (t+1) W hs (by omega)
    generalize dM s (t+1)=V at *;obtain⟨v,t2,ok⟩:=V;cases ok
    ·go_enter Tryz.func204,Tryz.ntmps204;go_wp2_with fail;with_reducible refine(HW.out _).mono ?_
     rintro e w1 ⟨rfl,rfl⟩;go_wp2_with fail;with_reducible refine(HN.out _).mono ?_
     rintro e w1 ⟨rfl,rfl⟩;go_wp2_with fail;with_reducible refine(HV.out _).mono ?_
     rintro e w1 ⟨rfl,b1⟩;go_wp2_with fail;go_ret2;rw[hT.out];exact⟨rfl,HA.out.below b1,.of (b1.mono HA.out.le)⟩
    ·go_enter Tryz.func204,Tryz.ntmps204;go_wp2_with fail;with_reducible refine(HW.out _).mono ?_
     rintro e w1 ⟨rfl,rfl⟩;go_wp2_with fail;with_reducible refine(HN.out _).mono ?_
     rintro e w1 ⟨rfl,rfl⟩;go_wp2_with fail;with_reducible refine(HV.out _).mono ?_
     rintro e w1 ⟨rfl,b1⟩;go_wp2_with fail;with_reducible refine(HP.out _ _ (HA.out.below b1)).mono ?_
     rintro e w2 ⟨rfl,hA1,hb1⟩;go_wp2_with fail;go_ret2;rw[hT.out];exact⟨rfl,hA1,(gp.of (b1.mono HA.out.le)).trans hb1⟩
   ·have z3:(((s[t].toNat:Nat):Int) != 61)=true:=by rw[get_bt s t ht];simp;omega
    have d1:decide (s.size≤t)=false:=aep (by omega);have hT:Hid (T=(0,5,a)):=aen (by rw[HI.out,if_pos rfl,xO.out,if_neg (fun h=>qW h.2)]);clear qW;go_enter Tryz.func204,Tryz.ntmps204;go_wp2_with fail;with_reducible refine(HW.out _).mono ?_
    rintro e w1 ⟨rfl,rfl⟩;go_wp2_with fail;with_reducible refine(HN.out _).mono ?_
    rintro e w1 ⟨rfl,rfl⟩;go_wp2_with fail;go_ret2;rw[hT.out];exact⟨rfl,HA.out,.refl⟩
  ·have d1:decide (s.size≤t)=true:=aeq (by omega);have hT:Hid (T=(0,5,a)):=aen (by rw[HI.out,if_pos rfl,xO.out,if_neg (fun h=>ht h.1)]);go_enter Tryz.func204,Tryz.ntmps204;go_wp2_with fail;with_reducible refine(HW.out _).mono ?_
   rintro e w1 ⟨rfl,rfl⟩;go_wp2_with fail;with_reducible refine(HN.out _).mono ?_
   rintro e w1 ⟨rfl,rfl⟩;go_wp2_with fail;go_ret2;rw[hT.out];exact⟨rfl,HA.out,.refl⟩
theorem Xl(w:World)(g base:Nat)(a:AttrL)(s:ByteArray)(i:Nat)(h:iY w g base a)(hs:s.size≤1000000)(hi:i<s.size) :
 Calls prog 204 #[.pointer (some ⟨g,0,none⟩),.string s,.int .i64 i] w (E5 (bG a s i) g base w):=by
 by_cases h1:bt s i=35
 ·exact Xi w g base a s i h hs hi h1
 ·by_cases h2:bt s i=46
  ·exact Xj w g base a s i h hs hi h2
  ·exact Xk w g base a s i h hs hi h1 h2
def gq(s:ByteArray):Nat→Nat→Nat
 |0,i=>i
 |f+1,i=>if i<s.size∧bt s i=32 then gq s f (i+1) else i
def bW(s:ByteArray)(i:Nat):Nat:=gq s (s.size - i) i
theorem O9(s:ByteArray)(f i:Nat)(h:i<s.size)(hp:bt s i=32)(hf:s.size - i≤f):gq s f i=gq s (f - 1) (i+1):=by
 obtain⟨g,rfl⟩:∃g,f=g+1:=⟨f - 1,by omega⟩;simp[gq,h,hp]
theorem zY(s:ByteArray)(f i:Nat)(h:¬(i<s.size∧bt s i=32)):gq s f i=i:=by
 cases f with
 |zero=>rfl
 |succ f=>simp only[gq];rw[if_neg h]
theorem xP(s:ByteArray):∀f i,i≤gq s f i∧(i≤s.size→gq s f i≤s.size)
 |0,i=>⟨aeo _,fun h=>h⟩
 |f+1,i=>by
  unfold gq;split
  ·rename_i h;have:=xP s f (i+1);exact⟨by omega,fun _=>this.2 (by omega)⟩
  ·exact⟨aeo _,fun h=>h⟩
def cellNat(w:World)(g:Nat):Nat:=(intOf ((w.cell? ⟨g,0,none⟩).getD undef)).toNat
theorem E7{w:World}{g:Nat}{t:TypeId}{i:Int}(h:ae w g t #[.int .i64 i]):cellNat w g=i.toNat:=by
 unfold cellNat;rw[h.cell 0];rfl
theorem vg(w:World)(r:Option Nat):w.grownBy w r:=⟨rfl,rfl,rfl,aeo _,fun _ _ _=>rfl⟩
theorem jo{a w:World}{g:Nat}(h:a.grownBy w (some g))(i:Nat)(u:Value):a.grownBy (w.setCell ⟨g,i,none⟩ u) (some g):=
 ⟨h.os,h.tape,h.output,by simpa [World.setCell] using h.size,fun k hk hne=>(Below.heap_setCell w _ u k (by rintro rfl;exact hne rfl)).trans (h.block k hk hne)⟩
def Pe(s:ByteArray)(k g:Nat)(w:World)(e:Ending)(w':World):Prop:=
 e=.returned (.bool (decide (k<bW s k)))∧ae w' g 3 #[.int .i64 (bW s k)]∧w.grownBy w' (some g)
theorem Pg(w:World)(s:ByteArray)(k gs ga:Nat)(hs:s.size≤1000000)(h1:ae w gs 9 #[.string s])(h2:ae w ga 3 #[.int .i64 k])(hne:gs≠ga)(hk:k≤s.size) :
 Calls prog 202 #[.pointer (some ⟨ga,0,none⟩),.pointer (some ⟨gs,0,none⟩)] w (Pe s k ga w):=by
 have HW:Hid (gq s (s.size - k) k=bW s k):=aen rfl;have HP:Hid (∀e w',e=.returned (.bool (decide (k<bW s k)))∧ae w' ga 3 #[.int .i64 (bW s k)]∧w.grownBy w' (some ga)→Pe s k ga w e w'):=aen fun e w' h=>h;have H1:=aen h1;have H2:=aen h2;have hc1:w.cell? ⟨gs,0,none⟩=some (.string s):=h1.cell 0;have hc2:w.cell? ⟨ga,0,none⟩=some (.int .i64 k):=h2.cell 0;clear h1 h2;generalize bW s k=R at *;go_enter Tryz.func202,Tryz.ntmps202;go_wp2;clear hc1 hc2;go_loopw [5] (fun _ wr=>∃i f:Nat,Hid (ae wr gs 9 #[.string s])∧Hid (ae wr ga 3 #[.int .i64 i])∧Hid (w.grownBy wr (some ga))∧Hid (gq s f i=R)∧s.size - i≤f∧k≤i∧i≤s.size) (fun _ wr=>s.size - (cellNat wr ga));case atStart=>exact⟨k,s.size - k,H1,H2,aen (vg _ _),HW,aeo _,aeo _,hk⟩
 case round=>
  obtain⟨i,f,K1,K2,K3,K4,hf,hki,his⟩:=hrel;have hc1:wr.cell? ⟨gs,0,none⟩=some (.string s):=K1.out.cell 0;have hc2:wr.cell? ⟨ga,0,none⟩=some (.int .i64 i):=K2.out.cell 0;have hf2:=K2.out.frozen 0;by_cases hi:i<s.size
  ·have hlt:((s[i].toNat:Nat):Int)<256:=by rw[get_bt s i hi];have:=aK s i;omega
   by_cases hb:bt s i=32
   ·have z1:(((s[i].toNat:Nat):Int)==32)=true:=by rw[get_bt s i hi,hb];rfl
    have hst:=aen (O9 s f i hi hb hf);clear hb;go_wp2;go_roundw;case rel=>
     refine⟨i+1,f - 1,aen (K1.out.far (by omega) _),aen ?_,aen (jo K3.out _ _),aen (by rw[←K4.out,hst.out]),by omega,by omega,by omega⟩;have:=K2.out.bJ 0 (.int .i64 ((i:Int)+1));simpa using this
    case measure=>
     have e1:=E7 K2.out;have e2:cellNat (wr.setCell ⟨ga,0,none⟩ (.int .i64 ((i:Int)+1))) ga=((i:Int)+1).toNat:=E7 (t:=3) (by have:=K2.out.bJ 0 (.int .i64 ((i:Int)+1));simpa using this);rw[e1,e2];omega
   ·have z1:(((s[i].toNat:Nat):Int)==32)=false:=by rw[get_bt s i hi,aes];omega
    have hR:Hid (R=i):=aen (by rw[←K4.out,zY s f i (fun h=>hb h.2)]);clear hb;go_wp2;go_ret;refine HP.out _ _ ⟨?_,?_,K3.out⟩
    ·rw[hR.out];refine aJ ?_;rw[Bool.eq_iff_iff];try simp
    ·rw[hR.out];exact K2.out
  ·have hR:Hid (R=i):=aen (by rw[←K4.out,zY s f i (fun h=>hi h.1)]);go_wp2;go_ret;refine HP.out _ _ ⟨?_,?_,K3.out⟩
   ·rw[hR.out];refine aJ ?_;rw[Bool.eq_iff_iff];try simp
   ·rw[hR.out];exact K2.out
def Xm(r:Nat × Nat × AttrL)(g ga base:Nat)(w:World)(e:Ending)(w':World):Prop:=
 e=.returned (.int .i64 r.2.1)∧∃w1,w'=w1.setCell ⟨ga,0,none⟩ (.int .i64 r.1)∧iY w1 g base r.2.2∧gp g base w w1
theorem Xn(w:World)(s:ByteArray)(k g gs ga base:Nat)(a:AttrL)(hs:s.size≤1000000)(h1:ae w gs 9 #[.string s])(h2:ae w ga 3 #[.int .i64 k])(h:iY w g base a)
 (hne:ga≠g) (hga:ga<base) (hk:k<s.size) :
 Calls prog 203 #[.pointer (some ⟨g,0,none⟩),.pointer (some ⟨gs,0,none⟩),.pointer (some ⟨ga,0,none⟩)] w (Xm (bG a s k) g ga base w):=by
 have HR:=aen (Xl w g base a s k h hs hk);have H2:=aen h2;have hc1:w.cell? ⟨gs,0,none⟩=some (.string s):=h1.cell 0;have hc2:w.cell? ⟨ga,0,none⟩=some (.int .i64 k):=h2.cell 0;clear h1 h2 h;generalize bG a s k=T at *;go_enter Tryz.func203,Tryz.ntmps203;go_wp2_with fail;with_reducible refine HR.out.mono ?_
 rintro e w1 ⟨rfl,hA,hb⟩;have hB:=hb.blk H2.out hga hne;have hc3:w1.cell? ⟨ga,0,none⟩=some (.int .i64 k):=hB.cell 0;have hf3:=hB.frozen 0;go_wp2_with fail;go_ret;exact⟨rfl,w1,rfl,hA,hb⟩
end Go.Proofs.YtpoafhgbhnblmaaGreatDoor
