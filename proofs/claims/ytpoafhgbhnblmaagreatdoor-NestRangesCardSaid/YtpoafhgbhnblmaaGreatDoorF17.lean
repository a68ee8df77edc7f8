import Derived.Test.YtpoafhgbhnblmaaGreatDoorF16
import Derived.Test.YtpoafhgbhnblmaaGreatDoorF14
set_option linter.unusedVariables false
set_option linter.unusedSimpArgs false
set_option maxRecDepth 100000
set_option maxHeartbeats 20000000
namespace Go.Proofs.YtpoafhgbhnblmaaGreatDoor
open Go.Proofs.Tryz (prog)
open Go.RowKit
def dA(p:List UInt8):List UInt8:=oq (trimS p)
def xg(ps:List (List UInt8)):Option (List UInt8):=if ps.length≤32∧(ps.all fun p=>!(dA p).isEmpty)=true then some (ps.flatMap dA) else none
def gJ(l:List UInt8):Option (List UInt8):=if l.contains 124 then xg (gB l) else none
theorem QO(p:List UInt8)(h:dA p≠[]):(dA p).length=1:=by
 have:=Ko (trimS p);unfold dA at *;cases hp:oq (trimS p) with
 |nil=>exact absurd hp h
 |cons a b=>rw[hp] at this;simp at this ⊢;exact this
theorem QS:∀ps:List (List UInt8),(∀p∈ps,dA p≠[])→(ps.flatMap dA).length=ps.length
 | [],_=>rfl
 |p :: ps,h=>by
  rw[List.flatMap_cons,aey,QO p (h p List.mem_cons_self),QS ps (fun q hq=>h q (List.mem_cons_of_mem _ hq)),aeC];omega
def lq(pre:List Pt):List UInt8:=pre.flatMap fun x=>dA (bytesL x.1)
def FX(pre:List Pt):Prop:=∀x∈pre,dA (bytesL x.1)≠[]
theorem Zx(pre:List Pt)(x:Pt):lq (pre++[x])=lq pre++dA (bytesL x.1):=by unfold lq;simp
theorem QT:∀pre:List Pt,FX pre→(lq pre).length=pre.length
 | [],_=>rfl
 |p :: ps,h=>by
  unfold lq;rw[List.flatMap_cons,aey,QO _ (h p List.mem_cons_self)];have:=QT ps (fun q hq=>h q (List.mem_cons_of_mem _ hq));unfold lq at this;rw[this,aeC];omega
theorem Zy(ps:List (List UInt8))(h:∀p∈ps,p.length≤1000000):(ps.map iJ).map (fun x=>bytesL x.1)=ps:=by
 rw[List.map_map];conv=>rhs;rw[←List.map_id ps]
 refine List.map_congr_left fun p hp=>?_;show bytesL (iJ p).1=p;rw[BI p (h p hp),bytesL_mk']
theorem Zz(ps:List (List UInt8))(h:∀p∈ps,p.length≤1000000):lq (ps.map iJ)=ps.flatMap dA:=by
 unfold lq;conv=>rhs;rw[←Zy ps h]
 rw[List.flatMap_map,List.map_map,List.flatMap_map];rfl
theorem ZA(ps:List (List UInt8))(h:∀p∈ps,p.length≤1000000)(hg:FX (ps.map iJ))(hl:(ps.map iJ).length≤32):xg ps=some (lq (ps.map iJ)):=by
 unfold xg;rw[Zz ps h,if_pos];refine⟨by simpa using hl,?_⟩;rw[List.all_eq_true];intro p hp;have:=hg (iJ p) (List.mem_map_of_mem hp);rw[BI p (h p hp),bytesL_mk'] at this;cases hq:dA p with
 |nil=>exact absurd hq this
 |cons a b=>rfl
theorem ZC(ps:List (List UInt8))(h:∀p∈ps,p.length≤1000000)(pre:List Pt)(x:Pt)(hp:(pre++[x]) <+: ps.map iJ)(hx:dA (bytesL x.1)=[]∨32≤pre.length):xg ps=none:=by
 unfold xg;rw[if_neg];rintro ⟨h1,h2⟩;rcases hx with hx|hx
 ·obtain⟨r,hr⟩:=hp;have hm:x∈ps.map iJ:=by rw[←hr];simp
  obtain⟨p,hpm,rfl⟩:=List.mem_map.1 hm;rw[BI p (h p hpm),bytesL_mk'] at hx;have:=List.all_eq_true.1 h2 p hpm;rw[hx] at this;cases this
 ·have:=hp.length_le;simp at this;omega
section
open Go.Shelf
attribute [local go_sem] Oper.semAt_some
def CV:Option (List UInt8)→Value
 |none=>.tuple #[.string ⟨#[]⟩,.bool false]
 |some r=>.tuple #[.string (mk r),.bool true]
def QU(r:Option (List UInt8))(w:World)(e:Ending)(w':World):Prop:=e=.returned (CV r)∧Below w.heap.size w w'
theorem contains_iff(l:List UInt8)(c:UInt8):decide (0≤Lib.indexByte l c)=l.contains c:=(Lib.contains_iff_indexByte l c).symm
theorem QV(s:ByteArray)(w:World)(hs:s.size≤1000000):Calls prog 119 #[.string s] w (QU (gJ (bytesL s)) w):=by
 have tK:Hid (∀W,Calls prog 170 #[.string s,.string ⟨#[124]⟩] W fun e w'=>e=.returned (.bool ((bytesL s).contains 124))∧w'=W):=aen fun W=>by
  have h:=Tryz.strings_Contains_one s 124 W;rw[contains_iff] at h;exact h
 have HA:Hid (gJ (bytesL s)=if (bytesL s).contains 124=true then xg (gB (bytesL s)) else none):=aen rfl;have HP:=aen fun W=>OJ s W hs;have hcs:=BJ (bytesL s);rw[bytesL_length] at hcs;have HX:Hid (gB (bytesL s)=dO (jm (bytesL s)) 0 0):=aen (by rw[I9];rfl);have HM:Hid (∀p∈dO (jm (bytesL s)) 0 0,p.length≤1000000):=aen (fun p hp=>by
  rw[←HX.out] at hp;have:=zS _ _ p hp;rw[bytesL_length] at this;omega)
 rw[HX.out] at HA;clear HX;generalize gJ (bytesL s)=R at *;generalize jm (bytesL s)=C at *;cases hcn:(bytesL s).contains 124
 ·have HF:Hid (R=none):=aen (by rw[HA.out,hcn];rfl);rw[hcn] at tK;clear hcn HA;go_enter Tryz.func119,Tryz.ntmps119;go_wp2_with fail;with_reducible refine(tK.out _).mono ?_
  rintro e w' ⟨rfl,rfl⟩;go_wp2_with fail;refine bodyPost_ret (v:=.tuple #[.string ⟨#[]⟩,.bool false]) (by simp[results,Tryz.results119,go_sem]) rfl ⟨by rw[HF.out];rfl,?_⟩;exact((aer _ _).alloc (aeo _) _).alloc (by simp) _
 have HF:Hid (R=xg (dO C 0 0)):=aen (by rw[HA.out,hcn];rfl);rw[hcn] at tK;clear hcn HA;refine(callsIn_wide (n:=5)).1 ?_;refine callsIn_of_wp_marks Tryz.func119 rfl trivial ?_ rfl;simp only[Tryz.ntmps119,List.size_toArray,aeC,List.length_nil,Nat.reduceAdd,Nat.reduceSub,Array.replicate_succ,Array.replicate_zero,List.push_toArray,List.append_toArray,List.nil_append,List.cons_append];gi_wp2_with fail;refine⟨trivial,?_⟩;with_reducible refine(callsIn_wide.2 (tK.out _)).mono ?_
 rintro e w' ⟨rfl,rfl⟩;gi_wp2_with fail;refine⟨trivial,?_⟩;with_reducible refine(callsIn_wide.2 (HP.out _)).mono ?_
 rintro e w' ⟨rfl,rfl⟩;gi_wp2_with fail;have bR:=Boxed.new w 9 (.string ⟨#[]⟩);have bF:=Boxed.new (w.alloc (.cells #[.string ⟨#[]⟩] 9)) 4 (.bool false);rw[World.size_alloc] at bF;have bL:=Boxed.new ((w.alloc (.cells #[.string ⟨#[]⟩] 9)).alloc (.cells #[.bool false] 4)) 9 (.string ⟨#[]⟩);rw[World.size_alloc,World.size_alloc] at bL;have bC:=Boxed.new (((w.alloc (.cells #[.string ⟨#[]⟩] 9)).alloc (.cells #[.bool false] 4)).alloc (.cells #[.string ⟨#[]⟩] 9)) 9 (.string C);rw[World.size_alloc,World.size_alloc,World.size_alloc] at bC;have hB0:Below w.heap.size w ((((w.alloc (.cells #[.string ⟨#[]⟩] 9)).alloc (.cells #[.bool false] 4)).alloc (.cells #[.string ⟨#[]⟩] 9)).alloc (.cells #[.string C] 9)):=((((aer _ w).alloc (aeo _) _).alloc (by simp) _).alloc (by simp;omega) _).alloc (by simp;omega) _;have xH:=((bR.alloc (.cells #[.bool false] 4)).alloc (.cells #[.string ⟨#[]⟩] 9)).alloc (.cells #[.string C] 9);have ZD:=(bF.alloc (.cells #[.string ⟨#[]⟩] 9)).alloc (.cells #[.string C] 9);have ZE:=bL.alloc (.cells #[.string C] 9);have kD:((((w.alloc (.cells #[.string ⟨#[]⟩] 9)).alloc (.cells #[.bool false] 4)).alloc (.cells #[.string ⟨#[]⟩] 9)).alloc (.cells #[.string C] 9)).heap.size=w.heap.size+4:=by simp
 generalize ((((w.alloc (.cells #[.string ⟨#[]⟩] 9)).alloc (.cells #[.bool false] 4)).alloc (.cells #[.string ⟨#[]⟩] 9)).alloc (.cells #[.string C] 9))=W0 at *;clear bR bF bL;refine wpIn_rangeFunc_ownG rfl (by omega) (gf:=214) (lb:=#[.pointer (some ⟨w.heap.size+1+1+1,0,none⟩)]) rfl trivial (enters_of Tryz.func214 (by kernel_rfl) rfl)
  (OK 4 (by omega) (w.heap.size+1+1+1) C (by omega) _ bC) (Kp:=uU (w.heap.size+1+1+1)) (fun h1 h2=>h2.trans h1) (fun W l o o' hl ho hc _=>World.putObj_heap_other (fun e=>by omega)) (aer _ _) (fun _=>rfl)
  (fun (pre:List Pt) W=>(Boxed W (w.heap.size+1+1) 9 (.string (mk (lq pre)))∧Boxed W (w.heap.size+1+1+1) 9 (.string C))∧(Boxed W w.heap.size 9 (.string ⟨#[]⟩)∧Boxed W (w.heap.size+1) 4 (.bool false))∧(FX pre∧pre.length≤32)∧Below w.heap.size w W)
  (fun c (pre:List Pt) W=>(c=Code.ret∧∃pr x,pre=pr++[x]∧(dA (bytesL x.1)=[]∨32≤pr.length))∧(Boxed W w.heap.size 9 (.string ⟨#[]⟩)∧Boxed W (w.heap.size+1) 4 (.bool false))∧Below w.heap.size w W)
  (OwnFrom.and (OwnFrom.and (Own.from (boxed_own _ _ (fun pre=>.string (mk (lq pre)))) _) (Own.from (boxed_own _ _ (fun _=>.string C)) _)) (OwnFrom.and (OwnFrom.and (Own.from (boxed_own _ _ (fun _=>.string ⟨#[]⟩)) _) (Own.from (boxed_own _ _ (fun _=>.bool false)) _)) (OwnFrom.and (ownFrom_pure _ _) (ownFrom_below (aeo _) (by omega)))))
  (fun c=>OwnFrom.and (ownFrom_pure _ _) (OwnFrom.and (OwnFrom.and (Own.from (boxed_own _ _ (fun _=>.string ⟨#[]⟩)) _) (Own.from (boxed_own _ _ (fun _=>.bool false)) _)) (ownFrom_below (aeo _) (by omega))))
  ⟨⟨ZE,bC⟩,⟨xH,ZD⟩,⟨fun x hx=>(by cases hx),by simp⟩,hB0⟩
  (fun (x:Pt)=>{tmps:=#[.string s,undef,.pointer (some ⟨w.heap.size,0,none⟩),.pointer (some ⟨w.heap.size+1,0,none⟩),.pointer (some ⟨w.heap.size+1+1,0,none⟩),.string x.1,undef,.string s,.bool true,.bool false,.string s,.func (.func 214) #[] #[.pointer (some ⟨w.heap.size+1+1+1,0,none⟩)],.string x.1,undef,undef,undef,undef,undef,undef,undef,undef,undef,undef,undef,undef,undef,undef],defers:=[]}) ?assign ?body ?done ?stop
 case assign=>
  intro l x W K hK;gi_wp2_with fail;exact hK
 case body=>
  rintro l pre x W ⟨⟨hL,hsB⟩,⟨hr1,hr2⟩,⟨hg,hlen⟩,hB⟩ hlt;have HT:=aen fun W=>CallsIn.inRound l ((callsIn_wide (n:=5 - 1 - 1 - 1)).2 (uT x.1 W x.2));have hxt:(mk (trimS (bytesL x.1))).size≤1000000:=by rw[mk_size];have:=pY (bytesL x.1);rw[bytesL_length] at this;have:=x.2;omega
  have HR1:Hid (∀W1,CallsIn (Fence.wide.inRound l) (5 - 1 - 1 - 1) prog 172 #[.string (mk (trimS (bytesL x.1)))] W1 fun e w'=>e=.returned (.string (mk (dA (bytesL x.1))))∧Below W1.heap.size W1 w'):=aen fun W1=>by
   have h:=CallsIn.inRound l ((callsIn_wide (n:=5 - 1 - 1 - 1)).2 (Zb (mk (trimS (bytesL x.1))) W1 hxt));rw[bytesL_mk'] at h;exact h
  have hls:(mk (lq pre)).size=pre.length:=by rw[mk_size,QT pre hg]
  have pg:=aen (Zx pre x);have HG:=aen hg;clear hg;have hml:=mk_size (dA (bytesL x.1));have hl1:(dA (bytesL x.1)).length≤1:=Ko _;generalize CX:mk (lq pre)=Lb at *;have FY:=aen CX;clear CX;generalize mk (trimS (bytesL x.1))=T at *;by_cases h0:dA (bytesL x.1)=[]
  ·have ZF:Hid (∀W1,CallsIn (Fence.wide.inRound l) (5 - 1 - 1 - 1) prog 172 #[.string T] W1 fun e w'=>e=.returned (.string ⟨#[]⟩)∧Below W1.heap.size W1 w'):=aen (by rw[h0] at HR1;exact HR1.out);have H0:=aen h0;clear h0 HR1;gi_wp2_with fail;refine⟨trivial,?_⟩;with_reducible refine(HT.out _).mono ?_
   rintro e w' ⟨rfl,rfl⟩;gi_wp2_with fail;refine⟨trivial,?_⟩;with_reducible refine(ZF.out _).mono ?_
   rintro e W1 ⟨rfl,b1⟩;have vI:Boxed W1 w.heap.size 9 (.string ⟨#[]⟩):=(b1.block _ hr1.lt).trans hr1;have ry:Boxed W1 (w.heap.size+1) 4 (.bool false):=(b1.block _ hr2.lt).trans hr2;have q1:Boxed ((W1.setCell ⟨w.heap.size,0,none⟩ (.string ⟨#[]⟩)).setCell ⟨w.heap.size+1,0,none⟩ (.bool false)) w.heap.size 9 (.string ⟨#[]⟩):=(vI.set _).kept (grownBy_setCell' _ (w.heap.size+1) _) (by simp);have q2:Boxed ((W1.setCell ⟨w.heap.size,0,none⟩ (.string ⟨#[]⟩)).setCell ⟨w.heap.size+1,0,none⟩ (.bool false)) (w.heap.size+1) 4 (.bool false):=(ry.kept (grownBy_setCell' W1 w.heap.size _) (by simp)).set _;have k1:=vI.cell;have k2:=ry.cell;have k2':=(ry.kept (grownBy_setCell' W1 w.heap.size (.string ⟨#[]⟩)) (by simp)).cell;have k3:=vI.frozen;have k4:=ry.frozen;gi_wp2_with fail;exact⟨((wI b1).trans ((aet _ _ _).trans (aet _ _ _))).from _,⟨rfl,pre,x,rfl,Or.inl H0.out⟩,⟨q1,q2⟩,((hB.trans (b1.mono hB.size)).setCell (p:=⟨w.heap.size,0,none⟩) (aeo _) _).setCell (p:=⟨w.heap.size+1,0,none⟩) (by show w.heap.size≤w.heap.size+1;omega) _⟩
  ·obtain⟨x1,x2⟩:=iV (mk (dA (bytesL x.1))) (by rw[bytesL_mk'];exact h0);have H0:=aen h0;clear h0;have cat:∀w:World,(Op.stringOp .add Lb (mk (dA (bytesL x.1)))).run prog w=.ok (.string (mk (lq (pre++[x])))) w:=fun w=>by
    rw[pg.out,←FY.out];refine zJ w _ _ _ ?_ (by rw[bytesL_mk']);have:(lq pre).length=pre.length:=by rw[←hls,←FY.out,mk_size]
    omega
   generalize hL2:mk (lq (pre++[x]))=ZG at *;have HL2:=aen hL2;clear hL2;generalize mk (dA (bytesL x.1))=Y at *;by_cases h32:32≤pre.length
   ·gi_wp2_with fail;refine⟨trivial,?_⟩;with_reducible refine(HT.out _).mono ?_
    rintro e w' ⟨rfl,rfl⟩;gi_wp2_with fail;refine⟨trivial,?_⟩;with_reducible refine(HR1.out _).mono ?_
    rintro e W1 ⟨rfl,b1⟩;have vI:Boxed W1 w.heap.size 9 (.string ⟨#[]⟩):=(b1.block _ hr1.lt).trans hr1;have ry:Boxed W1 (w.heap.size+1) 4 (.bool false):=(b1.block _ hr2.lt).trans hr2;have gL:Boxed W1 (w.heap.size+1+1) 9 (.string Lb):=(b1.block _ hL.lt).trans hL;have q1:Boxed ((W1.setCell ⟨w.heap.size,0,none⟩ (.string ⟨#[]⟩)).setCell ⟨w.heap.size+1,0,none⟩ (.bool false)) w.heap.size 9 (.string ⟨#[]⟩):=(vI.set _).kept (grownBy_setCell' _ (w.heap.size+1) _) (by simp);have q2:Boxed ((W1.setCell ⟨w.heap.size,0,none⟩ (.string ⟨#[]⟩)).setCell ⟨w.heap.size+1,0,none⟩ (.bool false)) (w.heap.size+1) 4 (.bool false):=(ry.kept (grownBy_setCell' W1 w.heap.size _) (by simp)).set _;have k0:=gL.cell;have k1:=vI.cell;have k2:=ry.cell;have k2':=(ry.kept (grownBy_setCell' W1 w.heap.size (.string ⟨#[]⟩)) (by simp)).cell;have k3:=vI.frozen;have k4:=ry.frozen;gi_wp2_with fail;exact⟨((wI b1).trans ((aet _ _ _).trans (aet _ _ _))).from _,⟨rfl,pre,x,rfl,Or.inr h32⟩,⟨q1,q2⟩,((hB.trans (b1.mono hB.size)).setCell (p:=⟨w.heap.size,0,none⟩) (aeo _) _).setCell (p:=⟨w.heap.size+1,0,none⟩) (by show w.heap.size≤w.heap.size+1;omega) _⟩
   ·have hgn:Hid (FX (pre++[x])):=aen (fun y hy=>by
     rcases List.mem_append.1 hy with hy|hy
     ·exact HG.out y hy
     ·rw[List.mem_singleton] at hy;rw[hy];exact H0.out)
    gi_wp2_with fail;refine⟨trivial,?_⟩;with_reducible refine(HT.out _).mono ?_
    rintro e w' ⟨rfl,rfl⟩;gi_wp2_with fail;refine⟨trivial,?_⟩;with_reducible refine(HR1.out _).mono ?_
    rintro e W1 ⟨rfl,b1⟩;have vI:Boxed W1 w.heap.size 9 (.string ⟨#[]⟩):=(b1.block _ hr1.lt).trans hr1;have ry:Boxed W1 (w.heap.size+1) 4 (.bool false):=(b1.block _ hr2.lt).trans hr2;have gL:Boxed W1 (w.heap.size+1+1) 9 (.string Lb):=(b1.block _ hL.lt).trans hL;have gC:Boxed W1 (w.heap.size+1+1+1) 9 (.string C):=(b1.block _ hsB.lt).trans hsB;have k0:=gL.cell;have k5:=gL.frozen;gi_wp2_with fail;have QW:Boxed (W1.setCell ⟨w.heap.size+1+1,0,none⟩ (.string ZG)) (w.heap.size+1+1+1) 9 (.string C):=gC.kept (grownBy_setCell' W1 (w.heap.size+1+1) _) (by simp);exact⟨((wI b1).trans (aet _ _ _)).from _,QW.trans hsB.symm,⟨by rw[HL2.out];exact gL.set _,QW⟩,⟨vI.kept (grownBy_setCell' W1 (w.heap.size+1+1) _) (by simp;omega),ry.kept (grownBy_setCell' W1 (w.heap.size+1+1) _) (by simp)⟩,⟨hgn.out,by simp;omega⟩,(hB.trans (b1.mono hB.size)).setCell (p:=⟨w.heap.size+1+1,0,none⟩) (by show w.heap.size≤w.heap.size+1+1;omega) _⟩
 case done=>
  rintro D ys W hD rfl ⟨⟨hL,hsB⟩,⟨hr1,hr2⟩,⟨hg,hlen⟩,hB⟩ hK;have HE:=aen (ZA _ HM.out hg hlen);clear hg;generalize CX:mk (lq ((dO C 0 0).map iJ))=Lb at *;have FY:=aen CX;clear CX;have k0:=hL.cell;have k1:=hr1.cell;have k3:=hr1.frozen;have k2:=hr2.cell;have k2':=(hr2.kept (grownBy_setCell' W w.heap.size (.string Lb)) (by simp)).cell;have k4:=hr2.frozen;have q1:Boxed ((W.setCell ⟨w.heap.size,0,none⟩ (.string Lb)).setCell ⟨w.heap.size+1,0,none⟩ (.bool true)) w.heap.size 9 (.string Lb):=(hr1.set _).kept (grownBy_setCell' _ (w.heap.size+1) _) (by simp);have q2:Boxed ((W.setCell ⟨w.heap.size,0,none⟩ (.string Lb)).setCell ⟨w.heap.size+1,0,none⟩ (.bool true)) (w.heap.size+1) 4 (.bool true):=(hr2.kept (grownBy_setCell' W w.heap.size _) (by simp)).set _;have q3:Below w.heap.size w ((W.setCell ⟨w.heap.size,0,none⟩ (.string Lb)).setCell ⟨w.heap.size+1,0,none⟩ (.bool true)):=(hB.setCell (p:=⟨w.heap.size,0,none⟩) (aeo _) _).setCell (p:=⟨w.heap.size+1,0,none⟩) (by show w.heap.size≤w.heap.size+1;omega) _;have hK':=((aet W ⟨w.heap.size,0,none⟩ (.string Lb)).trans (aet _ ⟨w.heap.size+1,0,none⟩ (.bool true))).same D _ hK rfl;gi_wp2_with fail;refine⟨by simp,.inl ⟨_,_,rfl,run_takeDeferred hK',?_⟩⟩;have c1:=cell_kept q1.cell (grownBy_putObj' _ D (.deferred none)) (fun r e=>by cases e;exact⟨_,hK',rfl⟩);have c2:=cell_kept q2.cell (grownBy_putObj' _ D (.deferred none)) (fun r e=>by cases e;exact⟨_,hK',rfl⟩);refine⟨.tuple #[.string Lb,.bool true],by simp[results,Tryz.results119,go_sem,c1,c2],?_,q3.trans (belowK_b (w:=w) (aeo _) _ D _ _ (by omega) hK' rfl rfl)⟩;rw[HF.out,HE.out,←FY.out];rfl
 case stop=>
  rintro D c pre W hD hpre ⟨⟨rfl,pr,x,rfl,hx⟩,⟨hr1,hr2⟩,hB⟩ hK;have HE:=aen (ZC _ HM.out pr x hpre hx);gi_wp2_with fail;refine⟨by simp,.inl ⟨_,_,rfl,run_takeDeferred hK,?_⟩⟩;have c1:=cell_kept hr1.cell (grownBy_putObj' _ D (.deferred none)) (fun r e=>by cases e;exact⟨_,hK,rfl⟩);have c2:=cell_kept hr2.cell (grownBy_putObj' _ D (.deferred none)) (fun r e=>by cases e;exact⟨_,hK,rfl⟩);refine⟨.tuple #[.string ⟨#[]⟩,.bool false],by simp[results,Tryz.results119,go_sem,c1,c2],?_,hB.trans (belowK_b (w:=w) (aeo _) _ D _ _ (by omega) hK rfl rfl)⟩;rw[HF.out,HE.out];rfl
end
def cellsB(l:List UInt8):List ByteArray:=(gB l).map fun p=>mk (cellL p)
theorem QX(l:List UInt8):((gB l).map fun p=>Value.string (mk (cellL p)))=strs (cellsB l):=by unfold cellsB strs;rw[List.map_map];rfl
theorem vJ(l:List UInt8):(cellsB l).length=(gB l).length:=by unfold cellsB;rw[List.length_map]
theorem FZ(l:List UInt8):(gB l).length≤l.length+1:=by
 unfold gB;have h1:=BG (bytesL (jm l)) false;have h2:=BJ l;rw[bytesL_length] at h1;omega
theorem ZH(l:List UInt8):∀p∈gB l,p.length≤l.length:=fun p hp=>by
 have h1:=zS _ _ p hp;have h2:=BJ l;rw[bytesL_length] at h1;omega
theorem ZI(p:List UInt8):(cellL p).length≤p.length:=aev (J8 _ _ (aeo _)) (pY p)
theorem ZJ(l:List UInt8):∀z∈cellsB l,z.size≤l.length:=fun z hz=>by
 unfold cellsB at hz;obtain⟨p,hp,rfl⟩:=List.mem_map.1 hz;rw[mk_size];exact aev (ZI p) (ZH l p hp)
theorem ZK{c:UInt8}{t:List UInt8}(hc:c∈t)(h:c≠58):c∈jT t:=by
 unfold jT Lib.trimPrefix;split
 ·rename_i hp;cases t with
  |nil=>cases hc
  |cons a t=>
   have:a=58:=by
    have:((58:UInt8)==a&&true)=true:=hp;simpa using (by simpa using this:(58:UInt8)=a).symm
   rcases List.mem_cons.1 hc with rfl|hc
   ·exact absurd this h
   ·exact hc
 ·exact hc
theorem ZL{c:UInt8}{t:List UInt8}(hc:c∈t)(h:c≠58):c∈Lib.trimSuffix t [58]:=by
 unfold Lib.trimSuffix;split
 ·rename_i hp;rcases List.eq_nil_or_concat t with rfl|⟨l,a,rfl⟩
  ·cases hc
  ·rw[List.concat_eq_append] at *;rw[Kq] at hp;have ha:a=58:=by simpa using hp
   show c∈(l++[a]).take ((l++[a]).length - 1);rw[aey,List.length_singleton,Nat.add_sub_cancel,List.take_left];rcases List.mem_append.1 hc with hc|hc
   ·exact hc
   ·rw[List.mem_singleton] at hc;rw[hc] at h;exact absurd ha h
 ·exact hc
theorem QY{t:List UInt8}(c:UInt8)(hc:c∈t)(h1:c≠45)(h2:c≠58):oq t=[]:=by
 have hm:c∈lg t:=ZL (ZK hc h2) h2;unfold oq;rw[if_pos (Or.inr ?_)];rw[List.all_eq_false];exact⟨c,hm,by simpa using h1⟩
theorem QZ:∀(n:Nat) (t:List UInt8),t.length≤n→fD t=t∨((92:UInt8)∈t∧(124:UInt8)∈fD t)
 |0,t,h=>by cases t with
  |nil=>exact Or.inl rfl
  |cons c l=>simp at h
 |n+1,[],_=>Or.inl rfl
 |n+1,c :: l,h=>by
  rw[EP];split
  ·rename_i hc;obtain⟨rfl,hc⟩:=hc;cases l with
   |nil=>simp at hc
   |cons d l=>
    obtain rfl:d=124:=by simpa using hc
    exact Or.inr ⟨List.mem_cons_self,List.mem_cons_self⟩
  ·rcases QZ n l (by simp at h;omega) with h1|⟨h1,h2⟩
   ·exact Or.inl (by rw[h1])
   ·exact Or.inr ⟨List.mem_cons_of_mem _ h1,List.mem_cons_of_mem _ h2⟩
theorem ZN(p:List UInt8):oq (cellL p)=dA p:=by
 unfold cellL dA;rcases QZ _ (trimS p) (aeo _) with h|⟨h1,h2⟩
 ·rw[h]
 ·rw[QY 124 h2 (by decide) (by decide),QY 92 h1 (by decide) (by decide)]
theorem ZO(s:ByteArray)(k:Nat)(h:s.size≤k):(sfx s k).contains 124=false:=by rw[kU s k h];rfl
theorem ZP(s:ByteArray)(k:Nat)(h:k<s.size):(sfx s k).contains 124=((bt s k==124)||(sfx s (k+1)).contains 124):=by
 rw[bV s k h,List.contains_cons];congr 1;rw[Bool.eq_iff_iff];simp only[beq_iff_eq];rw[←eY s k 124 (by decide)];exact⟨fun e=>e.symm,fun e=>e.symm⟩
theorem ZQ(ps:List (List UInt8))(k:Nat)(h:k<ps.length):(ps.take (k+1)).flatMap dA=(ps.take k).flatMap dA++dA ps[k]:=by
 rw[List.take_succ_eq_append_getElem h,List.flatMap_append];simp
def xh(l:List UInt8)(w:World)(e:Ending)(W':World):Prop:=∃A c,e=.returned (.slice A (cellsB l).length c)∧W'.ownsRow w.heap.size 9 1 (.slice A (cellsB l).length c) (cellsB l).length (strs (cellsB l))∧Below w.heap.size w W'
theorem Q3(s:ByteArray)(m:Int)(w:World)(hs:s.size≤1000000)(hm:w.cell? ⟨0,0,none⟩=some (.int .i64 m)):Calls prog 120 #[.string s] w (xh (bytesL s) w):=by
 refine(Y5 s m w hs hm).mono ?_;rintro e W' ⟨v,rfl,hown,hb⟩;rw[QX,←vJ] at hown;obtain⟨A,c,rfl⟩:=ay hown;exact⟨A,c,rfl,hown,hb⟩
theorem Kt(s:ByteArray)(w:World)(hs:s.size≤1000000):Calls prog 189 #[.string s] w (xh (bytesL s) w):=by
 refine(Zt s w hs).mono ?_;rintro e W' ⟨v,rfl,hown,hb⟩;have e1:(gB (bytesL s)).map cellS=strs (cellsB (bytesL s)):=QX _;rw[e1,←vJ] at hown;obtain⟨A,c,rfl⟩:=ay hown;exact⟨A,c,rfl,hown,hb⟩
theorem Q4(s:ByteArray)(w:World)(hs:s.size≤1000000):Calls prog 138 #[.string s] w (QU (gJ (bytesL s)) w):=by
 have HC:=aen fun W=>Kt s W hs;have HA:Hid (gJ (bytesL s)=if (bytesL s).contains 124=true then (if (gB (bytesL s)).length≤32∧((gB (bytesL s)).all fun p=>!(dA p).isEmpty)=true then some ((gB (bytesL s)).flatMap dA) else none) else none):=aen rfl;have HK:Hid ((bytesL s).contains 124=(sfx s 0).contains 124):=aen rfl;have HZ:=aen (vJ (bytesL s));have HG:Hid (∀k (h:k<(cellsB (bytesL s)).length),∃h':k<(gB (bytesL s)).length,oq (bytesL (cellsB (bytesL s))[k])=dA (gB (bytesL s))[k]):=aen fun k h=>⟨by rw[←vJ];exact h,by
  have e:(cellsB (bytesL s))[k]=mk (cellL ((gB (bytesL s))[k]'(by rw[←vJ];exact h))):=by simp[cellsB]
  rw[e,bytesL_mk',ZN]⟩
 have HM:=aen (ZJ (bytesL s));rw[bytesL_length] at HM;unfold xh at HC;generalize gJ (bytesL s)=R at *;generalize cellsB (bytesL s)=zs at *;generalize gB (bytesL s)=ps at *;generalize (bytesL s).contains 124=hb at *;go_enter Tryz.func138,Tryz.ntmps138;go_wp2_with fail;go_loop [4,5] (fun v4 v5=>∃(k:Nat) (b:Bool),v4=.bool b∧v5=.int .i64 k∧k≤s.size∧Hid (hb=(b||(sfx s k).contains 124))) (fun _ v=>s.size - (intOf v).toNat);case atStart=>exact⟨0,false,rfl,rfl,by omega,aen (by rw[HK.out];rfl)⟩
 case round=>
  obtain⟨k,b,rfl,rfl,hk,Hk⟩:=hrel;by_cases hlt:k<s.size
  ·have hst:=aen (ZP s k hlt);cases b
   ·have HB:Hid ((((s[k].toNat:Nat):Int)==124)=(bt s k==124)):=aen (by rw[get_bt s k hlt,Bool.eq_iff_iff];simp only[beq_iff_eq];omega);go_wp2_with fail;go_round;case rel=>exact⟨k+1,(((s[k].toNat:Nat):Int)==124),rfl,by go_num,by omega,aen (by rw[Hk.out,hst.out,HB.out];rfl)⟩
    case measure=>simp[intOf];omega
   ·go_wp2_with fail;go_round;case rel=>exact⟨k+1,true,rfl,by go_num,by omega,aen (by rw[Hk.out];rfl)⟩
    case measure=>simp[intOf];omega
  ·have HB:Hid (hb=b):=aen (by rw[Hk.out,ZO s k (by omega),Bool.or_false]);clear Hk HK;go_wp2_with fail;with_reducible refine(HC.out _).mono ?_
   rintro e w1 ⟨A,c,rfl,hown,b1⟩;have hrd:=Reads.of_own hown;have qy:=aen hrd;clear hrd hown;cases b
   ·have HF:Hid (R=none):=aen (by rw[HA.out,HB.out];rfl);go_wp2_with fail;go_ret2;exact⟨by rw[HF.out];rfl,b1⟩
   ·by_cases h32:32<zs.length
    ·have HF:Hid (R=none):=aen (by
      rw[HA.out,HB.out,if_pos rfl,if_neg];intro h;have:=HZ.out;omega)
     go_wp2_with fail;go_ret2;exact⟨by rw[HF.out];rfl,b1⟩
    ·have HA2:Hid (R=if (ps.all fun p=>!(dA p).isEmpty)=true then some (ps.flatMap dA) else none):=aen (by
      rw[HA.out,HB.out,if_pos rfl];have:=HZ.out;by_cases h:(ps.all fun p=>!(dA p).isEmpty)=true
      ·rw[if_pos ⟨by omega,h⟩,if_pos h]
      ·rw[if_neg (fun e=>h e.2),if_neg h])
     clear HA HB;go_wp2_with fail;go_loop [7,8] (fun v7 v8=>∃(j:Nat) (acc:List UInt8),v7=.string (mk acc)∧v8=.int .i64 j∧j≤zs.length∧acc.length≤j∧Hid (acc=(ps.take j).flatMap dA∧∀i (h:i<ps.length),i<j→dA ps[i]≠[])) (fun _ v=>zs.length - (intOf v).toNat);case atStart=>exact⟨0,[],rfl,rfl,by omega,by simp,aen ⟨by simp,fun i _ h=>by omega⟩⟩
     case round=>
      obtain⟨j,acc,rfl,rfl,hj,hal,Hj⟩:=hrel;by_cases hjl:j<zs.length
      ·obtain⟨ba,off,rfl,hbB,hcell⟩:=ve qy.out (by omega);have hc:=hcell j hjl;have HL:=aen fun W=>Zo zs[j] W (by have:=HM.out zs[j] (List.getElem_mem hjl);omega);obtain⟨hjp,hle⟩:=HG.out j hjl;rw[hle] at HL;have hl1:(dA ps[j]).length≤1:=Ko _;have HT:=aen (ZQ ps j hjp);clear hcell hle;generalize zs[j]=z at *;by_cases h0:dA ps[j]=[]
       ·have HF:Hid (R=none):=aen (by
         rw[HA2.out,if_neg];intro h;have:=List.all_eq_true.1 h ps[j] (List.getElem_mem hjp);rw[h0] at this;cases this)
        have ZR:Hid (∀W,Calls prog 190 #[.string z] W fun e w'=>e=.returned (.string ⟨#[]⟩)∧W=w'):=aen (by rw[h0] at HL;exact HL.out);clear h0;go_wp2_with fail;with_reducible refine(ZR.out _).mono ?_
        rintro e w0 ⟨rfl,rfl⟩;go_wp2_with fail;go_ret2;exact⟨by rw[HF.out];rfl,b1⟩
       ·obtain⟨x1,x2⟩:=iV (mk (dA ps[j])) (by rw[bytesL_mk'];exact h0);have HN:Hid (∀i (h:i<ps.length),i<j+1→dA ps[i]≠[]):=aen fun i h hi=>by
         by_cases e:i=j
         ·subst e;exact h0
         ·exact Hj.out.2 i h (by omega)
        have cat:∀w:World,(Op.stringOp .add (mk acc) (mk (dA ps[j]))).run prog w=.ok (.string (mk (acc++dA ps[j]))) w:=fun w=>zJ w acc _ _ (by rw[mk_size];omega) (by rw[bytesL_mk']);clear h0;go_wp2_with fail;with_reducible refine(HL.out _).mono ?_
        rintro e w0 ⟨rfl,rfl⟩;go_wp2_with fail;go_round;case rel=>exact⟨j+1,acc++dA ps[j],rfl,by go_num,by omega,by rw[aey];omega,aen ⟨by rw[HT.out,Hj.out.1],HN.out⟩⟩
        case measure=>simp[intOf];omega
      ·have HF:Hid (R=some acc):=aen (by
        have hz:=HZ.out;rw[HA2.out,if_pos]
        ·rw[Hj.out.1,List.take_of_length_le (by omega)]
        ·rw[List.all_eq_true];intro p hp;obtain⟨i,hi,rfl⟩:=List.mem_iff_getElem.1 hp;have:=Hj.out.2 i hi (by omega);cases hq:dA ps[i] with
         |nil=>exact absurd hq this
         |cons a b=>rfl)
       go_wp2_with fail;go_ret2;exact⟨by rw[HF.out];rfl,b1⟩
def headB(a b:List UInt8):Bool:=match gJ b with | none=>false | some r=>(cellsB a).length==r.length
theorem ZS{w:World}{g:Nat}{t:TypeId}{zs:List ByteArray}(h:w.heap[g]?=some (.cells (strs zs).toArray t (0,0))):Reads w (g+1) 1 (some ⟨g,0,none⟩) zs.length (strs zs):=by
 refine⟨by rw[qg];omega,fun hn=>⟨_,rfl,by show g<g+1;omega,fun j u hj=>?_⟩⟩;have:=cell_of_row w g j _ t (0,0) h;unfold Addr.add;by_cases h0:j=0
 ·subst h0;rw[if_pos rfl,this];simpa using hj
 ·rw[if_neg h0];show w.cell? ⟨g,0+j,none⟩=_;rw[Nat.zero_add,this];simpa using hj
theorem F6{l r:List UInt8}(h:gJ l=some r):r.length≤32:=by
 unfold gJ at h;split at h
 ·unfold xg at h;split at h
  ·rename_i hh;simp only[Option.some.injEq] at h;subst h;have hg:∀p∈gB l,dA p≠[]:=fun p hp e=>by
    have:=List.all_eq_true.1 hh.2 p hp;rw[e] at this;cases this
   rw[QS _ hg];exact hh.1
  ·simp at h
 ·simp at h
theorem Ku(a b:ByteArray)(m:Int)(w:World)(ha:a.size≤1000000)(hb:b.size≤1000000)(hm:w.cell? ⟨0,0,none⟩=some (.int .i64 m)) :
 Calls prog 77 #[.string a,.string b] w fun e w'=>e=.returned (.bool (headB (bytesL a) (bytesL b)))∧Below w.heap.size w w':=by
 have J9:0<w.heap.size:=World.block_lt_of_cell? _ _ hm;have HA:=aen fun W=>QV b W hb;have HC:=aen fun W (h:W.cell? ⟨0,0,none⟩=some (.int .i64 m))=>Q3 a m W ha h;have HX:Hid (headB (bytesL a) (bytesL b)=match gJ (bytesL b) with | none=>false | some r=>(cellsB (bytesL a)).length==r.length):=aen rfl;have hcl:(cellsB (bytesL a)).length≤1000001:=by rw[vJ];have:=FZ (bytesL a);rw[bytesL_length] at this;omega
 have HL:Hid (∀r,gJ (bytesL b)=some r→r.length≤32):=aen fun r h=>F6 h;unfold xh at HC;generalize headB (bytesL a) (bytesL b)=R at *;generalize cellsB (bytesL a)=zs at *;generalize gJ (bytesL b)=D at *;cases D with
 |none=>
  have HF:Hid (R=false):=aen HX.out;go_enter Tryz.func77,Tryz.ntmps77;go_wp2_with fail;with_reducible refine(HA.out _).mono ?_
  rintro e w1 ⟨he,b1⟩;dsimp only [CV] at he;subst he;go_wp2_with fail;go_ret;exact⟨aJ HF.out.symm,b1⟩
 |some r=>
  have hrl:=HL.out r rfl;have HF:Hid (R=((zs.length:Int)==((mk r).size:Int))):=aen (by
   rw[HX.out,mk_size,Bool.eq_iff_iff];simp only[beq_iff_eq];omega)
  have hms:(mk r).size≤32:=by rw[mk_size];exact hrl
  go_enter Tryz.func77,Tryz.ntmps77;go_wp2_with fail;with_reducible refine(HA.out _).mono ?_
  rintro e w1 ⟨he,b1⟩;dsimp only [CV] at he;subst he;have hm1:w1.cell? ⟨0,0,none⟩=some (.int .i64 m):=(b1.cell (p:=⟨0,0,none⟩) J9).trans hm;have hz1:=b1.size;go_wp2_with fail;with_reducible refine(HC.out _ hm1).mono ?_
  rintro e w2 ⟨A,c,rfl,hown,b2⟩;clear hown;go_wp2_with fail;go_ret;exact⟨aJ HF.out.symm,b1.trans (b2.mono hz1)⟩
theorem r_head(a b:ByteArray)(w:World)(ha:a.size≤1000000)(hb:b.size≤1000000) :
 Calls prog 188 #[.string a,.string b] w fun e w'=>e=.returned (.bool (headB (bytesL a) (bytesL b)))∧Below w.heap.size w w':=by
 have HA:=aen fun W=>Q4 b W hb;have HC:=aen fun W=>Kt a W ha;have HX:Hid (headB (bytesL a) (bytesL b)=match gJ (bytesL b) with | none=>false | some r=>(cellsB (bytesL a)).length==r.length):=aen rfl;have hcl:(cellsB (bytesL a)).length≤1000001:=by rw[vJ];have:=FZ (bytesL a);rw[bytesL_length] at this;omega
 have HL:Hid (∀r,gJ (bytesL b)=some r→r.length≤32):=aen fun r h=>F6 h;unfold xh at HC;generalize headB (bytesL a) (bytesL b)=R at *;generalize cellsB (bytesL a)=zs at *;generalize gJ (bytesL b)=D at *;cases D with
 |none=>
  have HF:Hid (R=false):=aen HX.out;go_enter Tryz.func188,Tryz.ntmps188;go_wp2_with fail;with_reducible refine(HA.out _).mono ?_
  rintro e w1 ⟨he,b1⟩;dsimp only [CV] at he;subst he;go_wp2_with fail;go_ret;exact⟨aJ HF.out.symm,b1⟩
 |some r=>
  have hrl:=HL.out r rfl;have HF:Hid (R=(((mk r).size:Int)==(zs.length:Int))):=aen (by
   rw[HX.out,mk_size,Bool.eq_iff_iff];simp only[beq_iff_eq];omega)
  have hms:(mk r).size≤32:=by rw[mk_size];exact hrl
  go_enter Tryz.func188,Tryz.ntmps188;go_wp2_with fail;with_reducible refine(HA.out _).mono ?_
  rintro e w1 ⟨he,b1⟩;dsimp only [CV] at he;subst he;have hz1:=b1.size;go_wp2_with fail;with_reducible refine(HC.out _).mono ?_
  rintro e w2 ⟨A,c,rfl,hown,b2⟩;clear hown;go_wp2_with fail;go_ret;exact⟨aJ HF.out.symm,b1.trans (b2.mono hz1)⟩
def joinL(sep:ByteArray):List ByteArray→List UInt8
 | []=>[]
 |x :: r=>bytesL x++r.flatMap fun y=>bytesL sep++bytesL y
def sizes(l:List ByteArray):Nat:=(l.map ByteArray.size).sum
theorem F8(l:List ByteArray)(k:Nat)(h:k<l.length):sizes (l.take (k+1))=sizes (l.take k)+l[k].size:=by
 unfold sizes;rw[List.take_succ_eq_append_getElem h,List.map_append,List.sum_append];simp
theorem F9(l:List ByteArray)(k:Nat):sizes (l.take k)≤sizes l:=by
 unfold sizes;rw[←List.take_append_drop k l,List.map_append,List.sum_append,List.take_append_drop];omega
theorem Kv(M:Nat):∀l:List ByteArray,(∀x∈l,x.size≤M)→sizes l≤l.length * M
 | [],_=>by simp[sizes]
 |x :: l,h=>by
  have:=Kv M l fun y hy=>h y (List.mem_cons_of_mem _ hy);have h1:=h x (List.mem_cons_self ..);unfold sizes at this ⊢;rw[List.map_cons,List.sum_cons,aeC,Nat.succ_mul];omega
theorem ZT(sep:ByteArray):∀l:List ByteArray,(joinL sep l).length≤sizes l+l.length * sep.size
 | []=>by simp[joinL]
 |x :: l=>by
  have key:∀l:List ByteArray,(l.flatMap fun y=>bytesL sep++bytesL y).length≤sizes l+l.length * sep.size:=by
   intro l;induction l with
   |nil=>simp
   |cons y l ih=>
    unfold sizes at ih ⊢;rw[List.flatMap_cons,aey,aey,bytesL_length,bytesL_length,List.map_cons,List.sum_cons,aeC,Nat.succ_mul];omega
  have:=key l;unfold sizes at this ⊢;show (bytesL x++_).length≤_;rw[aey,bytesL_length,List.map_cons,List.sum_cons,aeC,Nat.succ_mul];omega
theorem strCells_eq(s:ByteArray):Lib.strCells s=Lib.byteCells (bytesL s):=rfl
theorem ZU(zs:List ByteArray)(A:Option Addr)(c B:Nat)(sep:ByteArray)(w:World)(hr:Reads w B 1 A zs.length (strs zs))(hn:zs.length≤1) :
 Calls prog 122 #[.slice A zs.length c,.string sep] w fun e w'=>e=.returned (.string (mk (joinL sep zs)))∧w=w':=by
 match zs,hn with
 | [],_=>
  have HX:Hid (mk (joinL sep [])=⟨#[]⟩):=aen rfl;clear hr;generalize mk (joinL sep [])=R at *;go_enter Tryz.func122,Tryz.ntmps122;go_wp2;go_ret;exact⟨dX HX.out.symm,rfl⟩
 | [x],_=>
  have HX:Hid (mk (joinL sep [x])=x):=aen (by show mk (bytesL x++[])=x;rw[List.append_nil];exact eX x);generalize mk (joinL sep [x])=R at *;obtain⟨b,off,rfl,hb,hcell⟩:=hr.row (by simp) (by omega);have hc:=hcell 0 _ (sW [x] 0 (by simp));simp at hc;clear hcell hr;go_enter Tryz.func122,Tryz.ntmps122;go_wp2;go_ret;exact⟨dX HX.out.symm,rfl⟩
def ZV(zs:List ByteArray)(sep:ByteArray)(B0:Nat)(w:World)(i:Value)(wr:World):Prop:=
 ∃(k:Nat) (acc:List UInt8),i=.int .i64 k∧k+1≤zs.length∧Lib.IsBuilderF 158 5 w.heap.size w.heap.size (Lib.byteCells acc) wr∧Below w.heap.size w wr∧Hid (acc=joinL sep (zs.take (k+1)))∧acc.length≤sizes (zs.take (k+1))+k * sep.size∧w.heap.size<wr.heap.size
theorem Q5(sep:ByteArray)(zs:List ByteArray)(k:Nat)(h:k+1<zs.length):joinL sep (zs.take (k+1+1))=joinL sep (zs.take (k+1))++bytesL sep++bytesL zs[k+1]:=by
 match zs,h with
 |x :: r,h=>
  have h':k<r.length:=by simpa using h
  rw[List.take_succ_cons,List.take_succ_cons];show bytesL x++_=bytesL x++_++bytesL sep++bytesL (x :: r)[k+1];rw[List.take_succ_eq_append_getElem h',List.flatMap_append];simp
theorem ZW(zs:List ByteArray)(A:Option Addr)(c B:Nat)(sep:ByteArray)(w:World)(hr:Reads w B 1 A zs.length (strs zs))(hB:B≤w.heap.size)(hn:2≤zs.length)(hc:zs.length≤c)(hl:zs.length≤1000000)(ht:sizes zs≤1000000000)(hsep:0<sep.size)(hsl:sep.size≤1000) :
 Calls prog 122 #[.slice A zs.length c,.string sep] w fun e w'=>e=.returned (.string (mk (joinL sep zs)))∧Below w.heap.size w w':=by
 have HX:Hid (joinL sep zs=joinL sep (zs.take zs.length)):=aen (by rw[List.take_length]);generalize joinL sep zs=R at *;have qy:=aen hr;obtain⟨b,off,rfl,hb,hcell⟩:=hr.row (by omega) (by omega);have HC:=aen fun k (hk:k<zs.length)=>hcell k _ (sW zs k hk);have hc0:=HC.out 0 (by omega);clear hcell hr;have z0:((zs.length:Int)==0)=false:=by rw[aes];omega
 have z1:((zs.length:Int)==1)=false:=by rw[aes];omega
 have hdv:9223372036854775807 / 1000000≤(9223372036854775807:Int) / ((zs.length:Int) - 1):=Int.le_ediv_of_mul_le (by omega) (by omega);have hq:decide ((9223372036854775807:Int) / ((zs.length:Int) - 1)≤(sep.size:Int))=false:=aep (by omega);have hm1:(sep.size:Int) * ((zs.length:Int) - 1)≤1000 * 1000000:=by
  have:=Int.mul_le_mul (a:=(sep.size:Int)) (b:=(zs.length:Int) - 1) (c:=1000) (d:=1000000) (by omega) (by omega) (by omega) (by omega);exact this
 have hm0:0≤(sep.size:Int) * ((zs.length:Int) - 1):=Int.mul_nonneg (by omega) (by omega);clear hdv;go_enter Tryz.func122,Tryz.ntmps122;go_wp2_with fail;go_loop [5,41] (fun n i=>∃k:Nat,i=.int .i64 k∧k≤zs.length∧n=.int .i64 ((sep.size:Int) * ((zs.length:Int) - 1)+(sizes (zs.take k):Nat))) (fun _ i=>zs.length - (intOf i).toNat);case atStart=>exact⟨0,rfl,by omega,by simp[sizes]⟩
 case round=>
  obtain⟨k,rfl,hk,rfl⟩:=hrel;have hsk:=F9 zs k;by_cases hlt:k<zs.length
  ·have hck:=HC.out k hlt;have hs1:=aen (F8 zs k hlt);have hs2:=F9 zs (k+1);have hs3:sizes (zs.take k)+zs[k].size≤1000000000:=by rw[←hs1.out];omega
   go_wp2;go_round;case rel=>exact⟨k+1,by go_num,by omega,by rw[hs1.out];go_num⟩
   case measure=>simp[intOf];omega
  ·obtain rfl:k=zs.length:=by omega
   have htl:=aen (List.take_length (l:=zs));have hcast:Hid ((sep.size:Int) * ((zs.length:Int) - 1)+((sizes zs:Nat):Int)=((sep.size * (zs.length - 1)+sizes zs:Nat):Int)):=aen (by
    rw[Int.natCast_add,Int.natCast_mul,Int.natCast_sub (by omega)];rfl)
   have hbig:sep.size * (zs.length - 1)+sizes zs≤281474976710656:=by
    have:=Nat.mul_le_mul (show sep.size≤1000 from hsl) (show zs.length - 1≤1000000 by omega);omega
   have HG:Hid (Calls prog 175 #[.pointer (some ⟨w.heap.size,0,none⟩),.int .i64 ((sep.size:Int) * ((zs.length:Int) - 1)+((sizes zs:Nat):Int))] (w.alloc (.cells #[.pointer none,.slice none 0 0] 158)) fun e w'=>e=.returned (.tuple #[])∧Lib.IsBuilderF 158 5 w.heap.size w.heap.size (Lib.byteCells []) w'∧Below w.heap.size (w.alloc (.cells #[.pointer none,.slice none 0 0] 158)) w'):=aen (by
    rw[hcast.out];refine(Tryz.Builder_Grow_fresh_cap w.heap.size w.heap.size (sep.size * (zs.length - 1)+sizes zs) _ (aeo _) ?_ (by simp) hbig).mono ?_
    ·exact heap_alloc_new w _
    ·rintro e w' ⟨rfl,⟨h1,h2⟩,_⟩;exact⟨rfl,Or.inr (Lib.BuilderAtF.of h1),h2⟩)
   clear hcast;have hwc:∀(W:World),Below w.heap.size w W→W.cell? ⟨b,off,none⟩=some (.string zs[0]):=fun W hW=>(hW.cell (p:=⟨b,off,none⟩) (by show b<_;omega)).trans hc0;have ZX:=aen hwc;clear hwc;go_wp2_with fail;with_reducible refine HG.out.mono ?_
   rintro e W1 ⟨rfl,I1,b1⟩;have bb1:Below w.heap.size w W1:=((aer _ w).alloc (aeo _) _).trans b1;have hz1:=b1.size;simp only[sZ] at hz1;have hd1:=ZX.out W1 bb1;have J4:=aen bb1;clear bb1 b1;go_wp2_with fail;refine(EM w.heap.size w.heap.size _ _ _ I1 (by have:=F8 zs 0 (by omega);have:=F9 zs 1;simp[Lib.byteCells_length] at *;omega) (by omega)).mono ?_;rintro e W2 ⟨rfl,h2,b2,_⟩;rw[strCells_eq,←Lib.byteCells_append,List.nil_append] at h2;have hz2:=b2.size;have yz:=aen (J4.out.trans b2);clear b2 hd1;have hcn:c≠1:=by omega
   clear hq hm1 hm0 z0 z1 HG hbig hc0;go_wp2_with fail;go_loopw [65] (fun v wr=>ZV zs sep B w v wr) (fun v _=>zs.length - (intOf v).toNat);case atStart=>
    refine⟨0,bytesL zs[0],rfl,by omega,?_,yz.out,aen ?_,?_,by omega⟩
    ·exact Or.inr h2
    ·match zs,hn with
     |x :: r,_=>show bytesL x=bytesL x++[];rw[List.append_nil]
    ·have:=F8 zs 0 (by omega);rw[bytesL_length];omega
   case round=>
    obtain⟨k,acc,rfl,hk,hI,hbw,aY,hal,hsz⟩:=hrel;by_cases hlt:k+1<zs.length
    ·have hck0:=HC.out (k+1) hlt;have hck:wr.cell? ⟨b,off+1+k,none⟩=some (.string zs[k+1]):=by
      rw[show off+1+k=off+(k+1) by omega];exact(hbw.cell (p:=⟨b,off+(k+1),none⟩) (by show b<_;omega)).trans hck0
     clear hck0;have hs1:=F8 zs (k+1) hlt;have hs2:=F9 zs (k+1+1);have hmul:k * sep.size≤1000000 * 1000:=Nat.mul_le_mul (by omega) hsl;have Q7:(k+1) * sep.size=k * sep.size+sep.size:=Nat.succ_mul _ _;have jU:=aen hs1;have HM2:=aen Q7;have hlen1:acc.length+sep.size≤140737488355328:=by omega
     have hlen2:acc.length+sep.size+zs[k+1].size≤140737488355328:=by omega
     have hjs:=aen (Q5 sep zs k hlt);have hal2:acc.length+sep.size+zs[k+1].size≤sizes (zs.take (k+1+1))+(k+1) * sep.size:=by omega
     have ZY:=aen hal2;have hkl:k<zs.length - 1:=by omega
     clear hs1 Q7 hal2;go_wp2_with fail;refine(EM w.heap.size w.heap.size _ _ _ hI (by rw[Lib.byteCells_length];exact hlen1) (by omega)).mono ?_;rintro e W3 ⟨rfl,h3,b3,_⟩;rw[strCells_eq,←Lib.byteCells_append] at h3;have hz3:=b3.size;go_wp2_with fail;refine(EM w.heap.size w.heap.size _ _ _ (Or.inr h3) (by rw[Lib.byteCells_length,aey,bytesL_length];exact hlen2) (by omega)).mono ?_;rintro e W4 ⟨rfl,h4,b4,_⟩;rw[strCells_eq,←Lib.byteCells_append] at h4;have vz:=b4.size;go_wp2_with fail;go_roundw;case rel=>
      refine⟨k+1,acc++bytesL sep++bytesL zs[k+1],by go_num,by omega,?_,(hbw.trans b3).trans b4,aen (by rw[hjs.out,←aY.out]),?_,by omega⟩
      ·exact Or.inr h4
      ·rw[aey,aey,bytesL_length,bytesL_length];exact ZY.out
     case measure=>simp[intOf];omega
    ·have hkl:¬k<zs.length - 1:=by omega
     have hkk:Hid (k+1=zs.length):=aen (by omega);go_wp2_with fail;refine(Tryz.Builder_String_any_k w.heap.size w.heap.size acc _ hI (by omega)).mono ?_;rintro e W1 ⟨rfl,h1,b1,_⟩;go_wp2;go_ret;exact⟨dX (by rw[HX.out,←hkk.out,←aY.out];rfl),hbw.trans b1⟩
theorem ZZ(zs:List ByteArray)(A:Option Addr)(c B:Nat)(sep:ByteArray)(w:World)(hr:Reads w B 1 A zs.length (strs zs))(hB:B≤w.heap.size)(hc:zs.length≤c)(hl:zs.length≤1000000)(ht:sizes zs≤1000000000)(hsep:0<sep.size)(hsl:sep.size≤1000) :
 Calls prog 122 #[.slice A zs.length c,.string sep] w fun e w'=>e=.returned (.string (mk (joinL sep zs)))∧Below w.heap.size w w':=by
 by_cases hn:2≤zs.length
 ·exact ZW zs A c B sep w hr hB hn hc hl ht hsep hsl
 ·exact(ZU zs A c B sep w hr (by omega)).mono fun e w' h=>⟨h.1,h.2 ▸ aer _ _⟩
theorem CY{c:ByteArray}{m:ag}(h:kH c=some m):m.kind=2:=by
 unfold kH at h;split at h
 ·split at h
  ·injection h with h;subst h;rfl
  ·cases h
 ·cases h
theorem CZ{c:ByteArray}{m:ag}(h:kJ c=some m):m.kind=3:=by
 unfold kJ at h;split at h
 ·split at h
  ·injection h with h;subst h;rfl
  ·cases h
 ·cases h
theorem Ah{c:ByteArray}{ind:Nat}{m:ag}(h:lS c ind=some m):bt c 0=62∧m={kind:=4,off:=ind+c.size - (aT (aA c) 1).size,rest:=aT (aA c) 1}:=by
 unfold lS at h;split at h
 ·rename_i h0;injection h with h;exact⟨h0,h.symm⟩
 ·cases h
theorem Dc{c:ByteArray}{ind:Nat}{m:ag}(h:oV c ind=some m):m={kind:=5,ch:=c.extract 0 1,off:=ind+2,rest:=aA (aA c)}:=by
 unfold oV at h;split at h
 ·split at h
  ·injection h with h;exact h.symm
  ·cases h
 ·cases h
theorem Z4{c:ByteArray}{ind:Nat}{m:ag}(h:jQ c ind=some m):∃k v,m={kind:=6,n:=v,ch:=c.extract k (k+1),off:=ind+k+2,info:=c.extract 0 k,rest:=aA (c.extract (k+1) c.size)}:=by
 unfold jQ nY at h;split at h
 ·split at h
  ·injection h with h;exact⟨_,_,h.symm⟩
  ·cases h
 ·cases h
theorem Gf{c:ByteArray}{ind:Nat}{m:ag}(h:kG c ind=some m):m.kind=7:=by
 unfold kG at h;split at h
 ·split at h
  ·injection h with h;subst h;rfl
  ·cases h
 ·cases h
theorem Df{c:ByteArray}{m:ag}(h:jL c=some m):m.kind=8:=by
 unfold jL at h;split at h
 ·injection h with h;subst h;rfl
 ·cases h
theorem Dh{c:ByteArray}{m:ag}(h:kK c=some m):m.kind=9:=by
 unfold kK wV at h;split at h
 ·split at h
  ·generalize jq _=o at h;cases o with
   |none=>cases h
   |some a=>injection h with h;subst h;rfl
  ·cases h
 ·cases h
theorem Ai{c:ByteArray}{m:ag}(h:jC c=some m):jB (c.extract 2 c.size)=true∧m={kind:=10,info:=gG (c.extract 2 c.size),off:=4,rest:=aT (aA (fB (c.extract 2 c.size))) 1}:=by
 unfold jC yj at h;split at h
 ·split at h
  ·rename_i h0;injection h with h;exact⟨h0.1,h.symm⟩
  ·cases h
 ·cases h
theorem Z5{L:ByteArray}{d:List UInt8}{A:ByteArray}{n:Nat}{m:ag}(h:vF L d A n=some m):m.kind=11:=by
 unfold vF at h;by_cases h1:A.size=0
 ·rw[if_pos h1] at h;injection h with h;rw[←h]
 rw[if_neg h1] at h;by_cases h2:A.size=n
 ·rw[if_pos h2] at h;cases h
 rw[if_neg h2] at h;generalize dD A 0=o at h;cases o with
 |none=>cases h
 |some p=>
  obtain⟨t,q⟩:=p;simp only at h;by_cases h3:aF (A.extract q A.size)=true
  ·rw[if_pos h3] at h;injection h with h;rw[←h]
  ·rw[if_neg h3] at h;cases h
theorem Z7{L r:ByteArray}{m:ag}(h:vG L r=some m):m.kind=11:=by
 unfold vG at h;generalize bI r 0=o at h;cases o with
 |none=>cases h
 |some p=>exact Z5 h
theorem Di{c:ByteArray}{m:ag}(h:jD c=some m):m.kind=11:=by
 unfold jD at h;by_cases h1:bt c 0=91∧jB (aA c)=true∧Lib.hasPrefix (bytesL (fB (aA c))) [58]=true∧dK (bytesL (gG (aA c)))≠[]
 ·rw[if_pos h1] at h;exact Z7 h
 ·rw[if_neg h1] at h;cases h
theorem Aj:∀(l:List (Option ag)) (m:ag),fH l=some m→some m∈l
 |some x :: l,m,h=>by injection h with h;subst h;exact List.mem_cons_self ..
 |none :: l,m,h=>List.mem_cons_of_mem _ (Aj l m h)
theorem yD(c:ByteArray)(a b:Nat):mk (sfx (mk (sfx c a)) b)=mk (sfx c (a+b)):=by
 unfold sfx;rw[bytesL_mk',List.drop_drop]
theorem xk(x:ByteArray):aA x=mk (sfx x 1):=extract_drop x 1
theorem Kw(x:ByteArray)(n:Nat):aT x n=mk (sfx x (min n (ah x 0))):=extract_drop x _
def Z8(c:ByteArray)(ind:Nat)(m:ag):Prop:=m.kind=4∨m.kind=5∨m.kind=6∨m.kind=10→∃j,m.rest=mk (sfx c j)∧(m.kind=10→m.off=4)∧(m.kind≠10→m.off=ind+j)
theorem Z9(c:ByteArray)(ind:Nat)(h0:0<c.size)(m:ag)(h:some m∈jd c ind):Z8 c ind m:=by
 unfold jd at h;simp only[List.mem_cons,List.not_mem_nil,or_false] at h;intro hk;rcases h with h|h|h|h|h|h|h|h|h|h
 ·have:=CY h.symm;omega
 ·have:=CZ h.symm;omega
 ·obtain⟨hq,rfl⟩:=Ah h.symm;have e:aT (aA c) 1=mk (sfx c (1+min 1 (ah (aA c) 0))):=by rw[Kw,xk,yD,←xk]
  refine⟨1+min 1 (ah (aA c) 0),e,(fun h=>by cases h),fun _=>?_⟩;have h1:=kC (aA c);have h2:=wR c;show ind+c.size - (aT (aA c) 1).size=_;rw[e,mk_size,sfx_len];omega
 ·have:=Dc h.symm;subst this;exact⟨2,by show aA (aA c)=_;rw[xk,xk,yD],(fun h=>by cases h),fun _=>rfl⟩
 ·obtain⟨k,v,rfl⟩:=Z4 h.symm;refine⟨k+2,?_,(fun h=>by cases h),fun _=>?_⟩
  ·show aA (c.extract (k+1) c.size)=_;rw[extract_drop,xk,yD]
  ·show ind+k+2=_;omega
 ·have:=Gf h.symm;omega
 ·have:=Df h.symm;omega
 ·have:=Dh h.symm;omega
 ·obtain⟨hc,rfl⟩:=Ai h.symm;unfold jB at hc;have hc:=of_decide_eq_true hc;refine⟨2+(brk (bytesL (c.extract 2 c.size))+1)+(1+min 1 (ah (aA (fB (c.extract 2 c.size))) 0)),?_,fun _=>rfl,fun h=>absurd rfl h⟩;show aT (aA (fB (c.extract 2 c.size))) 1=_;rw[Kw];generalize min 1 (ah (aA (fB (c.extract 2 c.size))) 0)=q;have e:fB (c.extract 2 c.size)=mk (sfx c (2+(brk (bytesL (c.extract 2 c.size))+1))):=by
   unfold fB;rw[if_pos hc,extract_drop,extract_drop,yD]
  rw[e,xk,yD,yD]
 ·have:=Di h.symm;omega
theorem Gg(s:ByteArray)(hk:(ai s).kind=4∨(ai s).kind=5∨(ai s).kind=6∨(ai s).kind=10) :
 (ai s).rest.size≤s.size∧s.extract (s.size - (ai s).rest.size) s.size=(ai s).rest∧((ai s).kind=10→(ai s).off=4)∧((ai s).kind≠10→s.size - (ai s).rest.size=(ai s).off∨(ai s).rest.size=0∧s.size - (ai s).rest.size≤(ai s).off):=by
 have hR:(0<(s.extract (ah s 0) s.size).size∧some (ai s)∈jd (s.extract (ah s 0) s.size) (ah s 0)):=by
  unfold ai at hk ⊢;by_cases hb:aF s=true
  ·rw[if_pos hb] at hk;have:(1:Nat)=4∨(1:Nat)=5∨(1:Nat)=6∨(1:Nat)=10:=hk;omega
  ·rw[if_neg hb] at hk ⊢;unfold rq at hk ⊢;by_cases h3:3<ah s 0
   ·rw[if_pos h3] at hk;have:(0:Nat)=4∨(0:Nat)=5∨(0:Nat)=6∨(0:Nat)=10:=hk;omega
   ·rw[if_neg h3] at hk ⊢;have h1:=kC s;have h2:ah s 0≠s.size:=fun e=>hb (by unfold aF;exact aeq e);refine⟨by rw[aex];omega,?_⟩;cases hf:fH (jd (s.extract (ah s 0) s.size) (ah s 0)) with
    |none=>
     rw[hf] at hk;have:(0:Nat)=4∨(0:Nat)=5∨(0:Nat)=6∨(0:Nat)=10:=hk;omega
    |some m=>exact Aj _ _ hf
 obtain⟨h0,hm⟩:=hR;obtain⟨j,e1,e2,e3⟩:=Z9 _ _ h0 _ hm hk;have e4:(ai s).rest=mk (sfx s (ah s 0+j)):=by rw[e1,extract_drop,yD]
 have hz:(ai s).rest.size=s.size - (ah s 0+j):=by rw[e4,mk_size,sfx_len]
 refine⟨by omega,?_,e2,fun h=>?_⟩
 ·rw[hz,extract_drop,e4];rcases Nat.le_total (ah s 0+j) s.size with h|h
  ·rw[show s.size - (s.size - (ah s 0+j))=ah s 0+j by omega]
  ·rw[kU s _ h,kU s _ (by omega)]
 ·have:=e3 h;omega
end Go.Proofs.YtpoafhgbhnblmaaGreatDoor
