import Derived.Test.YtpoafhgbhnblmaaGreatDoorF24
set_option linter.unusedVariables false
set_option linter.unusedSimpArgs false
set_option maxRecDepth 100000
set_option maxHeartbeats 20000000
namespace Go.Proofs.YtpoafhgbhnblmaaGreatDoor
open Go.Proofs.Tryz (prog)
open Go.RowKit
theorem Tc(acc:List Int):(acc.flatMap bn).isEmpty=acc.isEmpty:=by
 cases acc with
 |nil=>rfl
 |cons a l=>
  have:=Iz a;simp only[List.flatMap_cons];cases h:bn a with
  |nil=>rw[h] at this;simp at this
  |cons x y=>rfl
def Td(l:List (Nat × Nat))(R:List UInt8)(w1:World)(v gv i:Value)(wr:World):Prop:=
 ∃(k:Nat) (g:Bool) (acc:List Int),i=.int .i64 k∧gv=.bool g∧k≤l.length∧wr.ownsRow w1.heap.size 3 1 v acc.length (intCells acc)∧Below w1.heap.size w1 wr∧lI g (acc.flatMap bn) (l.drop k)=R∧acc.length≤2 * k
theorem abp(s:ByteArray)(w:World)(hs:s.size≤1000000):Calls prog 248 #[.string s] w fun e w'=>e=.returned (.string ⟨(kV s).toArray⟩)∧Below w.heap.size w w':=by
 have HC:Hid (lI false [] (pts s)=kV s):=aen rfl;have HP:=aen (Jh s);have hlen:=Iq s;generalize kV s=R at *;generalize pts s=l at *;obtain⟨i0,hi0,hz0,hz1,hz2⟩:=info_parts abo;go_enter Tryz.func248,Tryz.ntmps248;go_wp2_with fail;refine(HP.out _ hs).mono ?_;rintro e w1 ⟨v0,rfl,hown0,hb1⟩;obtain⟨A,cp,rfl⟩:=ay hown0;have hrd:=Reads.of_own hown0;go_wp2;go_loopw [3,4,10] (fun v g i wr=>Td l R w1 v g i wr) (fun _ _ i _=>l.length - (intOf i).toNat);case atStart=>exact⟨0,false,[],rfl,rfl,by omega,World.ownsRow_nil _ _ _ _,aer _ w1,HC.out,by simp⟩
 case round=>
  obtain⟨k,g,acc,rfl,rfl,hk,hown,hb,hacc,WE⟩:=hrel;have aY:=aen hacc;clear hacc;by_cases hlt:k<l.length
  ·obtain⟨ad,rfl,sU,hcell⟩:=hrd.2 (by omega);obtain⟨gb,hg⟩:∃g,ad=⟨g,0,none⟩:=by
    obtain⟨g,cap,hv,_⟩:=hown0.form (by omega);injection hv with h1 h2 h3
    injection h1 with h1
    exact⟨g,h1⟩
   subst hg;have hp:=Ir l k l[k] (List.getElem?_eq_getElem hlt);have hc0:wr.cell? ⟨gb,k * 2,none⟩=some (.int .i64 l[k].1):=(hb.cell (p:=⟨gb,k * 2,none⟩) sU).trans (by rw[←add_plain];exact hcell _ _ hp.1);have hc1:wr.cell? ⟨gb,k * 2+1,none⟩=some (.int .i64 l[k].2):=(hb.cell (p:=⟨gb,k * 2+1,none⟩) sU).trans (by rw[←add_plain];exact hcell _ _ hp.2);have hz:=hb.size;have hstep:Hid (lI g (acc.flatMap bn) (l[k] :: l.drop (k+1))=R):=aen (by rw[←aY.out,List.drop_eq_getElem_cons hlt]);have hsp:=aen (XV (l[k].1:Int));have hlow:=aen (XX (l[k].1:Int));clear hp hcell;have hlk:=hlt;generalize l[k]=D at *;by_cases qQ:qO D.1=true
   ·have hst:=aen ((Oc g (acc.flatMap bn) D (l.drop (k+1)) qQ).symm.trans hstep.out);go_wp2_with fail;refine(hsp.out _).mono ?_;rw[qQ];rintro e w' ⟨rfl,rfl⟩;go_wp2;go_roundw;case rel=>exact⟨k+1,true,acc,by go_num,rfl,by omega,hown.alloc _,hb.alloc hz _,hst.out,by omega⟩
    case measure=>simp[intOf];omega
   ·rw[Bool.not_eq_true] at qQ;have hst:=aen ((Oe g (acc.flatMap bn) D (l.drop (k+1)) qQ).symm.trans hstep.out);have dn:Hid (∀(pre:List Int) (v:Value) (w2:World),pre.flatMap bn=(if g&&!(acc.flatMap bn).isEmpty then [32] else [])→pre.length≤1→w2.ownsRow w1.heap.size 3 1 v ((acc++pre).length+[jy (D.1:Int)].length) (intCells (acc++pre)++intCells [jy (D.1:Int)])→Below w1.heap.size w1 w2→Td l R w1 v (.bool false) (.int .i64 ((k:Int)+1)) w2):=aen (by
     intro pre v w2 e hl h1 h3;refine⟨k+1,false,(acc++pre)++[jy (D.1:Int)],by go_num,rfl,by omega,?_,h3,?_,by simp;omega⟩
     ·rw[S9,aey];exact h1
     ·rw[←hst.out,List.flatMap_append,List.flatMap_append,e];simp)
    generalize jy (D.1:Int)=L at *;by_cases uS:g=true∧acc≠[]
    ·obtain⟨rfl,hne⟩:=uS;have hpos:0<acc.length:=List.length_pos_iff.2 hne;have hpc:Hid (([32]:List Int).flatMap bn=(if true&&!(acc.flatMap bn).isEmpty then [32] else [])):=aen (by
      rw[Tc,show acc.isEmpty=false by cases acc <;> simp_all];show bn ((32:Nat):Int)++[]=_;rw[abn 32 (by decide)];rfl)
     clear hne;obtain⟨A2,cp2,rfl⟩:=ay hown;go_wp2_with fail;refine(hsp.out _).mono ?_;rw[qQ];rintro e w' ⟨rfl,rfl⟩;go_wp2_with (at_builtin;refine wpList_append_own _ rfl _ _ 104 rfl w1.heap.size 3 i0 _ 1 8 Tryz.underlying104 hi0 hz0 hz1 hz2 rfl (by decide) _ _ _ rfl ((hown.alloc _).alloc _) ⟨wr.heap.size+1,0,none⟩ 1 1 (intCells [32]) rfl rfl ?c1 ?c2 ?c3 ?c4 ?c5 ?_);case c1=>
      intro j u hj;match j,hj with
      |0,hj=>simp[intCells] at hj;subst hj;simp[Addr.add]
     case c2=>intro u hu;simp[intCells] at hu;subst hu;rfl
     case c3=>unfold maxLen;omega
     case c4=>omega
     case c5=>first|(simp;omega)|omega
     intro v' w2 hown2 hgrow _;obtain⟨t1,t2,t3⟩:=LQ hown hgrow hb rfl;have hown3:w2.ownsRow w1.heap.size 3 1 v' (acc++[32]).length (intCells (acc++[32])):=by rw[S9,aey];exact hown2
     have hzz:=t3.size;have hlz:(acc++[32]).length=acc.length+1:=by simp
     have LU:=aen hlz;go_wp2_with fail;refine(hlow.out _).mono ?_;rintro e w' ⟨rfl,rfl⟩;clear hlz;go_wp2_with (at_builtin;refine wpList_append_own _ rfl _ _ 104 rfl w1.heap.size 3 i0 _ 1 8 Tryz.underlying104 hi0 hz0 hz1 hz2 rfl (by decide) _ _ _ rfl (hown3.alloc _) ⟨w2.heap.size,0,none⟩ 1 1 (intCells [L]) rfl rfl ?c1 ?c2 ?c3 ?c4 ?c5 ?_);case c1=>
      intro j u hj;match j,hj with
      |0,hj=>simp[intCells] at hj;subst hj;simp[Addr.add]
     case c2=>intro u hu;simp[intCells] at hu;subst hu;rfl
     case c3=>rw[LU.out];unfold maxLen;omega
     case c4=>rw[LU.out];omega
     case c5=>first|(simp;omega)|omega
     intro v'' w4 hown4 hgrow4 _;go_wp2;go_roundw;case rel=>exact dn.out [32] _ _ hpc.out (by simp) (by rw[LU.out];exact hown4) ((t3.alloc hzz _).grown hgrow4 (by simp;omega) (fun k hk=>(hown3.lt k hk).1))
     case measure=>simp[intOf];omega
    ·have hpc:Hid (([]:List Int).flatMap bn=(if g&&!(acc.flatMap bn).isEmpty then [32] else [])):=aen (by
      rw[Tc];cases acc <;> cases g <;> simp_all)
     by_cases hg:g=true
     ·subst hg;have hne:acc=[]:=Classical.not_not.1 fun h=>uS ⟨rfl,h⟩;subst hne;clear uS;obtain⟨A2,cp2,rfl⟩:=ay hown;go_wp2_with fail;refine(hsp.out _).mono ?_;rw[qQ];rintro e w' ⟨rfl,rfl⟩;go_wp2_with fail;refine(hlow.out _).mono ?_;rintro e w' ⟨rfl,rfl⟩;go_wp2_with (at_builtin;refine wpList_append_own _ rfl _ _ 104 rfl w1.heap.size 3 i0 _ 1 8 Tryz.underlying104 hi0 hz0 hz1 hz2 rfl (by decide) _ _ _ rfl ((hown.alloc _).alloc _) ⟨wr.heap.size+1,0,none⟩ 1 1 (intCells [L]) rfl rfl ?c1 ?c2 ?c3 ?c4 ?c5 ?_);case c1=>
       intro j u hj;match j,hj with
       |0,hj=>simp[intCells] at hj;subst hj;simp[Addr.add]
      case c2=>intro u hu;simp[intCells] at hu;subst hu;rfl
      case c3=>unfold maxLen;omega
      case c4=>omega
      case c5=>first|(simp;omega)|omega
      intro v' w2 hown2 hgrow _;obtain⟨t1,t2,t3⟩:=LQ hown hgrow hb rfl;go_wp2;go_roundw;case rel=>exact dn.out [] _ _ hpc.out (by simp) (by rw[List.append_nil];exact hown2) t3
      case measure=>simp[intOf];omega
     ·rw[Bool.not_eq_true] at hg;subst hg;clear uS;go_wp2_with fail;refine(hsp.out _).mono ?_;rw[qQ];rintro e w' ⟨rfl,rfl⟩;go_wp2_with fail;refine(hlow.out _).mono ?_;rintro e w' ⟨rfl,rfl⟩;go_wp2_with (at_builtin;refine wpList_append_own _ rfl _ _ 104 rfl w1.heap.size 3 i0 _ 1 8 Tryz.underlying104 hi0 hz0 hz1 hz2 rfl (by decide) _ _ _ rfl ((hown.alloc _).alloc _) ⟨wr.heap.size+1,0,none⟩ 1 1 (intCells [L]) rfl rfl ?c1 ?c2 ?c3 ?c4 ?c5 ?_);case c1=>
       intro j u hj;match j,hj with
       |0,hj=>simp[intCells] at hj;subst hj;simp[Addr.add]
      case c2=>intro u hu;simp[intCells] at hu;subst hu;rfl
      case c3=>unfold maxLen;omega
      case c4=>omega
      case c5=>first|(simp;omega)|omega
      intro v' w2 hown2 hgrow _;obtain⟨t1,t2,t3⟩:=LQ hown hgrow hb rfl;go_wp2;go_roundw;case rel=>exact dn.out [] _ _ hpc.out (by simp) (by rw[List.append_nil];exact hown2) t3
      case measure=>simp[intOf];omega
  ·obtain rfl:k=l.length:=by omega
   have hR:Hid (acc.flatMap bn=R):=aen (by rw[←aY.out,List.drop_length];rfl);obtain⟨A2,cp2,rfl⟩:=ay hown;have hA:A2=none∨∃g,A2=some ⟨g,0,none⟩:=by
    rcases hown.2 with ⟨hv,_⟩|⟨g,cap,cur,hv,_⟩
    ·injection hv with h1;exact .inl h1
    ·injection hv with h1;exact .inr ⟨g,h1⟩
   have HT:=aen (WJ acc A2 cp2 wr (by omega) ⟨_,aeo _,Reads.of_own hown⟩ hA);have hz:=hb.size;have hz1:=hb1.size;go_wp2_with fail;refine HT.out.mono ?_;rintro e w3 ⟨rfl,b3⟩;go_wp2;go_ret;exact⟨dX (by rw[hR.out]),(hb1.trans (hb.mono hb1.size)).trans (b3.mono (by omega))⟩
theorem abq(c:Int)(h:iH c=true):inB c kW=true∨(inB c kW=false∧(lJ c=true∨(lJ c=false∧((c != 32)=false∨((c != 32)=true∧((c != 45)=false∨((c != 45)=true∧((c != 95)=false∨((c != 95)=true∧((c != 46)=false∨((c != 46)=true∧(c != 58)=false))))))))))):=by
 unfold iH at h;unfold bne;cases h1:inB c kW <;> cases h2:lJ c <;> cases h3:c==32 <;> cases h4:c==45 <;> cases h5:c==95 <;> cases h6:c==46 <;> cases h7:c==58 <;> simp_all
theorem abr(c:Int)(h:iH c=false):inB c kW=false∧lJ c=false∧(c != 32)=true∧(c != 45)=true∧(c != 95)=true∧(c != 46)=true∧(c != 58)=true:=by
 unfold iH at h;simp only[Bool.or_eq_false_iff] at h;unfold bne;rw[h.1.1.1.1.2,h.1.1.1.2,h.1.1.2,h.1.2,h.2];exact⟨h.1.1.1.1.1.1,h.1.1.1.1.1.2,rfl,rfl,rfl,rfl,rfl⟩
theorem abt(s:ByteArray)(w:World)(hs:s.size≤1000000) :
 Calls prog 223 #[.string s] w fun e w'=>e=.returned (.string (mk (dK (bytesL s))))∧Below w.heap.size w w':=by
 have HC:=aen fun W=>abp s W hs;have hR:dK (bytesL s)=if 60<(kV s).length then [] else if (pts (mk (kV s))).all fun p=>iH p.1 then kV s else []:=by unfold dK;rw[eX]
 have HR:=aen hR;clear hR;generalize dK (bytesL s)=R at *;generalize kV s=F at *;obtain⟨g,hg⟩:∃g:ByteArray,g=mk F:=⟨_,rfl⟩;have HG:Hid (mk F=g):=aen hg.symm;have hgs:g.size=F.length:=by rw[hg];show F.toArray.size=_;simp
 have xZ:Hid (∀W,Calls prog 248 #[.string s] W fun e w'=>e=.returned (.string g)∧Below W.heap.size W w'):=aen (by rw[hg];exact HC.out);clear HC hg;by_cases hl:g.size<1∨60<g.size
 ·have HF:Hid (R=[]):=aen (by
   rw[HR.out];rcases hl with hl|hl
   ·have:F=[]:=List.length_eq_zero_iff.1 (by omega);rw[this,if_neg (by simp)];split <;> rfl
   ·rw[if_pos (by omega)])
  clear hgs;have hw:g.size=0∨(decide ((g.size:Int)<1)=false∧60<g.size):=by
   rcases hl with hl|hl
   ·exact Or.inl (by omega)
   ·exact Or.inr ⟨by simp;omega,hl⟩
  clear hl;rcases hw with z1|⟨z1,z2⟩;all_goals
   go_enter Tryz.func223,Tryz.ntmps223;go_wp2_with fail;with_reducible refine(xZ.out _).mono ?_
   rintro e w1 ⟨rfl,b1⟩;go_wp2;go_ret;exact⟨dX (by rw[HF.out];rfl),b1⟩
 ·have HR2:Hid (R=if (pts g).all (fun p=>iH p.1) then F else []):=aen (by rw[HR.out,if_neg (by omega),HG.out]);have zl:decide (60<(g.size:Int))=false:=by simp;omega
  have zk:decide ((g.size:Int)<1)=false:=by simp;omega
  have HP:=aen (Jh g);have hlen:=Iq g;generalize pts g=l at *;clear hgs HR;go_enter Tryz.func223,Tryz.ntmps223;go_wp2_with fail;with_reducible refine(xZ.out _).mono ?_
  rintro e w1 ⟨rfl,b1⟩;have hz1:=b1.size;go_wp2_with fail;refine(HP.out _ (by omega)).mono ?_;rintro e w2 ⟨v0,rfl,hown0,b2⟩;obtain⟨A,cp,rfl⟩:=ay hown0;have hrd:=Reads.of_own hown0;have hz2:=b2.size;go_wp2;go_loopw [20] (fun i wr=>∃k:Nat,i=.int .i64 k∧k≤l.length∧Below w2.heap.size w2 wr∧Hid (l.all (fun p=>iH p.1)=(l.drop k).all (fun p=>iH p.1))) (fun i _=>l.length - (intOf i).toNat);case atStart=>exact⟨0,rfl,by omega,aer _ _,aen (by rw[List.drop_zero])⟩
  case round=>
   obtain⟨k,rfl,hk,hb,Tf⟩:=hrel;by_cases hlt:k<l.length
   ·obtain⟨ad,rfl,sU,hcell⟩:=hrd.2 (by omega);obtain⟨gb,hg⟩:∃g,ad=⟨g,0,none⟩:=by
     obtain⟨g,cap,hv,_⟩:=hown0.form (by omega);injection hv with h1 h2 h3
     injection h1 with h1
     exact⟨g,h1⟩
    subst hg;have hp:=Ir l k l[k] (List.getElem?_eq_getElem hlt);have hc0:wr.cell? ⟨gb,k * 2,none⟩=some (.int .i64 l[k].1):=(hb.cell (p:=⟨gb,k * 2,none⟩) sU).trans (by rw[←add_plain];exact hcell _ _ hp.1);have hc1:wr.cell? ⟨gb,k * 2+1,none⟩=some (.int .i64 l[k].2):=(hb.cell (p:=⟨gb,k * 2+1,none⟩) sU).trans (by rw[←add_plain];exact hcell _ _ hp.2);have hz:=hb.size;have hst:Hid (l.all (fun p=>iH p.1)=(iH l[k].1&&(l.drop (k+1)).all (fun p=>iH p.1))):=aen (by rw[Tf.out,List.drop_eq_getElem_cons hlt,List.all_cons]);clear hp hcell;have HL:=aen fun W=>X0 (l[k].1:Int) W;have HD:=aen fun W=>XW (l[k].1:Int) W;generalize l[k]=D at *;cases hlb:iH (D.1:Int)
    ·have HF:Hid (R=[]):=aen (by rw[HR2.out,hst.out,hlb,if_neg (by simp)]);obtain⟨y1,y2,y3,y4,y5,y6,y7⟩:=abr _ hlb;clear hlb;rw[y1] at HL;rw[y2] at HD;clear y1 y2;go_wp2_with fail;with_reducible refine(HL.out _).mono ?_
     rintro e w3 ⟨rfl,b3⟩;go_wp2_with fail;with_reducible refine(HD.out _).mono ?_
     rintro e w' ⟨rfl,rfl⟩;go_wp2_with fail;go_ret;exact⟨dX (by rw[HF.out];rfl),b1.trans ((b2.trans (((hb.alloc hz _).trans (b3.mono (by simp;omega))).mono hz2)).mono hz1)⟩
    ·have hst2:Hid (l.all (fun p=>iH p.1)=(l.drop (k+1)).all (fun p=>iH p.1)):=aen (by rw[hst.out,hlb,Bool.true_and]);have hy:=abq _ hlb;clear hlb;rcases hy with y1|⟨y1,y2|⟨y2,y3|⟨y3,y4|⟨y4,y5|⟨y5,y6|⟨y6,y7⟩⟩⟩⟩⟩⟩
     ·rw[y1] at HL;clear y1;go_wp2_with fail;with_reducible refine(HL.out _).mono ?_
      rintro e w3 ⟨rfl,b3⟩;go_wp2_with fail;go_roundw;case rel=>exact⟨k+1,by go_num,by omega,(hb.alloc hz _).trans (b3.mono (by simp;omega)),hst2⟩
      case measure=>simp[intOf];omega
     all_goals
      rw[y1] at HL;rw[y2] at HD;clear y1 y2;go_wp2_with fail;with_reducible refine(HL.out _).mono ?_
      rintro e w3 ⟨rfl,b3⟩;go_wp2_with fail;with_reducible refine(HD.out _).mono ?_
      rintro e w' ⟨rfl,rfl⟩;go_wp2_with fail;go_roundw;case rel=>exact⟨k+1,by go_num,by omega,(hb.alloc hz _).trans (b3.mono (by simp;omega)),hst2⟩
      case measure=>simp[intOf];omega
   ·obtain rfl:k=l.length:=by omega
    have HF:Hid (R=F):=aen (by rw[HR2.out,Tf.out,List.drop_length];rfl);go_wp2_with fail;go_ret;exact⟨dX (by rw[HF.out];exact HG.out.symm),b1.trans ((b2.trans (hb.mono hz2)).mono hz1)⟩
def dW(s:ByteArray)(k:Nat):Nat:=k+brk (sfx s k)
theorem Ti(s:ByteArray)(k:Nat)(h:s.size≤k):dW s k=k:=by unfold dW;rw[kU s k h];rfl
theorem Tj(c:UInt8)(l:List UInt8):brk (c :: l)=if c==93 then 0 else brk l+1:=by
 unfold brk;rw[List.findIdx_cons];cases c==93 <;> rfl
theorem Tm(s:ByteArray)(k:Nat):s.get! k=93↔bt s k=93:=eY s k 93 (by decide)
theorem Tn(s:ByteArray)(k:Nat)(h:k<s.size)(hc:bt s k=93):dW s k=k:=by
 unfold dW;rw[bV s k h,Tj,(Tm s k).2 hc];rfl
theorem Tq(s:ByteArray)(k:Nat)(h:k<s.size)(hc:bt s k≠93):dW s k=dW s (k+1):=by
 unfold dW;rw[bV s k h,Tj,if_neg (by rw[beq_iff_eq];exact fun e=>hc ((Tm s k).1 e))];omega
theorem abu(s:ByteArray)(i:Nat)(h:i<s.size)(hc:bt s i=91):iI s i=if dW s (i+1)<s.size∧dK (sub s (i+1) (dW s (i+1)))≠[] then some (dK (sub s (i+1) (dW s (i+1))),dW s (i+1)+1) else none:=by
 unfold iI;rw[if_pos ⟨h,hc⟩];have e1:(sfx s (i+1)).take (brk (sfx s (i+1)))=sub s (i+1) (dW s (i+1)):=by
  unfold sub sfx dW;congr 1;show _=i+1+brk (sfx s (i+1)) - (i+1);unfold sfx;omega
 have e2:brk (sfx s (i+1))<(sfx s (i+1)).length↔dW s (i+1)<s.size:=by
  rw[sfx_len];unfold dW;omega
 have e3:i+brk (sfx s (i+1))+2=dW s (i+1)+1:=by unfold dW;omega
 rw[e1,e3];by_cases hh:dW s (i+1)<s.size∧dK (sub s (i+1) (dW s (i+1)))≠[]
 ·rw[if_pos hh,if_pos ⟨e2.2 hh.1,hh.2⟩]
 ·rw[if_neg hh,if_neg (fun e=>hh ⟨e2.1 e.1,e.2⟩)]
theorem abv(s:ByteArray)(i k:Nat)(w:World)(hs:s.size≤1000000):Calls prog 223 #[.string (s.extract i k)] w fun e w'=>e=.returned (.string (mk (dK (sub s i k))))∧Below w.heap.size w w':=by
 have h:=abt (s.extract i k) w (by have:(s.extract i k).size≤s.size:=(by rw[aex];omega);omega);rw[bytesL_sub] at h;exact h
theorem Ee{W:World}{g:Nat}{x y z:Value}{P:Ending→World→Prop}{act:Act}(hr:ae W g 179 #[x,y,z])(h4:act.tmps.getD 4 undef=.pointer (some ⟨g,0,none⟩))
 (hd:act.defers=[]) (hP:P (.returned (.agg #[x,y,z])) W):bodyPost prog Tryz.f184 P Exit.ret act W:=by
 have c0:W.cell? ⟨g,0,none⟩=some x:=hr.cell 0;have c1:W.cell? ⟨g,1,none⟩=some y:=hr.cell 1;have c2:W.cell? ⟨g,2,none⟩=some z:=hr.cell 2;refine bodyPost_ret (v:=.agg #[x,y,z]) ?_ hd hP;rw[aew] at h4;simp[results,Tryz.results184,go_sem,h4,c0,c1,c2]
theorem abw(s:ByteArray)(i:Nat)(w:World)(hs:s.size≤1000000)(hi:i≤s.size)(h:¬(i<s.size∧bt s i=91)) :
 Calls prog 184 #[.string s,.int .i64 i] w (jO (iI s i) w):=by
 have HR:Hid (iI s i=none):=aen (by unfold iI;rw[if_neg h]);generalize iI s i=R at *;have zi:decide ((i:Int)<0)=false:=by simp
 by_cases hlt:i<s.size
 ·have z0:(((s[i].toNat:Nat):Int) != 91)=true:=by rw[get_bt s i hlt];simp;omega
  have zj:decide (s.size≤i)=false:=by simp;omega
  clear h;go_enter Tryz.func184,Tryz.ntmps184;go_wp2;exact Ee (ae.new _ _ _) rfl rfl (oW HR.out ((aer _ _).alloc (aeo _) _))
 ·have zj:decide (s.size≤i)=true:=by simp;omega
  clear h;go_enter Tryz.func184,Tryz.ntmps184;go_wp2;exact Ee (ae.new _ _ _) rfl rfl (oW HR.out ((aer _ _).alloc (aeo _) _))
theorem abx(s:ByteArray)(i:Nat)(w:World)(hs:s.size≤1000000)(hi:i<s.size)(h:bt s i=91) :
 Calls prog 184 #[.string s,.int .i64 i] w (jO (iI s i) w):=by
 have HR:=aen (abu s i hi h);generalize iI s i=R at *;have z0:(((s[i].toNat:Nat):Int) != 91)=false:=by rw[get_bt s i hi,h];rfl
 have zi:decide ((i:Int)<0)=false:=by simp
 have zj:decide (s.size≤i)=false:=by simp;omega
 clear h;go_enter Tryz.func184,Tryz.ntmps184;go_wp2;go_loopw [5] (fun a wr=>∃k:Nat,i+1≤k∧k≤s.size∧a=.int .i64 k∧Hid (dW s k=dW s (i+1))∧Z3 wr w.heap.size∧Below w.heap.size w wr) (fun a _=>s.size - (intOf a).toNat);case atStart=>exact⟨i+1,by omega,by omega,by go_num,aen rfl,ae.new _ _ _,(aer _ _).alloc (aeo _) _⟩
 case round=>
  obtain⟨k,hk1,hk,rfl,Hk,hB,hbw⟩:=hrel;have hz:=hbw.size;have HB:=aen hB;have hgl:=hB.lt;clear hB;by_cases hlt:k<s.size
  ·by_cases hc:bt s k=93
   ·have y1:(((s[k].toNat:Nat):Int) != 93)=false:=by rw[get_bt s k hlt,hc];rfl
    have HK:Hid (R=if dK (sub s (i+1) k)≠[] then some (dK (sub s (i+1) k),k+1) else none):=aen (by
     rw[HR.out,←Hk.out,Tn s k hlt hc];by_cases hh:dK (sub s (i+1) k)≠[]
     ·rw[if_pos ⟨hlt,hh⟩,if_pos hh]
     ·rw[if_neg (fun e=>hh e.2),if_neg hh])
    have HC:=aen fun W=>abv s (i+1) k W hs;clear hc HR;generalize dK (sub s (i+1) k)=Lb at *;cases Lb with
    |nil=>
     have HF:Hid (R=none):=aen (by rw[HK.out,if_neg (by simp)]);have xZ:Hid (∀W,Calls prog 223 #[.string (s.extract (i+1) k)] W fun e w'=>e=.returned (.string ⟨#[]⟩)∧Below W.heap.size W w'):=aen HC.out;go_wp2_with fail;with_reducible refine(xZ.out _).mono ?_
     rintro e w1 ⟨rfl,b1⟩;have HB1:=aen (show Z3 w1 w.heap.size from ae.below HB.out b1 hgl);obtain⟨c0,c1,c2,f0,f1,f2⟩:=Z3.facts HB1.out;go_wp2;exact Ee (fZ HB1.out rfl _ _ _) rfl rfl (oW HF.out (below3 (hbw.trans (b1.mono hz)) (aeo _) _ _ _))
    |cons c l=>
     have HF:Hid (R=some (c :: l,k+1)):=aen (by rw[HK.out,if_pos (by simp)]);have x1:(mk (c :: l)).toList.isEmpty=false:=by rw[Lib.toList_data];rfl
     have x2:(mk (c :: l)).toList=c :: l:=by rw[Lib.toList_data];rfl
     generalize hG:mk (c :: l)=G at *;have HG:=aen hG;clear hG;go_wp2_with fail;with_reducible refine(HC.out _).mono ?_
     rintro e w1 ⟨rfl,b1⟩;have hz1:=b1.size;have HB1:=aen (show Z3 w1 w.heap.size from ae.below HB.out b1 hgl);have Jl:=HB1.out.lt;go_wp2_with fail;with_reducible refine(HC.out _).mono ?_
     rintro e w2 ⟨rfl,b2⟩;have HB2:=aen (show Z3 w2 w.heap.size from ae.below HB1.out b2 Jl);obtain⟨c0,c1,c2,f0,f1,f2⟩:=Z3.facts HB2.out;go_wp2;exact Ee (fZ HB2.out rfl _ _ _) rfl rfl (by rw[←HG.out];exact JC HF.out (by omega) (below3 ((hbw.trans (b1.mono hz)).trans (b2.mono (by omega))) (aeo _) _ _ _))
   ·have y1:(((s[k].toNat:Nat):Int) != 93)=true:=by rw[get_bt s k hlt];simp;omega
    have hst:=aen (Tq s k hlt hc);clear hc;go_wp2_with fail;go_roundw;case rel=>exact⟨k+1,by omega,by omega,by go_num,aen (by rw[←hst.out];exact Hk.out),HB.out,hbw⟩
    case measure=>simp[intOf];omega
  ·have HF:Hid (R=none):=aen (by rw[HR.out,←Hk.out,Ti s k (by omega),if_neg (fun e=>hlt e.1)]);have zk:decide (s.size≤k)=true:=by simp;omega
   obtain⟨c0,c1,c2,f0,f1,f2⟩:=Z3.facts HB.out;go_wp2_with fail;exact Ee (fZ HB.out rfl _ _ _) rfl rfl (oW HF.out (below3 hbw (aeo _) _ _ _))
theorem aby(s:ByteArray)(i:Nat)(w:World)(hs:s.size≤1000000)(hi:i≤s.size) :
 Calls prog 184 #[.string s,.int .i64 i] w (jO (iI s i) w):=by
 by_cases h:i<s.size∧bt s i=91
 ·exact abx s i w hs h.1 h.2
 ·exact abw s i w hs hi h
def ext(s:ByteArray)(j:Nat):ByteArray:=mk (sfx s j)
theorem ext_eq(s:ByteArray)(j:Nat):s.extract j s.size=ext s j:=extract_drop s j
theorem xy(s:ByteArray)(j k:Nat):sfx (ext s j) k=sfx s (j+k):=by unfold ext sfx;rw[bytesL_mk',List.drop_drop]
theorem LV(s:ByteArray)(j:Nat):bytesL (ext s j)=sfx s j:=bytesL_mk' _
theorem zh(s:ByteArray)(j k:Nat):ext (ext s j) k=ext s (j+k):=by unfold ext;rw[←xy];rfl
theorem ext_size(s:ByteArray)(j:Nat):(ext s j).size=s.size - j:=by unfold ext;rw[mk_size,sfx_len]
theorem Tt(s:ByteArray):ext s 0=s:=by unfold ext sfx;rw[List.drop_zero,eX]
theorem pO(s:ByteArray)(j k:Nat)(h:j+k<s.size):bt (ext s j) k=bt s (j+k):=by
 have e1:=bV (ext s j) k (by rw[ext_size];omega);rw[xy,bV s (j+k) h] at e1;injection e1 with e1 _
 unfold bt;rw[e1]
theorem Tu(s:ByteArray)(j a b:Nat):sub (ext s j) a b=sub s (j+a) (j+b):=by
 have e:∀(x:ByteArray) (u v:Nat),sub x u v=(sfx x u).take (v - u):=fun _ _ _=>rfl;rw[e,e,xy,show j+b - (j+a)=b - a by omega]
theorem Tv:∀l:List UInt8,yt l=trimF l
 | []=>rfl
 |c :: l=>by
  rw[Qq];by_cases h:c=32
  ·rw[if_pos h,h,wH];exact Tv l
  ·rw[if_neg h,zN _ _ h]
theorem GU(s:ByteArray)(j:Nat):cZ (ext s j)=ext s (ah s j):=by
 unfold cZ;rw[LV,Tv,JV];rfl
theorem LX(s:ByteArray):cZ s=ext s (ah s 0):=by have:=GU s 0;rwa [Tt] at this
theorem abz{α:Type}(o:Option α)(f g:α→α)(h:∀x,f x=g x):o.map f=o.map g:=by cases o;rfl;exact congrArg some (h _)
theorem abA(s:ByteArray)(a b j k:Nat):bY s a b (j+k)=(bY (ext s j) a b k).map (j+·):=by
 unfold bY;rw[xy,Option.map_map];exact abz _ _ _ fun x=>by show x+(j+k)=j+(x+k);omega
theorem LY(s:ByteArray)(a b j:Nat):dY s j a b=(dY (ext s j) 0 a b).map fun p=>(p.1,j+p.2):=by
 unfold dY;rw[abA s a b j 1,Option.map_map,Option.map_map,show 0+1=1 from rfl];cases bY (ext s j) a b 1 with
 |none=>rfl
 |some x=>
  show some _=some _;congr 1;show (bK (sub s (j+1) (j+x)),j+x+1)=(bK (sub (ext s j) 1 x),j+(x+1));rw[Tu];rfl
theorem Ty(s:ByteArray)(j:Nat):bI s (j:Nat)=if j<s.size then (if bt s j=60 then dY s j 62 60 else (bM s 0 j).bind fun k=>if k=j then none else some (bK (sub s j k),k)) else none:=by
 unfold bI;by_cases hj:j<s.size
 ·have g1:(0:Int)≤(j:Int)∧(j:Int)<(s.size:Int):=⟨by omega,by omega⟩;rw[if_pos g1,if_pos hj];rfl
 ·have g1:¬((0:Int)≤(j:Int)∧(j:Int)<(s.size:Int)):=by omega
  rw[if_neg g1,if_neg hj]
theorem Tz(s:ByteArray)(j:Nat):dD s (j:Nat)=if j<s.size then (if bt s j=34 then dY s j 34 34 else if bt s j=39 then dY s j 39 39 else none) else none:=by
 unfold dD;by_cases hj:j<s.size
 ·have g1:(0:Int)≤(j:Int)∧(j:Int)<(s.size:Int):=⟨by omega,by omega⟩;rw[if_pos g1,if_pos hj];rfl
 ·have g1:¬((0:Int)≤(j:Int)∧(j:Int)<(s.size:Int)):=by omega
  rw[if_neg g1,if_neg hj]
theorem abB(s:ByteArray)(j:Nat):bI s j=(bI (ext s j) 0).map fun p=>(p.1,j+p.2):=by
 rw[show bI (ext s j) 0=bI (ext s j) ((0:Nat):Int) from rfl,Ty,Ty];by_cases hj:j<s.size
 ·have g2:0<(ext s j).size:=by rw[ext_size];omega
  have e:bt (ext s j) 0=bt s j:=by rw[pO s j 0 (by omega)];rfl
  rw[if_pos hj,if_pos g2,e];by_cases h:bt s j=60
  ·rw[if_pos h,if_pos h];exact LY s 62 60 j
  ·rw[if_neg h,if_neg h];unfold bM;rw[xy,Nat.add_zero];cases mJ 0 (sfx s j) with
   |none=>rfl
   |some x=>
    show (if x+j=j then none else some (bK (sub s j (x+j)),x+j))=(if x+0=0 then none else some (bK (sub (ext s j) 0 (x+0)),x+0)).map _;by_cases hx:x=0
    ·rw[if_pos (by omega),if_pos (by omega)];rfl
    ·rw[if_neg (by omega),if_neg (by omega),Tu];show some _=some _;rw[Nat.add_zero,Nat.add_zero,Nat.add_comm x j]
 ·have g2:¬0<(ext s j).size:=by rw[ext_size];omega
  rw[if_neg hj,if_neg g2];rfl
theorem abC(s:ByteArray)(j:Nat):dD s j=(dD (ext s j) 0).map fun p=>(p.1,j+p.2):=by
 rw[show dD (ext s j) 0=dD (ext s j) ((0:Nat):Int) from rfl,Tz,Tz];by_cases hj:j<s.size
 ·have g2:0<(ext s j).size:=by rw[ext_size];omega
  have e:bt (ext s j) 0=bt s j:=by rw[pO s j 0 (by omega)];rfl
  rw[if_pos hj,if_pos g2,e];by_cases h:bt s j=34
  ·rw[if_pos h,if_pos h];exact LY s 34 34 j
  ·rw[if_neg h,if_neg h];by_cases h':bt s j=39
   ·rw[if_pos h',if_pos h'];exact LY s 39 39 j
   ·rw[if_neg h',if_neg h'];rfl
 ·have g2:¬0<(ext s j).size:=by rw[ext_size];omega
  rw[if_neg hj,if_neg g2];rfl
theorem abD(s:ByteArray)(j:Nat):iI s j=(iI (ext s j) 0).map fun p=>(p.1,j+p.2):=by
 unfold iI;have h0:sfx (ext s j) (0+1)=sfx s (j+1):=xy s j 1;rw[h0];by_cases hj:j<s.size∧bt s j=91
 ·have g2:0<(ext s j).size∧bt (ext s j) 0=91:=⟨by rw[ext_size];omega,by rw[pO s j 0 (by omega)];exact hj.2⟩;rw[if_pos hj,if_pos g2];by_cases h2:brk (sfx s (j+1))<(sfx s (j+1)).length∧dK ((sfx s (j+1)).take (brk (sfx s (j+1))))≠[]
  ·rw[if_pos h2,if_pos h2];show some _=some _;congr 2;show j+brk (sfx s (j+1))+2=j+(0+brk (sfx s (j+1))+2);omega
  ·rw[if_neg h2,if_neg h2];rfl
 ·have g2:¬(0<(ext s j).size∧bt (ext s j) 0=91):=by
   rintro ⟨h1,h2⟩;rw[ext_size] at h1;rw[pO s j 0 (by omega)] at h2;exact hj ⟨by omega,h2⟩
  rw[if_neg hj,if_neg g2];rfl
def GV(s:ByteArray)(l d:List UInt8)(e:Nat):Option (List UInt8 × List UInt8 × List UInt8):=
 if ah s e=s.size then some (l,d,[]) else if ah s e=e then none
 else match dD s (ah s e:Nat) with
  |none=>none
  |some t=>if ah s t.2<s.size then none else some (l,d,t.1)
def Ef(s:ByteArray)(l:List UInt8)(t:Nat):Option (List UInt8 × List UInt8 × List UInt8):=
 match bI s (ah s (t+1):Nat) with
 |none=>none
 |some d=>GV s l d.1 d.2
def zo(s:ByteArray):Option (List UInt8 × List UInt8 × List UInt8):=
 if 3<ah s 0 then none else
 match iI s (ah s 0) with
 |none=>none
 |some b=>if b.2<s.size∧bt s b.2=58 then Ef s b.1 b.2 else none
theorem TA(s:ByteArray)(i:Nat):i≤ah s i:=by rw[JR];omega
theorem LZ(s:ByteArray)(i:Nat)(h:i≤s.size):ah s i≤s.size:=(yu s i h).2
theorem abE(s:ByteArray)(l d:List UInt8)(j p:Nat)(hp:j+p≤s.size) :
 GV s l d (j+p)=(if (cZ ((ext s j).extract p (ext s j).size)).size=0 then some (l,d,[])
 else if (cZ ((ext s j).extract p (ext s j).size)).size=(ext s j).size - p then none
 else (dD (cZ ((ext s j).extract p (ext s j).size)) 0).bind fun t=>
  if (cZ ((cZ ((ext s j).extract p (ext s j).size)).extract t.2 (cZ ((ext s j).extract p (ext s j).size)).size)).size=0 then some (l,d,t.1) else none):=by
 have hA:cZ ((ext s j).extract p (ext s j).size)=ext s (ah s (j+p)):=by rw[ext_eq,zh,GU]
 rw[hA];have h1:=TA s (j+p);have h2:=LZ s (j+p) hp;unfold GV;generalize ah s (j+p)=k at *;rw[ext_size,ext_size];by_cases h3:k=s.size
 ·have g:s.size - k=0:=by omega
  rw[if_pos h3,if_pos g]
 have g3:¬s.size - k=0:=by omega
 rw[if_neg h3,if_neg g3];by_cases h4:k=j+p
 ·have g:s.size - k=s.size - j - p:=by omega
  rw[if_pos h4,if_pos g]
 have g4:¬s.size - k=s.size - j - p:=by omega
 rw[if_neg h4,if_neg g4,abC s k];cases ht:dD (ext s k) 0 with
 |none=>rfl
 |some t=>
  obtain⟨t,q⟩:=t;have hq:=(IY ht).2.1;rw[ext_size] at hq;show (if ah s (k+q)<s.size then none else some (l,d,t))=(if (cZ ((ext s k).extract q (s.size - k))).size=0 then some (l,d,t) else none);have e:cZ ((ext s k).extract q (s.size - k))=ext s (ah s (k+q)):=by
   rw[←ext_size,ext_eq,zh,GU]
  rw[e,ext_size];simp only at hq;have h5:=LZ s (k+q) (by omega);by_cases h6:ah s (k+q)<s.size
  ·rw[if_pos h6,if_neg (by omega)]
  ·rw[if_neg h6,if_pos (by omega)]
theorem abG(s:ByteArray)(l:List UInt8)(t:Nat)(ht:t<s.size):Ef s l t=tY l (cZ (ext s (t+1))):=by
 rw[GU];unfold Ef tY;rw[abB];have h2:=LZ s (t+1) ht;generalize ah s (t+1)=j at *;cases hd:bI (ext s j) 0 with
 |none=>rfl
 |some d=>
  obtain⟨d,p⟩:=d;have hp:=(IX hd).2.1;rw[ext_size] at hp;exact abE s l d j p (by simp only at hp;omega)
theorem abH(s:ByteArray):zo s=FK s:=by
 unfold zo FK;rw[LX];have hi:=kC s;generalize ah s 0=i at *;rw[ext_size];by_cases h3:3<i
 ·rw[if_pos h3,if_pos (by omega)]
 rw[if_neg h3,if_neg (by omega),abD s i];cases hb:iI (ext s i) 0 with
 |none=>rfl
 |some b=>
  obtain⟨l,t⟩:=b;have ht:=(Qs hb).2;rw[ext_size] at ht;simp only at ht;show (if i+t<s.size∧bt s (i+t)=58 then Ef s l (i+t) else none)=(if t<s.size - i∧bt (ext s i) t=58 then tY l (cZ ((ext s i).extract (t+1) (s.size - i))) else none);by_cases h4:i+t<s.size∧bt s (i+t)=58
  ·rw[if_pos h4,if_pos ⟨by omega,by rw[pO s i t h4.1];exact h4.2⟩,abG s l (i+t) h4.1,←ext_size,ext_eq,zh];rfl
  ·rw[if_neg h4,if_neg];rintro ⟨h5,h6⟩;exact h4 ⟨by omega,by rw[←pO s i t (by omega)];exact h6⟩
def uA(r:Option (List UInt8 × List UInt8 × List UInt8)):Option ag:=r.map fun x=>{kind:=11,info:=mk x.1,dest:=mk x.2.1,title:=mk x.2.2}
theorem TC(x:ByteArray):(cZ x).size=0↔aF x=true:=by
 rw[LX,ext_size];have:=kC x;unfold aF;rw[decide_eq_true_iff];omega
theorem abI(L d:List UInt8)(A:ByteArray)(n:Nat):vF (mk L) d A n=uA (if A.size=0 then some (L,d,[]) else if A.size=n then none else (dD A 0).bind fun t=>if (cZ (A.extract t.2 A.size)).size=0 then some (L,d,t.1) else none):=by
 unfold vF uA;by_cases h1:A.size=0
 ·rw[if_pos h1,if_pos h1];rfl
 rw[if_neg h1,if_neg h1];by_cases h2:A.size=n
 ·rw[if_pos h2,if_pos h2];rfl
 rw[if_neg h2,if_neg h2];cases dD A 0 with
 |none=>rfl
 |some t=>
  obtain⟨t,q⟩:=t;show (if aF (A.extract q A.size)=true then some _ else none)=Option.map _ (if (cZ (A.extract q A.size)).size=0 then some (L,d,t) else none);by_cases h3:aF (A.extract q A.size)=true
  ·rw[if_pos h3,if_pos ((TC _).2 h3)];rfl
  ·rw[if_neg h3,if_neg (fun h=>h3 ((TC _).1 h))];rfl
theorem abJ(L:List UInt8)(r:ByteArray):vG (mk L) r=uA (tY L r):=by
 unfold vG tY;cases bI r 0 with
 |none=>rfl
 |some d=>
  obtain⟨d,p⟩:=d;exact abI L d _ _
theorem TD(x:ByteArray)(a:UInt8):Lib.hasPrefix (bytesL x) [a]=true↔0<x.size∧bt x 0=a.toNat:=by
 by_cases h:0<x.size
 ·have e:=bV x 0 h;have e0:sfx x 0=bytesL x:=by unfold sfx;rw[List.drop_zero]
  rw[e0] at e;rw[e];have:Lib.hasPrefix (x.get! 0 :: sfx x (0+1)) [a]=(a==x.get! 0):=by
   show ([a].isPrefixOf (x.get! 0 :: _))=_;rw[List.isPrefixOf];cases (a==x.get! 0) <;> rfl
  rw[this,beq_iff_eq];constructor
  ·intro h1;exact⟨h,by rw[h1];rfl⟩
  ·intro h1;exact(UInt8.toNat_inj.1 (h1.2:(x.get! 0).toNat=a.toNat)).symm
 ·constructor
  ·intro h1;have:=wW h1;simp at this;omega
  ·intro h1;exact absurd h1.1 h
theorem abK(c:ByteArray):jD c=uA ((iI c 0).bind fun b=>if b.2<c.size∧bt c b.2=58 then tY b.1 (cZ (c.extract (b.2+1) c.size)) else none):=by
 unfold jD iI;have h1:sfx c (0+1)=sfx c 1:=rfl;rw[h1];have e1:aA c=ext c 1:=ext_eq c 1;have e2:bytesL (ext c 1)=sfx c 1:=LV c 1;rw[e1];unfold jB fB gG;rw[e2,bytesL_mk',ext_eq,zh];generalize hb:brk (sfx c 1)=b at *;have hl:(sfx c 1).length=(ext c 1).size:=by rw[sfx_len,ext_size]
 rw[hl];have hp:=TD (ext c (1+(b+1))) 58;rw[ext_size] at hp;have e3:0+b+2=1+(b+1):=by omega
 rw[e3];by_cases hA:bt c 0=91∧decide (b<(ext c 1).size)=true∧Lib.hasPrefix (bytesL (if b<(ext c 1).size then ext c (1+(b+1)) else ⟨#[]⟩)) [58]=true∧dK ((sfx c 1).take b)≠[]
 ·rw[if_pos hA];obtain⟨a1,a2,a3,a4⟩:=hA;have a2:=of_decide_eq_true a2;rw[if_pos a2] at a3;have hs1:=ext_size c 1;have g2:0<c.size∧bt c 0=91:=⟨by omega,a1⟩;have g3:b<(ext c 1).size∧dK ((sfx c 1).take b)≠[]:=⟨a2,a4⟩;have h7:=hp.1 a3;have h9:=h7.2;rw[pO c _ 0 (by omega)] at h9;have g5:1+(b+1)<c.size∧bt c (1+(b+1))=58:=⟨by omega,h9⟩;rw[if_pos g2,if_pos g3,if_pos a2];show _=uA (if 1+(b+1)<c.size∧bt c (1+(b+1))=58 then tY (dK ((sfx c 1).take b)) (cZ (c.extract (1+(b+1)+1) c.size)) else none);rw[if_pos g5,abJ,xk,xy,ext_eq];rfl
 ·rw[if_neg hA];by_cases g2:0<c.size∧bt c 0=91
  ·rw[if_pos g2];by_cases g3:b<(ext c 1).size∧dK ((sfx c 1).take b)≠[]
   ·rw[if_pos g3];show none=uA (if 1+(b+1)<c.size∧bt c (1+(b+1))=58 then tY (dK ((sfx c 1).take b)) (cZ (c.extract (1+(b+1)+1) c.size)) else none);have g5:¬(1+(b+1)<c.size∧bt c (1+(b+1))=58):=by
     intro g5;refine hA ⟨g2.2,aeq g3.1,?_,g3.2⟩;rw[if_pos g3.1];exact hp.2 ⟨by omega,by rw[pO c _ 0 (by omega)];exact g5.2⟩
    rw[if_neg g5];rfl
   ·rw[if_neg g3];rfl
  ·rw[if_neg g2];rfl
end Go.Proofs.YtpoafhgbhnblmaaGreatDoor
