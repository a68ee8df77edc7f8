import Derived.Test.YtpoafhgbhnblmaaGreatDoorF07
import Derived.SliceStrings
set_option linter.unusedVariables false
set_option linter.unusedSimpArgs false
set_option maxRecDepth 100000
set_option maxHeartbeats 20000000
namespace Go.Proofs.YtpoafhgbhnblmaaGreatDoor
open Go.Proofs.Tryz (prog)
open Go.RowKit
def uZ(s:ByteArray)(i:Nat):ByteArray × Nat × Bool:=(s.extract i (wordAt s i),wordAt s i,nameB (s.extract i (wordAt s i)))
theorem extract_size(s:ByteArray)(i j:Nat)(h:i≤j)(hj:j≤s.size):(s.extract i j).size=j - i:=by
 rw[aex];omega
theorem WU(s:ByteArray)(i:Nat)(w:World)(hs:s.size≤1000000)(hi:i≤s.size)(hq:¬(i<s.size∧bt s i=34)):Calls prog 232 #[.string s,.int .i64 i] w (uX (uZ s i) w):=by
 have hwb:=pZ s (s.size - i) i;have hw1:i≤wordAt s i:=hwb.1;have hw2:wordAt s i≤s.size:=hwb.2 hi;clear hwb;have HW:=aen (BN s i);have HN:=aen (name_any (s.extract i (wordAt s i)));have hsz:(s.extract i (wordAt s i)).size≤1000000:=by rw[extract_size s i _ hw1 hw2];omega
 have HB:Hid (uZ s i=(s.extract i (wordAt s i),wordAt s i,nameB (s.extract i (wordAt s i)))):=aen rfl;generalize uZ s i=T at *;generalize wordAt s i=j at *;have HM:∀w:World,(Builtin.min_ #[3,3] 3 #[.int .i64 i,.int .i64 s.size]).run prog w=.ok (.int .i64 i) w:=fun w=>by rw[run_min_int2,if_neg (by omega)]
 by_cases h1:i<s.size
 ·have hne:bt s i≠34:=fun e=>hq ⟨h1,e⟩;have hlt0:((s[i].toNat:Nat):Int)<256:=by rw[get_bt s i h1];have:=aK s i;omega
  have z0:(((s[i].toNat:Nat):Int) != 34)=true:=by rw[get_bt s i h1];simp;omega
  have d0:decide (s.size≤i)=false:=aep (by omega);clear hq hne;go_enter Tryz.func232,Tryz.ntmps232;go_wp2_with fail;with_reducible refine(HW.out _ (by omega)).mono ?_
  rintro e w1 ⟨rfl,rfl⟩;go_wp2_with fail;with_reducible refine(HN.out _ (by omega)).mono ?_
  rintro e w1 ⟨rfl,rfl⟩;go_wp2;go_ret3;refine⟨?_,aer _ _⟩;rw[HB.out];rfl
 ·obtain rfl:i=s.size:=by omega
  have d0:decide (s.size≤s.size)=true:=aeq (aeo _);clear hq;go_enter Tryz.func232,Tryz.ntmps232;go_wp2_with fail;with_reducible refine(HW.out _ (by omega)).mono ?_
  rintro e w1 ⟨rfl,rfl⟩;go_wp2_with fail;with_reducible refine(HN.out _ (by omega)).mono ?_
  rintro e w1 ⟨rfl,rfl⟩;go_wp2;go_ret3;refine⟨?_,aer _ _⟩;rw[HB.out];rfl
theorem O6(s:ByteArray)(acc:List UInt8)(k:Nat)(h:k<s.size):mk acc++s.extract k (k+1)=mk (acc++[s.get! k]):=by
 rw[←eX (mk acc++s.extract k (k+1))];congr 1;unfold bytesL;rw[ByteArray.data_append,Array.toList_append,ByteArray.data_extract,Array.toList_extract];have e:(mk acc).data.toList=acc:=bytesL_mk' acc;rw[e];congr 1;have hk:k<s.data.toList.length:=by simpa using h
 rw[List.extract_eq_take_drop,Nat.add_sub_cancel_left,List.take_one,List.head?_drop,List.getElem?_eq_getElem hk];have:s.get! k=s.data[k]! := rfl;rw[this,getElem!_pos s.data k (by simpa using h)];simp
def qU(r:ByteArray × Nat × Bool):ByteArray × Nat × Bool:=if r.2.2=true then r else (⟨#[]⟩,0,false)
theorem WV(s:ByteArray)(i:Nat)(w:World)(hs:s.size≤1000000)(hi:i≤s.size)(hq:¬(i<s.size∧bt s i=34)):Calls prog 261 #[.string s,.int .i64 i] w (uX (qU (uZ s i)) w):=by
 have hwb:=pZ s (s.size - i) i;have hw1:i≤wordAt s i:=hwb.1;have hw2:wordAt s i≤s.size:=hwb.2 hi;clear hwb;have HW:=aen (BO s i);have HN:=aen (zV (s.extract i (wordAt s i)));have hsz:(s.extract i (wordAt s i)).size≤1000000:=by rw[extract_size s i _ hw1 hw2];omega
 have HB:Hid (qU (uZ s i)=if nameB (s.extract i (wordAt s i))=true then (s.extract i (wordAt s i),wordAt s i,true) else (⟨#[]⟩,0,false)):=aen (by unfold qU uZ;dsimp only;split <;> simp_all);generalize qU (uZ s i)=T at *;generalize wordAt s i=j at *;generalize nameB (s.extract i j)=nb at *;have dg:decide (s.size<i)=false:=aep (by omega);by_cases h1:i<s.size
 ·have hne:bt s i≠34:=fun e=>hq ⟨h1,e⟩;have hlt0:((s[i].toNat:Nat):Int)<256:=by rw[get_bt s i h1];have:=aK s i;omega
  have z0:(((s[i].toNat:Nat):Int) != 34)=true:=by rw[get_bt s i h1];simp;omega
  have d0:decide (s.size≤i)=false:=aep (by omega);clear hq hne;cases nb;all_goals
   go_enter Tryz.func261,Tryz.ntmps261;go_wp2_with fail;with_reducible refine(HW.out _ (by omega)).mono ?_
   rintro e w1 ⟨rfl,rfl⟩;go_wp2_with fail;with_reducible refine(HN.out _ (by omega)).mono ?_
   rintro e w1 ⟨rfl,rfl⟩;go_wp2;go_ret3;refine⟨?_,aer _ _⟩;rw[HB.out];rfl
 ·obtain rfl:i=s.size:=by omega
  have d0:decide (s.size≤s.size)=true:=aeq (aeo _);clear hq;cases nb;all_goals
   go_enter Tryz.func261,Tryz.ntmps261;go_wp2_with fail;with_reducible refine(HW.out _ (by omega)).mono ?_
   rintro e w1 ⟨rfl,rfl⟩;go_wp2_with fail;with_reducible refine(HN.out _ (by omega)).mono ?_
   rintro e w1 ⟨rfl,rfl⟩;go_wp2;go_ret3;refine⟨?_,aer _ _⟩;rw[HB.out];rfl
def WX(s:ByteArray)(R:Option (List UInt8 × Nat))(i out:Value):Prop:=
 ∃(k f:Nat) (acc:List UInt8),i=.int .i64 k∧out=.string (mk acc)∧qv s f k acc=R∧s.size≤k+f∧acc.length≤k
theorem WY(s:ByteArray)(i:Nat)(w:World)(hs:s.size≤1000000)(hi:i<s.size)(hq:bt s i=34):Calls prog 261 #[.string s,.int .i64 i] w (uX (qU (valOf (qv s s.size (i+1) []))) w):=by
 have hlt0:((s[i].toNat:Nat):Int)<256:=by rw[get_bt s i hi];have:=aK s i;omega
 have z0:(((s[i].toNat:Nat):Int) != 34)=false:=by rw[get_bt s i hi,hq];rfl
 have hlenq:Hid (∀l j,qv s s.size (i+1) []=some (l,j)→l.length≤s.size):=aen fun l j h=>by
  have:=(wK s _ _ _ l j h).1;simp at this;omega
 have d0:decide (s.size≤i)=false:=aep (by omega);clear hq;generalize hR:qv s s.size (i+1) []=R at *;have HR:=aen hR;clear hR;have Ji:Hid (∀l j,R=some (l,j)→qU (valOf R)=if sV (mk l)=true then (mk l,j,true) else (⟨#[]⟩,0,false)):=aen fun l j h=>by
  rw[h];unfold qU valOf;dsimp only;split <;> simp_all
 have qT:Hid (R=none→qU (valOf R)=(⟨#[]⟩,0,false)):=aen fun h=>by rw[h];rfl
 generalize qU (valOf R)=T at *;go_enter Tryz.func261,Tryz.ntmps261;go_wp2;go_loop [1,8] (fun i out=>WX s R i out) (fun v _=>s.size - (intOf v).toNat);case atStart=>exact⟨i+1,s.size,[],by go_num,rfl,HR.out,by omega,by simp⟩
 case round=>
  obtain⟨k,f,acc,rfl,rfl,hacc,hf,hal⟩:=hrel;have aY:=aen hacc;clear hacc;have hml:(mk acc).size≤k:=by rw[←bytesL_length,bytesL_mk'];omega
  by_cases hk:k<s.size
  ·have hb:=aK s k;have hlt:((s[k].toNat:Nat):Int)<256:=by rw[get_bt s k hk];omega
   by_cases c1:bt s k=34
   ·have z1:(((s[k].toNat:Nat):Int) != 34)=false:=by rw[get_bt s k hk,c1];rfl
    have hT:=aen (Ji.out acc (k+1) (by rw[←aY.out,EZ s f k acc hk hf c1]));have hll:acc.length≤s.size:=hlenq.out acc (k+1) (by rw[←aY.out,EZ s f k acc hk hf c1]);have uY:=aen (WO (mk acc));have hms:(mk acc).size≤1000000:=by rw[←bytesL_length,bytesL_mk'];omega
    have d1:decide (s.size≤k)=false:=aep (by omega);clear c1;generalize sV (mk acc)=lb at *;cases lb;all_goals
     go_wp2_with fail;with_reducible refine(uY.out _ hms).mono ?_
     rintro e W3 ⟨rfl,b3⟩;go_wp2;go_ret3;refine⟨?_,b3⟩;rw[hT.out];rfl
   ·have z1:(((s[k].toNat:Nat):Int) != 34)=true:=by rw[get_bt s k hk];simp;omega
    by_cases c2:bt s k=92
    ·have z2:(((s[k].toNat:Nat):Int)==92)=true:=by rw[get_bt s k hk,c2];rfl
     have hst:=aen (O3 s f k acc hk hf c2);clear c1 c2;by_cases hk1:k+1<s.size
     ·have hb1:=aK s (k+1);have hlt1:((s[k+1].toNat:Nat):Int)<256:=by rw[get_bt s _ hk1];omega
      have hms:=aen (O6 s acc (k+1) hk1);by_cases c3:bt s (k+1)=34∨bt s (k+1)=92
      ·have hR1:=aen (hst.out.symm.trans aY.out);have hR2:Hid (qv s (f - 1) (k+2) (acc++[s.get! (k+1)])=R):=aen (by rw[←hR1.out,if_pos ⟨hk1,c3⟩]);have cc:(((s[k+1].toNat:Nat):Int) != 34)=false∨((((s[k+1].toNat:Nat):Int) != 34)=true∧(((s[k+1].toNat:Nat):Int) != 92)=false):=by
        rw[get_bt s _ hk1];rcases c3 with c|c
        ·left;rw[c];rfl
        ·right;rw[c];exact⟨rfl,rfl⟩
       clear c3;rcases cc with z3|⟨z3,z4⟩;all_goals
        go_wp2_with fail;go_round;case rel=>exact⟨k+2,f - 1,acc++[s.get! (k+1)],by go_num,by rw[←hms.out],hR2.out,by omega,by simp;omega⟩
        case measure=>simp[intOf];omega
      ·have mM:Hid (T=(⟨#[]⟩,0,false)):=aen (qT.out (by rw[←aY.out,hst.out,if_neg (by intro h;exact c3 h.2)]));have z3:(((s[k+1].toNat:Nat):Int) != 34)=true:=by rw[get_bt s _ hk1];simp;omega
       have z4:(((s[k+1].toNat:Nat):Int) != 92)=true:=by rw[get_bt s _ hk1];simp;omega
       clear c3;go_wp2_with fail;go_ret3;refine⟨?_,aer _ _⟩;rw[mM.out];rfl
     ·have mM:Hid (T=(⟨#[]⟩,0,false)):=aen (qT.out (by rw[←aY.out,hst.out,if_neg (by intro h;exact hk1 h.1)]));go_wp2_with fail;go_ret3;refine⟨?_,aer _ _⟩;rw[mM.out];rfl
    ·have z2:(((s[k].toNat:Nat):Int)==92)=false:=by rw[get_bt s k hk,aes];omega
     have hR2:Hid (qv s (f - 1) (k+1) (acc++[s.get! k])=R):=aen (by rw[←aY.out,O4 s f k acc hk hf c1 c2]);have hms:=aen (O6 s acc k hk);clear c1 c2;go_wp2_with fail;go_round;case rel=>exact⟨k+1,f - 1,acc++[s.get! k],by go_num,by rw[←hms.out],hR2.out,by omega,by simp;omega⟩
     case measure=>simp[intOf];omega
  ·have mM:Hid (T=(⟨#[]⟩,0,false)):=aen (qT.out (by rw[←aY.out,O0 s f k acc hk]));go_wp2;go_ret3;refine⟨?_,aer _ _⟩;rw[mM.out];rfl
def strs(l:List ByteArray):List Value:=l.map Value.string
theorem sW(l:List ByteArray)(k:Nat)(h:k<l.length):(strs l)[k]?=some (.string l[k]):=by
 unfold strs;rw[List.getElem?_map,List.getElem?_eq_getElem h];rfl
theorem qg(l:List ByteArray):(strs l).length=l.length:=by unfold strs;rw[List.length_map]
theorem Reads.row{w:World}{B size n:Nat}{A:Option Addr}{xs:List Value}(h:Reads w B size A n xs)(hn:0<n)(hs:0<size):∃b off,A=some ⟨b,off,none⟩∧b<B∧∀j u,xs[j]?=some u→w.cell? ⟨b,off+j,none⟩=some u:=by
 obtain⟨ad,e,hb,hc⟩:=h.2 hn;obtain⟨b,off,sp⟩:=ad;have hl:0<xs.length:=by rw[h.1];exact Nat.mul_pos hn hs
 have h0:=hc 0 _ (List.getElem?_eq_getElem hl);obtain rfl:sp=none:=by simpa [Addr.add] using World.cell?_spot h0
 refine⟨b,off,e,hb,fun j u hu=>?_⟩;have:=hc j u hu;unfold Addr.add at this;by_cases hj:j=0
 ·subst hj;simpa using this
 ·simpa [hj] using this
theorem ve{w:World}{B:Nat}{A:Option Addr}{zs:List ByteArray}(h:Reads w B 1 A zs.length (strs zs))(hn:0<zs.length):∃b off,A=some ⟨b,off,none⟩∧b<B∧∀k (hk:k<zs.length),w.cell? ⟨b,off+k,none⟩=some (.string zs[k]):=by
 obtain⟨b,off,e,hb,hc⟩:=h.row hn (by omega);exact⟨b,off,e,hb,fun k hk=>hc k _ (sW zs k hk)⟩
structure AttrL where
 id:ByteArray
 cl:List ByteArray
 pr:List (ByteArray × ByteArray)
def aH(l:List (ByteArray × ByteArray)):List Value:=l.flatMap fun p=>[.string p.1,.string p.2]
theorem xM(l:List (ByteArray × ByteArray))(k:Nat)(h:k<l.length):(aH l)[k * 2]?=some (.string l[k].1)∧(aH l)[k * 2+1]?=some (.string l[k].2):=by
 induction l generalizing k with
 |nil=>exact absurd h (by simp)
 |cons p l ih=>
  cases k with
  |zero=>exact⟨rfl,rfl⟩
  |succ k=>
   have:=ih k (by simpa using h);unfold aH at this ⊢;rw[List.flatMap_cons];have e1:(k+1) * 2=(k * 2)+2:=by omega
   rw[e1];exact this
def kE:List (ByteArray × ByteArray)→ByteArray→Option ByteArray
 | [],_=>none
 |p :: l,k=>if p.1=k then some p.2 else kE l k
theorem Jj(x:ByteArray):∀(l:List (ByteArray × ByteArray)) (k:Nat) (h:k<l.length),l[k].1=x→(∀j (hj:j<l.length),j<k→l[j].1≠x)→kE l x=some l[k].2
 | [],k,h,_,_=>absurd h (by simp)
 |p :: l,0,h,e,_=>by
  have e':p.1=x:=e;simp[kE,e']
 |p :: l,k+1,h,e,hno=>by
  have h0:p.1≠x:=hno 0 (by simp) (by omega);unfold kE;rw[if_neg h0];exact Jj x l k (by simpa using h) e fun j hj hjk=>hno (j+1) (by simpa using hj) (by omega)
theorem Jk(x:ByteArray):∀(l:List (ByteArray × ByteArray)),(∀j (hj:j<l.length),l[j].1≠x)→kE l x=none
 | [],_=>rfl
 |p :: l,h=>by
  unfold kE;have h0:p.1≠x:=h 0 (by simp);rw[if_neg h0];exact Jk x l fun j hj=>h (j+1) (by simpa using hj)
def oN(l:List (ByteArray × ByteArray))(k:ByteArray):Bool:=(kE l k).isSome
theorem WZ(A:Option Addr)(c B:Nat)(zs:List ByteArray)(x:ByteArray)(w:World)(hr:Reads w B 1 A zs.length (strs zs))(hn:zs.length≤1000000) :
 Calls prog 269 #[.slice A zs.length c,.string x] w fun e w'=>e=.returned (.bool (Lib.containsS zs x))∧w=w':=by
 have HC:=aen (Lib.containsS_iff zs x);have HR:=aen hr;clear hr;generalize Lib.containsS zs x=R at *;go_enter Tryz.func269,Tryz.ntmps269;go_wp2;go_loop [5] (fun v=>∃k:Nat,v=.int .i64 k∧k≤zs.length∧∀j (h:j<zs.length),j<k→zs[j]≠x) (fun v=>zs.length - (intOf v).toNat);case atStart=>exact⟨0,rfl,by omega,fun j h hj=>absurd hj (by omega)⟩
 case round=>
  obtain⟨k,rfl,hk,hno⟩:=hrel;have HN:=aen hno;clear hno;by_cases hlt:k<zs.length
  ·obtain⟨b,off,rfl,hb,hcell⟩:=HR.out.row (by omega) (by omega);have hc:=hcell k _ (sW zs k hlt);clear hcell;by_cases he:zs[k]=x
   ·have hR:Hid (R=true):=aen (HC.out.2 (he ▸ List.getElem_mem hlt));generalize zs[k]=z at *;subst he;go_wp2;go_ret;exact⟨aJ hR.out.symm,rfl⟩
   ·have HE:=aen he;have z1:(zs[k].toList==x.toList)=false:=(Lib.bytes_beq_false_iff _ _).2 he;clear he;go_wp2;go_round;case rel=>
     refine⟨k+1,by go_num,by omega,fun j h hj=>?_⟩;by_cases hj':j<k
     ·exact HN.out j h hj'
     ·obtain rfl:j=k:=by omega
      exact HE.out
    case measure=>simp[intOf];omega
  ·obtain rfl:k=zs.length:=by omega
   have hR:Hid (R=false):=aen (by
    rw[←Bool.not_eq_true,HC.out];intro hm;obtain⟨j,hj,e⟩:=List.mem_iff_getElem.1 hm;exact HN.out j hj hj e)
   go_wp2;go_ret;exact⟨aJ hR.out.symm,rfl⟩
theorem Xa(A:Option Addr)(c B:Nat)(zs:List (ByteArray × ByteArray))(x:ByteArray)(w:World)(hr:Reads w B 2 A zs.length (aH zs))(hn:zs.length≤1000000) :
 Calls prog 262 #[.slice A zs.length c,.string x] w fun e w'=>e=.returned (.bool (oN zs x))∧w=w':=by
 have HH:Hid (∀(k:Nat) (h:k<zs.length),zs[k].1=x→(∀j (hj:j<zs.length),j<k→zs[j].1≠x)→oN zs x=true):=aen fun k h e hno=>by unfold oN;rw[Jj x zs k h e hno];rfl
 have HF:Hid ((∀j (hj:j<zs.length),zs[j].1≠x)→oN zs x=false):=aen fun h=>by unfold oN;rw[Jk x zs h];rfl
 have HR:=aen hr;clear hr;generalize oN zs x=R at *;go_enter Tryz.func262,Tryz.ntmps262;go_wp2;go_loop [5] (fun v=>∃k:Nat,v=.int .i64 k∧k≤zs.length∧∀j (h:j<zs.length),j<k→zs[j].1≠x) (fun v=>zs.length - (intOf v).toNat);case atStart=>exact⟨0,rfl,by omega,fun j h hj=>absurd hj (by omega)⟩
 case round=>
  obtain⟨k,rfl,hk,hno⟩:=hrel;have HN:=aen hno;clear hno;by_cases hlt:k<zs.length
  ·obtain⟨b,off,rfl,hb,hcell⟩:=HR.out.row (by omega) (by omega);have hc:=hcell _ _ (xM zs k hlt).1;clear hcell;by_cases he:zs[k].1=x
   ·have hR:Hid (R=true):=aen (HH.out k hlt he HN.out);have z1:(zs[k].1.toList==x.toList)=true:=(Lib.bytes_beq_iff _ _).2 he;clear he;go_wp2;go_ret;exact⟨aJ hR.out.symm,rfl⟩
   ·have HE:=aen he;have z1:(zs[k].1.toList==x.toList)=false:=(Lib.bytes_beq_false_iff _ _).2 he;clear he;go_wp2;go_round;case rel=>
     refine⟨k+1,by go_num,by omega,fun j h hj=>?_⟩;by_cases hj':j<k
     ·exact HN.out j h hj'
     ·obtain rfl:j=k:=by omega
      exact HE.out
    case measure=>simp[intOf];omega
  ·obtain rfl:k=zs.length:=by omega
   have hR:Hid (R=false):=aen (HF.out fun j hj=>HN.out j hj hj);go_wp2;go_ret;exact⟨aJ hR.out.symm,rfl⟩
theorem Xb(id:ByteArray)(A:Option Addr)(c B:Nat)(zs:List ByteArray)(v2:Value)(x:ByteArray)(w:World)(hB:B≤w.heap.size)(hr:Reads w B 1 A zs.length (strs zs))(hn:zs.length≤1000000) :
 Calls prog 253 #[.agg #[.string id,.slice A zs.length c,v2],.string x] w fun e w'=>e=.returned (.bool (Lib.containsS zs x))∧Below w.heap.size w w':=by
 have HC:Hid (∀W,Reads W B 1 A zs.length (strs zs)→Calls prog 268 #[.slice A zs.length c,.string x] W fun e w'=>e=.returned (.bool (Lib.containsS zs x))∧w'=W):=aen fun W hr=>by
  by_cases h0:zs.length=0
  ·have hz:zs=[]:=List.eq_nil_of_length_eq_zero h0;subst hz;exact Tryz.slices_Contains_string_empty A c x W
  ·obtain⟨b,off,rfl,hb,hcell⟩:=hr.row (by omega) (by omega);have:=Tryz.slices_Contains_string b off zs.length c zs x W (aeo _) (by omega) (fun j hj=>by
    have:=hcell j _ (sW zs j hj);rw[this];simp[List.getD_eq_getElem?_getD,List.getElem?_eq_getElem hj])
   rw[List.take_length] at this;exact this
 have HR:=aen hr;clear hr;generalize Lib.containsS zs x=R at *;go_enter Tryz.func253,Tryz.ntmps253;go_wp2_with fail;refine(HC.out _ (HR.out.alloc hB _)).mono ?_;rintro e w1 ⟨rfl,rfl⟩;go_wp2;go_ret;exact⟨rfl,(aer _ _).alloc (aeo _) _⟩
def GetPost(zs:List (ByteArray × ByteArray))(x:ByteArray)(w:World)(e:Ending)(w':World):Prop:=e=.returned (.tuple #[.string ((kE zs x).getD ⟨#[]⟩),.bool (kE zs x).isSome])∧Below w.heap.size w w'
theorem sZ(w:World)(o:Obj):(w.alloc o).heap.size=w.heap.size+1:=by simp
theorem get_any(id:ByteArray)(A:Option Addr)(c B:Nat)(zs:List (ByteArray × ByteArray))(v1:Value)(x:ByteArray)(w:World)(hB:B≤w.heap.size)(hr:Reads w B 2 A zs.length (aH zs))(hn:zs.length≤1000000) :
 Calls prog 254 #[.agg #[.string id,v1,.slice A zs.length c],.string x] w (GetPost zs x w):=by
 have HH:Hid (∀(k:Nat) (h:k<zs.length),zs[k].1=x→(∀j (hj:j<zs.length),j<k→zs[j].1≠x)→kE zs x=some zs[k].2):=aen fun k h e hno=>Jj x zs k h e hno;have HF:Hid ((∀j (hj:j<zs.length),zs[j].1≠x)→kE zs x=none):=aen fun h=>Jk x zs h;have HG:Hid (∀e w',e=Ending.returned (.tuple #[.string ((kE zs x).getD ⟨#[]⟩),.bool (kE zs x).isSome])∧Below w.heap.size w w'→GetPost zs x w e w'):=aen fun e w' h=>h;have HR:=aen hr;clear hr;generalize kE zs x=R at *;have hs1:w.heap.size<w.heap.size+1:=by omega
 go_enter Tryz.func254,Tryz.ntmps254;go_wp2;go_loopw [11] (fun v wr=>∃k:Nat,v=.int .i64 k∧k≤zs.length∧Hid (∀j (h:j<zs.length),j<k→zs[j].1≠x)∧Hid (Below (w.heap.size+1) (w.alloc (.cells #[.string id,v1,.slice A zs.length c] 43)) wr)) (fun v _=>zs.length - (intOf v).toNat);case atStart=>exact⟨0,rfl,by omega,aen fun j h hj=>absurd hj (by omega),aen (aer _ _)⟩
 case round=>
  obtain⟨k,rfl,hk,HN,bT⟩:=hrel;have hrd:=aen ((HR.out.alloc hB (.cells #[.string id,v1,.slice A zs.length c] 43)).below (bT.out.mono (by omega)));have hsz:=bT.out.size;simp only[sZ] at hsz;have hcb:wr.cell? ⟨w.heap.size,2,none⟩=some (.slice A zs.length c):=by
   have:=bT.out.cell (p:=⟨w.heap.size,2,none⟩) hs1;rw[this];simp[go_sem]
  by_cases hlt:k<zs.length
  ·obtain⟨b,off,rfl,hb,hcell⟩:=hrd.out.row (by omega) (by omega);have hc:=hcell _ _ (xM zs k hlt).1;have hc2:=hcell _ _ (xM zs k hlt).2;rw[←Nat.add_assoc] at hc2;clear hcell;by_cases he:zs[k].1=x
   ·have hR:Hid (R=some zs[k].2):=aen (HH.out k hlt he HN.out);have z1:(zs[k].1.toList==x.toList)=true:=(Lib.bytes_beq_iff _ _).2 he;clear he;go_wp2;go_ret2;refine HG.out _ _ ⟨?_,?_⟩
    ·rw[hR.out];rfl
    ·exact(((aer _ _).alloc (aeo _) _).trans (bT.out.mono (by omega))).alloc (by omega) _
   ·have HE:=aen he;have z1:(zs[k].1.toList==x.toList)=false:=(Lib.bytes_beq_false_iff _ _).2 he;clear he;go_wp2;go_roundw;case rel=>
     refine⟨k+1,by go_num,by omega,aen fun j h hj=>?_,aen ?_⟩
     ·by_cases hj':j<k
      ·exact HN.out j h hj'
      ·obtain rfl:j=k:=by omega
       exact HE.out
     ·exact bT.out.alloc (by omega) _
    case measure=>simp[intOf];omega
  ·obtain rfl:k=zs.length:=by omega
   have hR:Hid (R=none):=aen (HF.out fun j hj=>HN.out j hj hj);go_wp2;go_ret2;refine HG.out _ _ ⟨?_,?_⟩
   ·rw[hR.out];rfl
   ·exact((aer _ _).alloc (aeo _) _).trans (bT.out.mono (by omega))
def ae(w:World)(g:Nat)(t:TypeId)(cs:Array Value):Prop:=w.heap[g]?=some (.cells cs t (0,0))
section
variable {w w':World} {g:Nat} {t:TypeId} {cs:Array Value}
theorem ae.lt(h:ae w g t cs):g<w.heap.size:=by
 rcases Nat.lt_or_ge g w.heap.size with hlt|hge
 ·exact hlt
 ·unfold ae at h;rw[Array.getElem?_eq_none hge] at h;cases h
theorem ae.cell(h:ae w g t cs)(i:Nat):w.cell? ⟨g,i,none⟩=cs[i]?:=cell_of_row w g i cs t (0,0) h
theorem ae.frozen(h:ae w g t cs)(i:Nat):w.frozen? ⟨g,i,none⟩=false:=by
 unfold ae at h;simp[World.frozen?,h]
theorem ae.new(w:World)(t:TypeId)(cs:Array Value):ae (w.alloc (.cells cs t)) w.heap.size t cs:=heap_alloc_new w _
theorem ae.drewN(h:ae w g t cs)(n:Nat):ae (w.drewN n) g t cs:=h
theorem ae.alloc(h:ae w g t cs)(o:Obj):ae (w.alloc o) g t cs:=(Below.heap_alloc w o g h.lt).trans h
theorem ae.bJ(h:ae w g t cs)(i:Nat)(u:Value):ae (w.setCell ⟨g,i,none⟩ u) g t (cs.setIfInBounds i u):=by
 unfold ae at h ⊢;simp[World.setCell,Array.getElem?_modify,h]
theorem ae.far(h:ae w g t cs){p:Addr}(hp:g≠p.block)(u:Value):ae (w.setCell p u) g t cs:=(Below.heap_setCell w p u g hp).trans h
theorem ae.below{B:Nat}(h:ae w g t cs)(hb:Below B w w')(hg:g<B):ae w' g t cs:=(hb.block g hg).trans h
theorem ae.grown{row:Option Nat}(h:ae w g t cs)(hb:w.grownBy w' row)(hg:some g≠row):ae w' g t cs:=(hb.block g h.lt hg).trans h
end
theorem own_ne{w:World}{base base' size size' n n':Nat}{e e':TypeId}{v v':Value}{xs xs':List Value}(h:w.ownsRow base e size v n xs)(h':w.ownsRow base' e' size' v' n' xs')(hne:e≠e'):v.ownBlock=none∨v.ownBlock≠v'.ownBlock:=by
 rcases h.2 with ⟨rfl,_⟩|⟨g,cap,cur,rfl,_,hh,_⟩
 ·exact Or.inl rfl
 ·right;rcases h'.2 with ⟨rfl,_⟩|⟨g',cap',cur',rfl,_,hh',_⟩
  ·simp[Value.ownBlock]
  ·intro e0;have:g=g':=by simpa [Value.ownBlock] using e0
   subst this;rw[hh] at hh';injection hh' with hh'
   injection hh' with _ ht
   exact hne ht
structure gp(g B:Nat)(w w':World):Prop where
 os:w'.os=w.os
 tape:w'.tape=w.tape
 output:w'.output=w.output
 size:w.heap.size≤w'.heap.size
 block:∀k,k<B→k≠g→w'.heap[k]?=w.heap[k]?
section
variable {g B:Nat} {a b c w w':World}
theorem gp.of(h:Below B a b):gp g B a b:=⟨h.os,h.tape,h.output,h.size,fun k hk _=>h.block k hk⟩
theorem gp.refl:gp g B a a:=.of (aer _ _)
theorem gp.trans(h:gp g B a b)(k:gp g B b c):gp g B a c:=
 ⟨k.os.trans h.os,k.tape.trans h.tape,k.output.trans h.output,aev h.size k.size,fun i hi hg=>(k.block i hi hg).trans (h.block i hi hg)⟩
theorem gp.store(h:gp g B a b)(i:Nat)(u:Value):gp g B a (b.setCell ⟨g,i,none⟩ u):=
 h.trans ⟨rfl,rfl,rfl,by simp[World.setCell],fun k _ hg=>Below.heap_setCell _ _ _ _ hg⟩
theorem gp.below{B':Nat}(h:gp g B a b)(hB:B'≤B)(hg:B'≤g):Below B' a b:=⟨h.os,h.tape,h.output,h.size,fun k hk=>h.block k (by omega) (by omega)⟩
theorem gp.blk{g':Nat}{t:TypeId}{cs:Array Value}(h:gp g B a b)(hk:ae a g' t cs)(h1:g'<B)(h2:g'≠g):ae b g' t cs:=(h.block g' h1 h2).trans hk
end
end Go.Proofs.YtpoafhgbhnblmaaGreatDoor
