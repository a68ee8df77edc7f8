import Derived.Test.YtpoafhgbhnblmaaGreatDoorF32
set_option linter.unusedVariables false
set_option linter.unusedSimpArgs false
set_option maxRecDepth 100000
set_option maxHeartbeats 20000000
namespace Go.Proofs.YtpoafhgbhnblmaaGreatDoor
open Go.Proofs.Tryz (prog)
open Go.RowKit
def Np(r:Option (List BkT × List (Nat × Nat)))(w:World)(e:Ending)(w':World):Prop:=
 Below w.heap.size w w'∧match r with
 |none=>e=.returned zy
 |some p=>∃v A c,e=.returned (.tuple #[v,.slice A p.2.length c,.bool true])∧bP w' (Rg w.heap.size w') v p.1∧ReadsS w' (Rg w.heap.size w') 2 A p.2.length (qF p.2)∧∃A' c',v=.slice A' p.1.length c'∧p.1.length≤c'
def adn(n d:Nat)(zs:List ByteArray)(A:Option Addr)(c:Nat)(MM:Int):Prop:=
 ∀(i:Nat) (W:World),i<zs.length→aF (ln zs i)=false→aG W A zs MM→
  Calls prog 40 #[.slice A zs.length c,.int .i64 i,.int .i64 d] W (uG W.heap.size (fJ n zs i (ai (ln zs i))) W)
theorem ado(n d:Nat)(hnd:n=16 - d)(UM:d≤17)(zs:List ByteArray)(A:Option Addr)(c:Nat)(MM:Int)(w:World)(hL:aG w A zs MM)(HA:n≠0→adn n d zs A c MM) :
 Calls prog 31 #[.slice A zs.length c,.int .i64 d] w (Np (bg n zs) w):=by
 obtain⟨i0,hi0,hz0,hz1,hz2⟩:=info_parts yL;obtain⟨j0,hj0,hy0,hy1,hy2⟩:=info_parts RN;have HL:=aen hL;have HAt:=aen HA;have hlen:=hL.len;have hwp:=hL.pos;have dm:Hid (∀j W,Calls prog 17 #[.string (ln zs j)] W fun e w'=>e=.returned (.bool (aF (ln zs j)))∧W=w'):=aen fun j W=>Gj (ln zs j) W (aev (dh hL.sz j) (by decide));have HR0:Hid (bg n zs=(iO (fJ n zs) zs 0).map fun p=>([]++p.1,[]++p.2)):=aen (by
  rw[KN];cases iO (fJ n zs) zs 0 <;> rfl)
 have D8:decide (15<(d:Int))=decide (n=0):=decide_eq_decide.2 (by omega);clear hL HA;go_enter Tryz.func31,Tryz.ntmps31;go_wp2_with fail;go_loopw [7,8,9] (fun v7 v8 v9 wr=>RP n zs w v7 v8 v9 wr) (fun _ _ v9 _=>zs.length - (intOf v9).toNat);case atStart=>exact⟨0,[],[],rfl,Nat.zero_le _,aen (aX.nil _ _ _),World.ownsRow_nil _ _ _ _,aeo _,aeo _,aer _ _,HR0⟩
 case round=>
  obtain⟨i,bs,rs,rfl,hi,bZ,pN,hbi,hri,hbw,HR⟩:=hrel;have dU:=hbw.size;have kP:=aen (HL.out.below hbw);obtain⟨A7,c7,rfl⟩:=bZ.out.own;obtain⟨A8,c8,rfl⟩:=ay pN;by_cases hlt:i<zs.length
  ·obtain⟨b,off,rfl,hb,hcell⟩:=kP.out.get (by omega);have hc0:=hcell i hlt;have HB1:=aen fun W=>dm.out i W;clear hcell;cases hbl:aF (ln zs i) with
   |true=>
    rw[hbl] at HB1;have HRn:Hid (bg n zs=(iO (fJ n zs) zs (i+1)).map fun p=>(bs++p.1,rs++p.2)):=aen (by rw[HR.out,KL _ _ _ hlt hbl]);go_wp2_with fail;with_reducible refine(HB1.out _).mono ?_
    rintro e w1 ⟨rfl,rfl⟩;go_wp2_with fail;go_roundw;case rel=>exact⟨i+1,bs,rs,by go_num,by omega,bZ,pN,by omega,by omega,hbw,HRn⟩
    case measure=>simp[intOf];omega
   |false=>
    rw[hbl] at HB1;have hst:=aen (RS n zs i hlt hbl);have uz:Hid (n≠0→∀(W:World),aG W (some ⟨b,off,none⟩) zs MM→Calls prog 40 #[.slice (some ⟨b,off,none⟩) zs.length c,.int .i64 i,.int .i64 d] W (uG W.heap.size (fJ n zs i (ai (ln zs i))) W)):=aen fun h0 W h2=>HAt.out h0 i W hlt hbl h2;have hto:Hid (∀r,fJ n zs i (ai (ln zs i))=some r→i<r.2∧r.2≤zs.length):=aen fun r e=>Dl n zs i r hlt e;have hn0:Hid (n=0→fJ n zs i (ai (ln zs i))=none):=aen fun e=>by subst e;rfl
    generalize fJ n zs i (ai (ln zs i))=R at *;clear HAt dm;by_cases hn:n=0
    ·have mM:=hn0.out hn;have HE:Hid (bg n zs=none):=aen (by rw[HR.out,hst.out,mM];rfl);rw[aeq hn] at D8;clear uz;go_wp2_with fail;with_reducible refine(HB1.out _).mono ?_
     rintro e w1 ⟨rfl,rfl⟩;go_wp2_with fail;go_ret3;exact⟨hbw,by rw[HE.out];rfl⟩
    ·rw[aep hn] at D8;go_wp2_with fail;with_reducible refine(HB1.out _).mono ?_
     rintro e w1 ⟨rfl,rfl⟩;go_wp2_with fail;with_reducible refine(uz.out hn _ kP.out).mono ?_
     rintro e w2 ⟨b12,hp⟩;have jA:=b12.size;clear hn0;cases R with
     |none=>
      obtain⟨v,u,⟨i0,i1,s2,s3,s4,s5,s6,A7,n7,c7,A8,n8,c8,A9,n9,c9,af,n10,c10,rfl⟩,rfl⟩:=hp;have HE:Hid (bg n zs=none):=aen (by rw[HR.out,hst.out];rfl);clear uz HR hst;go_wp2_with fail;go_ret3;exact⟨hbw.trans ((b12.alloc b12.size _).mono dU),by rw[HE.out];rfl⟩
     |some r=>
      obtain⟨bk,tq⟩:=r;obtain⟨v,rfl,hrep⟩:=hp;have hab:=hrep.form;obtain⟨f0,f1,f2,f3,f4,f5,f6,A9,n9,c9,af,n10,c10,rW,n11,c11,rX,n12,c12,rfl⟩:=hrep.form;have Ea:=hto.out _ rfl;simp only[] at Ea;obtain⟨S,vs,hS,hkk,hown⟩:=bZ.out;have hown2:=own_below hown b12;have vW:=own_below pN b12;have LJ:=b12.size;have hv7:=hown.lt;have Eb:=pN.lt;have dB:=aen hrep;have HKK:=aen hkk;have ji:=aen hS;have LK:=own_ne hown2 vW (by decide);have LM:Hid (bg n zs=(iO (fJ n zs) zs tq).map fun p=>((bs++[bk])++p.1,(rs++[(i,tq)])++p.2)):=aen (by
       rw[HR.out,hst.out];simp only[];cases iO (fJ n zs) zs tq with
       |none=>rfl
       |some q=>simp)
      clear uz HR hst hrep hkk hS hown pN hto bZ;go_wp2_with (at_builtin;refine wpList_append_lies _ rfl _ _ 25 rfl w.heap.size 46 i0 _ 11 192 Tryz.underlying25 hi0 hz0 hz1 hz2 rfl (by decide) _ _ _ rfl ((hown2.alloc _).alloc _) ⟨w2.heap.size+1,0,none⟩ 1 1 _ rfl hab.len ?c1 hab.one (by decide) ?c3 ?c4 ?c5 (w2.heap.size+2) ?c6 ?_);case c3=>unfold maxLen;omega
      case c4=>omega
      case c5=>simp;omega
      case c6=>simp
      intro g7 gm w3 hown3 hgrow hlies hlt3;have vX:=((vW.alloc (.cells #[.int .i64 f0,.int .i64 f1,.string f2,.string f3,.string f4,.string f5,.string f6,.slice A9 n9 c9,.slice af n10 c10,.slice rW n11 c11,.slice rX n12 c12] 46)).alloc (.cells #[.int .i64 f0,.int .i64 f1,.string f2,.string f3,.string f4,.string f5,.string f6,.slice A9 n9 c9,.slice af n10 c10,.slice rW n11 c11,.slice rX n12 c12] 46)).kept hgrow (own_ne vW hown2 (by decide));have jJ:=aen (aX.push ji.out HKK.out (b12.alloc b12.size (.cells #[.int .i64 f0,.int .i64 f1,.string f2,.string f3,.string f4,.string f5,.string f6,.slice A9 n9 c9,.slice af n10 c10,.slice rW n11 c11,.slice rX n12 c12] 46)) (fun k h=>(hv7 k h).2) (fun k h=>(Eb k h).2) dU (by simp;omega) (dB.out.low ((aer _ _).alloc (aeo _) _)) hown3 hgrow hlies (by simp));have hbw3:Below w.heap.size w w3:=(((hbw.trans (b12.mono dU)).alloc (by omega) (.cells #[.int .i64 f0,.int .i64 f1,.string f2,.string f3,.string f4,.string f5,.string f6,.slice A9 n9 c9,.slice af n10 c10,.slice rW n11 c11,.slice rX n12 c12] 46)).alloc (by simp;omega) (.cells #[.int .i64 f0,.int .i64 f1,.string f2,.string f3,.string f4,.string f5,.string f6,.slice A9 n9 c9,.slice af n10 c10,.slice rW n11 c11,.slice rX n12 c12] 46)).grown hgrow (by simp;omega) (fun k hk=>(hv7 k hk).1);have hz3:=hbw3.size;have Ec:=own_ne hown3 vX (by decide);clear hown2 vW hgrow hlies ji HKK dB hv7 Eb b12 hown3 hab LK jA LJ;go_wp2_with (at_builtin;refine wpList_append_lies _ rfl _ _ 30 rfl w.heap.size 34 j0 _ 2 16 Tryz.underlying30 hj0 hy0 hy1 hy2 rfl (by decide) _ _ _ rfl (vX.alloc _) ⟨w3.heap.size,0,none⟩ 1 1 [.int .i64 i,.int .i64 tq] rfl rfl ?d1 ?d2 (by decide) ?d3 ?d4 ?d5 (w3.heap.size+1) ?d6 ?_);case d1=>exact World.news_of_block (t:=34) (fr:=(0,0)) (cs:=#[.int .i64 i,.int .i64 tq]) (heap_alloc_new w3 _)
      case d2=>intro u hu;simp at hu;rcases hu with rfl|rfl <;> rfl
      case d3=>unfold maxLen;omega
      case d4=>omega
      case d5=>simp;omega
      case d6=>simp
      intro g8 aba w4 hown4 hgrow4 Ed hlt4;have nG:=aen ((jJ.out.below ((aer _ _).alloc (aeo _) (.cells #[.int .i64 i,.int .i64 tq] 34))).kept hgrow4 Ec Ed (by simp));have yR:Below w.heap.size w w4:=(hbw3.alloc hz3 (.cells #[.int .i64 i,.int .i64 tq] 34)).grown hgrow4 (by simp;omega) (fun k hk=>(vX.lt k hk).1);clear hgrow4 Ed vX jJ Ec;go_wp2_with fail;go_roundw;case rel=>
       refine⟨tq,bs++[bk],rs++[(i,tq)],rfl,Ea.2,?_,?_,by simp;omega,by simp;omega,yR,LM⟩
       ·have h:=nG.out;exact aen h
       ·rw[aey,←RU];exact hown4
      case measure=>simp[intOf];omega
  ·have HE:Hid (bg n zs=some (bs,rs)):=aen (by rw[HR.out,Gm _ _ _ (by omega)];simp);go_wp2_with fail;go_ret3;refine⟨hbw,?_⟩;rw[HE.out];exact⟨_,_,_,rfl,bZ.out.kids,ReadsS.of_own pN,_,_,rfl,bZ.out.cap⟩
def UN(n:Nat):Prop:=∀(d:Nat),n=16 - d→d≤17→∀(zs:List ByteArray) (A:Option Addr) (c:Nat) (MM:Int) (w:World),aG w A zs MM→zs.length≤c→c≤maxLen→Calls prog 31 #[.slice A zs.length c,.int .i64 d] w (Np (bg n zs) w)
theorem Ig(n d:Nat)(hnd:n=16 - d)(hd:d≤17)(MM:Int)(h:UN n):Bc (fun l=>(bg n l).map (·.1)) d MM:=fun zs A c W hL hc hcm=>(h d hnd hd zs A c MM W hL hc hcm).mono fun e w' hp=>by
 obtain⟨hb,hp⟩:=hp;refine⟨?_,hb⟩;cases hr:bg n zs with
 |none=>rw[hr] at hp;simp only[hr,Option.map_none];exact hp
 |some p=>
  rw[hr] at hp;obtain⟨v,A2,c2,rfl,hk,_,_⟩:=hp;obtain⟨A1,c1,vs,rfl,h1,h2⟩:=hk;simp only[hr,Option.map_some];exact⟨A1,c1,A2,_,c2,rfl,A1,c1,vs,rfl,h1,h2⟩
theorem adp:∀n,UN n:=by
 intro n;induction n using Nat.strongRecOn with
 |ind n ih=>
  intro d hnd UM zs A c MM w hL hc hcm;refine ado n d hnd UM zs A c MM w hL ?_;intro hn0 i W hi hb eH;match n,hn0,hnd,ih with
  |0,hn0,hnd,ih=>
   exact absurd rfl hn0
  |1,hn0,hnd,ih=>
   have hd:d=15:=by omega
   subst hd;rw[KQ];have:=UG (fun l=>(bg 0 l).map (·.1)) (fun l=>(bg 0 l).map (·.1)) 15 (by omega) zs A c i W.heap.size MM W (Ig 0 16 rfl (by omega) MM (ih 0 (by omega))) (Ig 0 17 rfl (by omega) MM (ih 0 (by omega))) eH hi hb hc hcm (aeo _);exact this
  |n+2,hn0,hnd,ih=>
   rw[KT];have e1:decide (d+1≤15)=true:=aeq (by omega);have e2:decide (d+2≤15)=decide (1≤n):=decide_eq_decide.2 (by omega);have:=UG (fun l=>(bg (n+1) l).map (·.1)) (fun l=>(bg n l).map (·.1)) d (by omega) zs A c i W.heap.size MM W (Ig (n+1) (d+1) (by omega) (by omega) MM (ih (n+1) (by omega))) (Ig n (d+2) (by omega) (by omega) MM (ih n (by omega))) eH hi hb hc hcm (aeo _);rw[e1,e2] at this;exact this
theorem UO(zs:List ByteArray)(A:Option Addr)(c:Nat)(MM:Int)(w:World)(hL:aG w A zs MM)(hc:zs.length≤c)(hcm:c≤maxLen) :
 Calls prog 23 #[.slice A zs.length c] w (D7 (bg 16 zs) w):=by
 have hlen:=hL.len;have HB:Hid (Calls prog 31 #[.slice A zs.length c,.int .i64 0] w (Np (bg 16 zs) w)):=aen (adp 16 0 rfl (by omega) zs A c MM w hL hc hcm);have d1:decide (16384<(zs.length:Int))=false:=aep (by omega);have d2:decide (16384<zs.length)=false:=aep (by omega);obtain⟨R,hR⟩:∃R,R=bg 16 zs:=⟨_,rfl⟩;rw[←hR] at HB ⊢;clear hL hR;go_enter Tryz.func23,Tryz.ntmps23;go_wp2_with fail;with_reducible refine(HB.out).mono ?_
 rintro e w1 ⟨b1,hp⟩;have HB1:=aen b1;cases R with
 |none=>
  subst hp;unfold zy;go_wp2_with fail;go_ret3;exact⟨HB1.out,rfl⟩
 |some p=>
  obtain⟨v,A2,c2,rfl,hk,hr,A',c',hcv,hcc⟩:=hp;have HK:=aen hk;have HR:=aen hr;obtain⟨A1,c1,vs,rfl,_,_⟩:=hk;have hcap:p.1.length≤c1:=by injection hcv with _ _ e;rw[e];exact hcc
  clear hcv hcc;clear hr;go_wp2_with fail;go_ret3;exact⟨HB1.out,_,_,_,rfl,HK.out,HR.out,_,_,rfl,hcap⟩
theorem adq(zs:List ByteArray)(A:Option Addr)(c:Nat)(MM:Int)(w:World)(hL:aG w A zs MM)(hc:zs.length≤c)(hcm:c≤maxLen) :
 Calls prog 13 #[.slice A zs.length c] w (zf (bg 16 zs) w):=by
 have HB:=aen (UO zs A c MM w hL hc hcm);obtain⟨R,hR⟩:∃R,R=bg 16 zs:=⟨_,rfl⟩;rw[←hR] at HB ⊢;clear hL hR;go_enter Tryz.func13,Tryz.ntmps13;go_wp2_with fail;with_reducible refine(HB.out).mono ?_
 rintro e w1 ⟨b1,hp⟩;have HB1:=aen b1;cases R with
 |none=>
  subst hp;unfold qG;go_wp2_with fail;go_ret2;exact⟨HB1.out,rfl⟩
 |some p=>
  obtain⟨v,A2,c2,rfl,hk,hr,A',c',hcv,hcc⟩:=hp;have HK:=aen hk;obtain⟨A1,c1,vs,rfl,_,_⟩:=hk;have hcap:p.1.length≤c1:=by injection hcv with _ _ e;rw[e];exact hcc
  clear hcv hcc;clear hr;go_wp2_with fail;go_ret2;exact⟨HB1.out,_,_,rfl,HK.out,hcap⟩
theorem adr(zs:List ByteArray)(A:Option Addr)(c:Nat)(MM:Int)(w:World)(hL:aG w A zs MM)(hc:zs.length≤c)(hcm:c≤maxLen) :
 Calls prog 16 #[.slice A zs.length c] w (zg (bg 16 zs) w):=by
 have HB:=aen (UO zs A c MM w hL hc hcm);obtain⟨R,hR⟩:∃R,R=bg 16 zs:=⟨_,rfl⟩;rw[←hR] at HB ⊢;clear hL hR;go_enter Tryz.func16,Tryz.ntmps16;go_wp2_with fail;with_reducible refine(HB.out).mono ?_
 rintro e w1 ⟨b1,hp⟩;have HB1:=aen b1;cases R with
 |none=>
  subst hp;unfold qG;go_wp2_with fail;go_ret2;exact⟨HB1.out,rfl⟩
 |some p=>
  obtain⟨v,A2,c2,rfl,hk,hr,A',c',hcv,hcc⟩:=hp;have HR:=aen hr;obtain⟨A1,c1,vs,rfl,_,_⟩:=hk;have hcap:p.1.length≤c1:=by injection hcv with _ _ e;rw[e];exact hcc
  clear hcv hcc;clear hr;go_wp2_with fail;go_ret2;exact⟨HB1.out,_,_,rfl,HR.out⟩
def Ih:List ByteArray:=[⟨#[45,32,97]⟩,⟨#[32,32,45,32,98]⟩]
def Ez:List ByteArray:=[⟨#[97]⟩,⟨#[]⟩,⟨#[35,32,84]⟩]
def ads:List BkT:=[.mk 7 0 ⟨#[]⟩ ⟨#[]⟩ ⟨#[]⟩ ⟨#[]⟩ ak ⟨#[]⟩ [fe 9 [jV 1 ⟨#[97]⟩,.mk 7 0 ⟨#[]⟩ ⟨#[]⟩ ⟨#[]⟩ ⟨#[]⟩ ak ⟨#[]⟩ [fe 9 [jV 1 ⟨#[98]⟩]]]]]
theorem adt:bg 16 Ih=some (ads,[(0,2)]):=by kernel_rfl
theorem adu:(bg 16 Ez).map (·.2)=some [(0,1),(2,3)]:=by kernel_rfl
def Ii(zs:List ByteArray):Prop:=zs.length≤60∧∀z∈zs,z.size≤150
def UQ(zs:List ByteArray)(w:World)(e:Ending)(w':World):Prop:=(∃b:Bool,e=.returned (.bool b)∧(b=true→Ii zs))∧Below w.heap.size w w'
theorem UR(zs:List ByteArray)(A:Option Addr)(c:Nat)(w:World)(hr:Reads w w.heap.size 1 A zs.length (strs zs))(hl:zs.length≤maxLen)(hx:∀x∈zs,x.size≤maxLen) :
 Calls prog 10 #[.slice A zs.length c] w (UQ zs w):=by
 unfold maxLen at hl hx;by_cases h60:60<zs.length
 ·have d1:decide (60<(zs.length:Int))=true:=aeq (by omega);have d2:decide (60<zs.length)=true:=aeq h60;clear hr;go_enter Tryz.func10,Tryz.ntmps10;go_wp2_with fail;go_ret;exact⟨⟨false,rfl,fun h=>by cases h⟩,aer _ _⟩
 have d1:decide (60<(zs.length:Int))=false:=aep (by omega);have d2:decide (60<zs.length)=false:=aep h60;have qy:=aen hr;have HX:=aen hx;have Ij:Hid (∀w' b,Below w.heap.size w w'→(b=true→Ii zs)→UQ zs w (.returned (.bool b)) w'):=aen fun w' b h1 h2=>⟨⟨b,rfl,h2⟩,h1⟩;have US:Hid (∀z:ByteArray,z.size≤150→∀W,Calls prog 21 #[.string z] W fun e w'=>e=.returned (.bool (oK z))∧Below W.heap.size W w'):=aen fun z hz W=>OV z W (by omega);clear hr hx;go_enter Tryz.func10,Tryz.ntmps10;go_wp2_with fail;go_loopw [3] (fun v3 wr=>∃k:Nat,v3=.int .i64 k∧k≤zs.length∧Below w.heap.size w wr∧Hid (∀j (h:j<zs.length),j<k→zs[j].size≤150)) (fun v _=>zs.length - (intOf v).toNat);case atStart=>exact⟨0,rfl,Nat.zero_le _,aer _ _,aen fun j h hj=>absurd hj (by omega)⟩
 case round=>
  obtain⟨k,rfl,hk,hbw,Hs⟩:=hrel;have bT:=aen hbw;by_cases hlt:k<zs.length
  ·obtain⟨b,off,rfl,hbB,hcell⟩:=ve qy.out (by omega);have hc:wr.cell? ⟨b,off+k,none⟩=some (.string zs[k]):=(hbw.cell (p:=⟨b,off+k,none⟩) hbB).trans (hcell k hlt);have hzx:=HX.out zs[k] (List.getElem_mem hlt);by_cases Ik:150<zs[k].size
   ·have z1:decide (150<(zs[k].size:Int))=true:=aeq (by omega);have z2:decide (150<zs[k].size)=true:=aeq Ik;clear hcell hbw Ik;generalize zs[k]=z at *;go_wp2_with fail;go_ret;exact Ij.out _ false bT.out (fun h=>by cases h)
   ·have z1:decide (150<(zs[k].size:Int))=false:=aep (by omega);have z2:decide (150<zs[k].size)=false:=aep Ik;have HV:=aen (US.out zs[k] (by omega));have gQ:Hid (∀j (h:j<zs.length),j<k+1→zs[j].size≤150):=aen fun j h hj=>by
     by_cases e:j=k
     ·subst e;omega
     ·exact Hs.out j h (by omega)
    have xA:Hid (∀W,Below wr.heap.size wr W→W.cell? ⟨b,off+k,none⟩=some (.string zs[k])):=aen fun W h=>((hbw.trans (h.mono hbw.size)).cell (p:=⟨b,off+k,none⟩) hbB).trans (hcell k hlt);have hzs:zs[k].size≤150:=by omega
    clear hcell Ik Hs US;generalize hvb:oK zs[k]=vb at *;clear hvb;generalize zs[k]=z at *;cases vb with
    |false=>
     go_wp2_with fail;with_reducible refine(HV.out _).mono ?_
     rintro e w1 ⟨rfl,b1⟩;go_wp2_with fail;go_ret;exact Ij.out _ false (bT.out.trans (b1.mono bT.out.size)) (fun h=>by cases h)
    |true=>
     go_wp2_with fail;with_reducible refine(HV.out _).mono ?_
     rintro e w1 ⟨rfl,b1⟩;have hc1:=xA.out w1 b1;have HB1:=aen (bT.out.trans (b1.mono bT.out.size));clear b1 hc hbw xA HV;go_wp2_with fail;go_loop [4] (fun v4=>∃j:Nat,v4=.int .i64 j∧j≤z.size) (fun v=>z.size - (intOf v).toNat);case atStart=>exact⟨0,rfl,Nat.zero_le _⟩
     case round=>
      obtain⟨j,rfl,hj⟩:=hrel;by_cases hjl:j<z.size
      ·have hb256:((z[j].toNat:Nat):Int)<256:=by rw[get_bt z j hjl];have:=aK z j;omega
       by_cases h10:z[j].toNat=10
       ·have y1:(((z[j].toNat:Nat):Int)==10)=true:=by rw[beq_iff_eq];omega
        clear h10;go_wp2_with fail;go_ret;exact Ij.out _ false HB1.out (fun h=>by cases h)
       ·have y1:(((z[j].toNat:Nat):Int)==10)=false:=by rw[aes];omega
        clear h10;go_wp2_with fail;go_round;case rel=>exact⟨j+1,by go_num,by omega⟩
        case measure=>simp[intOf];omega
      ·go_wp2_with fail;go_roundw;case rel=>exact⟨k+1,by go_num,by omega,HB1.out,gQ⟩
       case measure=>simp[intOf];omega
  ·go_wp2_with fail;go_ret;refine Ij.out _ true hbw fun _=>⟨by omega,fun z hz=>?_⟩;obtain⟨j,hj,rfl⟩:=List.mem_iff_getElem.1 hz;exact Hs.out j hj (by omega)
def UT:BkT→Nat|.mk k _ _ _ _ _ _ _ _=>k
def Bh:BkT→List BkT|.mk _ _ _ _ _ _ _ _ ks=>ks
theorem dw.look{w:World}{S:Nat→Prop}{v:Array Value}{b:BkT}(h:dw w S v b):v[0]?=some (.int .i64 (UT b))∧∃A c,v[10]?=some (.slice A (Bh b).length c)∧bP w S (.slice A (Bh b).length c) (Bh b):=by
 cases h with
 |mk kind level info text dest title att line kids A1 A2 A4 c1 c2 c4 vL vs ha hl hr hc=>
  exact⟨rfl,A4,c4,rfl,A4,c4,vs,rfl,hr,hc⟩
theorem bP.look{w:World}{S:Nat→Prop}{A:Option Addr}{n c:Nat}{bs:List BkT}(h:bP w S (.slice A n c) bs)(hn:0<bs.length):∃g off,A=some ⟨g,off,none⟩∧n=bs.length∧∀k (hk:k<bs.length),w.cell? ⟨g,off+k * 11,none⟩=some (.int .i64 (UT bs[k]))∧
 ∃A' c',w.cell? ⟨g,off+(k * 11+10),none⟩=some (.slice A' (Bh bs[k]).length c')∧bP w S (.slice A' (Bh bs[k]).length c') (Bh bs[k]):=by
 obtain⟨g,off,c0,e,_,hc⟩:=h.get hn;injection e with e1 e2 _
 refine⟨g,off,e1,e2,fun k hk=>?_⟩;obtain⟨vb,h1,h2⟩:=hc k hk;obtain⟨l1,A',c',l2,l3⟩:=h1.look;exact⟨(h2 0 (by omega)).trans l1,A',c',(h2 10 (by omega)).trans l2,l3⟩
theorem UU(w:World)(zs:List ByteArray)(MM:Int)(hm:w.cell? ⟨0,0,none⟩=some (.int .i64 MM))(hl:zs.length≤10000)(hs:∀z∈zs,z.size≤100000):aG (w.alloc (.cells (strs zs).toArray 9)) (some ⟨w.heap.size,0,none⟩) zs MM:=
 ⟨(ZS (heap_alloc_new w _)).more (by simp),hl,hs,(World.cell?_alloc_lt w _ _ (World.block_lt_of_cell? _ _ hm)).trans hm⟩
theorem UW(MM:Int)(w:World)(hm:w.cell? ⟨0,0,none⟩=some (.int .i64 MM)):Calls prog 11 #[] w fun e w'=>e=.returned (.bool true)∧Below w.heap.size w w':=by
 have hB1:=(aer _ w).alloc (aeo _) (.cells #[.string ⟨#[45,32,97]⟩,.string ⟨#[32,32,45,32,98]⟩] 9);have HP:Hid (Calls prog 12 #[.slice (some ⟨w.heap.size,0,none⟩) 2 2] (w.alloc (.cells #[.string ⟨#[45,32,97]⟩,.string ⟨#[32,32,45,32,98]⟩] 9)) (zf (bg 16 Ih) (w.alloc (.cells #[.string ⟨#[45,32,97]⟩,.string ⟨#[32,32,45,32,98]⟩] 9)))):=aen (SY Ih _ 2 MM _ (UU w Ih MM hm (by decide) (by decide)) (by decide) (by decide));have HQ:Hid (∀W:World,W.cell? ⟨0,0,none⟩=some (.int .i64 MM)→Calls prog 15 #[.slice (some ⟨W.heap.size,0,none⟩) 3 3] (W.alloc (.cells #[.string ⟨#[97]⟩,.string ⟨#[]⟩,.string ⟨#[35,32,84]⟩] 9)) (zg (bg 16 Ez) (W.alloc (.cells #[.string ⟨#[97]⟩,.string ⟨#[]⟩,.string ⟨#[35,32,84]⟩] 9)))):=aen fun W h=>S7 Ez _ 3 MM _ (UU W Ez MM h (by decide) (by decide)) (by decide) (by decide);rw[adt] at HP;have hp0:=World.block_lt_of_cell? _ _ hm;have HB1:=aen hB1;have HM:=aen hm;obtain⟨p2,hp2⟩:∃p,bg 16 Ez=some p∧p.2=[(0,1),(2,3)]:=by
  obtain⟨p,h1,h2⟩:=Am adu;exact⟨p,h1,h2.symm⟩
 rw[hp2.1] at HQ;unfold zf at HP;unfold zg at HQ;simp only[hp2.2] at HQ;clear hB1 hm hp2;go_enter Tryz.func11,Tryz.ntmps11;go_wp2_with fail;with_reducible refine(HP.out).mono ?_
 rintro e w1 ⟨b1,A,c,rfl,hk,-⟩;have HB2:=aen (HB1.out.trans (b1.mono (by simp)));have HK:=aen hk;have hm1:=aen ((HB2.out.cell (p:=⟨0,0,none⟩) hp0).trans HM.out);clear b1 hk;go_wp2_with fail;with_reducible refine(HQ.out _ hm1.out).mono ?_
 rintro e w2 ⟨b2,A2,c2,rfl,hr⟩;have b2':Below w1.heap.size w1 w2:=((aer _ w1).alloc (aeo _) _).trans (b2.mono (by simp));have HB3:=aen (HB2.out.trans (b2'.mono HB2.out.size));have hk2:=HK.out.keep (S':=fun _=>True) (fun g hg=>b2'.block g hg.2) (fun _ _=>trivial);obtain⟨g1,o1,rfl,-,h1⟩:=hk2.look (by decide);obtain⟨f1,A3,c3,f2,hk3⟩:=h1 0 (by decide);obtain⟨g2,o2,rfl,-,h2⟩:=hk3.look (by decide);obtain⟨f3,A4,c4,f4,hk4⟩:=h2 0 (by decide);obtain⟨g3,o3,rfl,-,h3⟩:=hk4.look (by decide);obtain⟨f5,A5,c5,f6,-⟩:=h3 0 (by decide);obtain⟨f7,A6,c6,f8,-⟩:=h3 1 (by decide);obtain⟨g4,o4,rfl,-,hc⟩:=hr.row (by decide) (by decide);have r0:=hc 0 _ rfl;have r1:=hc 1 _ rfl;have r2:=hc 2 _ rfl;have r3:=hc 3 _ rfl;have F1:w2.cell? ⟨g1,o1,none⟩=some (.int .i64 7):=f1;have F2:w2.cell? ⟨g1,o1+10,none⟩=some (.slice (some ⟨g2,o2,none⟩) 1 c3):=f2;have F4:w2.cell? ⟨g2,o2+10,none⟩=some (.slice (some ⟨g3,o3,none⟩) 2 c4):=f4;have F5:w2.cell? ⟨g3,o3,none⟩=some (.int .i64 1):=f5;have F7:w2.cell? ⟨g3,o3+11,none⟩=some (.int .i64 7):=f7;have R0:w2.cell? ⟨g4,o4,none⟩=some (.int .i64 0):=r0;have R1:w2.cell? ⟨g4,o4+1,none⟩=some (.int .i64 1):=r1;have R2:w2.cell? ⟨g4,o4+2,none⟩=some (.int .i64 2):=r2;have R3:w2.cell? ⟨g4,o4+3,none⟩=some (.int .i64 3):=r3;clear hc hr h1 h2 h3 hk2 hk3 hk4 b2 b2' HP HQ HK f1 f2 f3 f4 f5 f6 f7 f8 r0 r1 r2 r3;go_wp2_with fail;go_ret;exact⟨rfl,HB3.out⟩
end Go.Proofs.YtpoafhgbhnblmaaGreatDoor
