import Derived.Test.YtpoafhgbhnblmaaGreatDoorF31
set_option linter.unusedVariables false
set_option linter.unusedSimpArgs false
set_option maxRecDepth 100000
set_option maxHeartbeats 20000000
namespace Go.Proofs.YtpoafhgbhnblmaaGreatDoor
open Go.Proofs.Tryz (prog)
open Go.RowKit
theorem acS(zs:List ByteArray)(A:Option Addr)(c B:Nat)(col:Int)(w:World)(hr:Reads w B 1 A zs.length (strs zs))(hB:B≤w.heap.size)(h1:-9223372036854775808≤col)(h2:col≤9223372036854775807)(hl:zs.length≤10000000) :
 Calls prog 191 #[.slice A zs.length c,.int .i64 col] w fun e W'=>∃v,e=.returned v∧W'.ownsRow w.heap.size 9 1 v (fQ col) (strs (gu zs (fQ col)))∧Below w.heap.size w W':=by
 obtain⟨i0,hi,hi0,hi1,hi2⟩:=info_parts ru;have hn:fQ col≤32:=by unfold fQ;omega
 have qy:=aen hr;clear hr;have HC:Hid (∀k:Nat,k≤fQ col→(32<col∨col≤32)∧((k:Int)<min col 32↔k<fQ col)):=aen fun k hk=>⟨by omega,by unfold fQ;omega⟩;generalize hn0:fQ col=n at *;clear hn0;go_enter Tryz.func191,Tryz.ntmps191;go_upto_if 9 with fail
 go_cut [1] (fun s1 wx=>(∃cc:Int,s1=.int .i64 cc∧cc=min col 32)∧w=wx);case first=>
  by_cases h:32<col
  ·go_wp2_with fail;go_meet;exact⟨⟨32,rfl,by omega⟩,rfl⟩
  ·go_wp2_with fail;go_meet;exact⟨⟨col,rfl,by omega⟩,rfl⟩
 case rest=>
 obtain⟨⟨cc,rfl,hcc⟩,rfl⟩:=hcut;have HC2:Hid (∀k:Nat,k≤n→((k:Int)<cc↔k<n)):=aen fun k hk=>by rw[hcc];exact(HC.out k hk).2
 clear hcc HC;go_wp2_with fail;go_loopw [5,6] (fun v5 v6 wr=>Zw zs n w v5 v6 wr) (fun _ v _=>n - (intOf v).toNat);case atStart=>exact⟨0,rfl,by omega,by rw[show strs (gu zs 0)=[] by unfold gu strs;simp];exact World.ownsRow_nil _ _ _ _,aer _ _⟩
 case round=>
  obtain⟨k,rfl,hk,hown,hbw⟩:=hrel;have hz:=hbw.size;by_cases hlt:k<n
  ·have hkc:(k:Int)<cc:=(HC2.out k hk).2 hlt;have HS:=aen (Zu zs k);by_cases fO:k<zs.length
   ·obtain⟨b,off,rfl,hbB,hcell⟩:=ve qy.out (by omega);have hc:wr.cell? ⟨b,off+k,none⟩=some (.string zs[k]):=(hbw.cell (p:=⟨b,off+k,none⟩) (by show b<_;omega)).trans (hcell k fO);have HE:Hid (strs (gu zs (k+1))=strs (gu zs k)++[.string zs[k]]):=aen (by rw[HS.out,dif_pos fO];unfold strs;simp);clear hcell HS;generalize zs[k]=z at *;go_wp2_with (at_builtin;refine wpList_append_own _ rfl _ _ 22 rfl w.heap.size 9 i0 _ 1 16 Tryz.underlying22 hi hi0 hi1 hi2 rfl (by decide) _ _ _ rfl (hown.alloc _) ⟨wr.heap.size,0,none⟩ 1 1 [.string z] rfl rfl ?c1 ?c2 ?c3 ?c4 ?c5 ?_);case c1=>
     intro j u hj;match j,hj with
     |0,hj=>simp at hj;subst hj;simp[Addr.add]
    case c2=>intro u hu;simp at hu;subst hu;rfl
    case c3=>unfold maxLen;omega
    case c4=>omega
    case c5=>simp;omega
    intro v' w2 hown3 hgrow _;have hnx:Below w.heap.size w w2:=(hbw.alloc hz _).grown hgrow (by simp;omega) (fun k hk=>(hown.lt k hk).1);go_wp2_with fail;go_roundw;case rel=>exact⟨k+1,by go_num,by omega,by rw[HE.out];exact hown3,hnx⟩
    case measure=>simp[intOf];omega
   ·have HE:Hid (strs (gu zs (k+1))=strs (gu zs k)++[.string ⟨#[]⟩]):=aen (by rw[HS.out,dif_neg fO];unfold strs;simp);clear HS;go_wp2_with (at_builtin;refine wpList_append_own _ rfl _ _ 22 rfl w.heap.size 9 i0 _ 1 16 Tryz.underlying22 hi hi0 hi1 hi2 rfl (by decide) _ _ _ rfl (hown.alloc _) ⟨wr.heap.size,0,none⟩ 1 1 [.string ⟨#[]⟩] rfl rfl ?c1 ?c2 ?c3 ?c4 ?c5 ?_);case c1=>
     intro j u hj;match j,hj with
     |0,hj=>simp at hj;subst hj;simp[Addr.add]
    case c2=>intro u hu;simp at hu;subst hu;rfl
    case c3=>unfold maxLen;omega
    case c4=>omega
    case c5=>simp;omega
    intro v' w2 hown3 hgrow _;have hnx:Below w.heap.size w w2:=(hbw.alloc hz _).grown hgrow (by simp;omega) (fun k hk=>(hown.lt k hk).1);go_wp2_with fail;go_roundw;case rel=>exact⟨k+1,by go_num,by omega,by rw[HE.out];exact hown3,hnx⟩
    case measure=>simp[intOf];omega
  ·obtain rfl:k=n:=by omega
   have hkc:¬(k:Int)<cc:=fun h=>hlt ((HC2.out k hk).1 h);have d1:decide ((k:Int)<cc)=false:=aep hkc;go_wp2_with fail;go_ret;exact⟨_,rfl,hown,hbw⟩
def nP(zs:List ByteArray)(i n k:Nat):List BkT:=if k≤i then [] else iw zs i n k
theorem acT(zs:List ByteArray)(i n k:Nat):(nP zs i n k).length≤k+1:=by
 unfold nP;by_cases h:k≤i
 ·rw[if_pos h];exact Nat.zero_le _
 ·rw[if_neg h];unfold iw bz;rw[aeC,List.length_map,List.length_take];omega
theorem acU(zs:List ByteArray)(i n:Nat):nP zs i n (i+1+1)=nP zs i n (i+1):=by
 unfold nP;rw[if_neg (by omega),if_neg (by omega)];unfold iw bz;rw[show i+1+1 - (i+2)=0 by omega,show i+1 - (i+2)=0 by omega]
theorem acV(zs:List ByteArray)(i n k:Nat)(h:k=i∨i+2≤k)(hk:k<zs.length):nP zs i n (k+1)=nP zs i n k++[rowT (ln zs k) n]:=by
 unfold nP;rcases h with rfl|h
 ·rw[if_neg (by omega),if_pos (aeo _)];unfold iw bz;rw[show k+1 - (k+2)=0 by omega];rfl
 ·rw[if_neg (by omega),if_neg (by omega),SK zs i n k h hk]
theorem acW(zs:List ByteArray)(i n:Nat)(hi:i+1<zs.length):nP zs i n (eu zs i)=iw zs i n (eu zs i):=by
 have:=SI zs i hi;unfold nP;rw[if_neg (by omega)]
def Bg(zs:List ByteArray)(i k:Nat):Bool:=decide (k=i∨k=i+1∨(k<zs.length∧kindOf zs k=0))
def acX(zs:List ByteArray)(i n:Nat)(w:World)(v8 v9:Value)(wr:World):Prop:=
 ∃k:Nat,v9=.int .i64 k∧i≤k∧k≤zs.length∧Hid (aX wr w.heap.size (fun _=>False) v8 (nP zs i n k))∧Below w.heap.size w wr∧Hid (∀j,i+2≤j→j<k→kindOf zs j=0)
def Na(cs:List ByteArray)(n gR:Nat)(W3:World)(v14:Value)(wr:World):Prop:=
 ∃(k:Nat) (vK:Value) (its:List BkT),v14=.int .i64 k∧k≤n∧Hid (its.length=k)∧Hid (its=(cs.take k).map (jV 12))∧ae wr gR 46 (dL 11 0 vK)∧Hid (aX wr (gR+1) (fun _=>False) vK its)∧Below gR W3 wr
theorem acY(zs:List ByteArray)(A:Option Addr)(c i n:Nat)(MM:Int)(w:World)(hL:aG w A zs MM)(hi:i+1<zs.length)(hn:n≤32) :
 Calls prog 139 #[.slice A zs.length c,.int .i64 i,.int .i64 n] w fun e w'=>(∃A' c',e=.returned (.tuple #[.slice A' (iw zs i n (eu zs i)).length c',.int .i64 (eu zs i)])∧bP w' (Rg w.heap.size w') (.slice A' (iw zs i n (eu zs i)).length c') (iw zs i n (eu zs i)))∧Below w.heap.size w w':=by
 obtain⟨i0,hi0,hz0,hz1,hz2⟩:=info_parts yL;have hlen:=hL.len;obtain⟨b,off,rfl,hb,hcell⟩:=hL.get (by omega);have bQ:=aen hcell;have aS:=aen hL;have hcn:fQ (n:Int)=n:=by unfold fQ;omega
 have zD:Hid (∀j,j≤zs.length→∀W,aG W (some ⟨b,off,none⟩) zs MM→Calls prog 141 #[.slice (some ⟨b,off,none⟩) zs.length c,.int .i64 j] W fun e w'=>e=.returned (.bool (decide (j<zs.length)&&decide (kindOf zs j=0)))∧Below W.heap.size W w'):=aen fun j hj W h=>Um zs _ c j MM W h hj;have yV:Hid (∀j W,Calls prog 189 #[.string (ln zs j)] W (xh (bytesL (ln zs j)) W)):=aen fun j W=>Kt (ln zs j) W (aev (dh hL.sz j) (by decide));have uY:Hid (∀(j:Nat) (A:Option Addr) (c:Nat) (W:World),Reads W W.heap.size 1 A (cellsB (bytesL (ln zs j))).length (strs (cellsB (bytesL (ln zs j))))→Calls prog 191 #[.slice A (cellsB (bytesL (ln zs j))).length c,.int .i64 n] W fun e W'=>∃v,e=.returned v∧W'.ownsRow W.heap.size 9 1 v n (strs (gu (cellsB (bytesL (ln zs j))) n))∧Below W.heap.size W W'):=aen fun j A c W h=>by
  have:=acS (cellsB (bytesL (ln zs j))) A c W.heap.size n W h (aeo _) (by omega) (by omega) (by rw[vJ];have:=FZ (bytesL (ln zs j));rw[bytesL_length] at this;have:=dh hL.sz j;omega)
  rwa [hcn] at this
 have Uo:Hid (∀j,(gu (cellsB (bytesL (ln zs j))) n).length=n):=aen fun j=>Ks _ n;have GI:Hid (∀j,rowT (ln zs j) n=fe 11 ((gu (cellsB (bytesL (ln zs j))) n).map (jV 12))):=aen fun j=>rfl;have Up:=aen (acV zs i n);have Ur:=aen (acU zs i n);have Us:=aen (acW zs i n hi);have Ut:=aen (acT zs i n);have bH:Hid (∀k,i+2≤k→k≤zs.length→(∀j,i+2≤j→j<k→kindOf zs j=0)→(k<zs.length→kindOf zs k≠0)→eu zs i=k):=aen fun k h1 h2 h3 h4=>rC _ _ _ _ h1 h2 (fun j hj1 hj2=>by rw[h3 j hj1 hj2];rfl) (fun hl=>by rw[aep (h4 hl)];rfl);clear hcn hL hcell;unfold xh at yV;go_enter Tryz.func139,Tryz.ntmps139;go_wp2_with fail;go_loopw [8,9] (fun v8 v9 wr=>acX zs i n w v8 v9 wr) (fun _ v9 _=>zs.length - (intOf v9).toNat);case atStart=>exact⟨i,rfl,aeo _,by omega,aen (by unfold nP;rw[if_pos (aeo _)];exact aX.nil _ _ _),aer _ _,aen fun j h1 h2=>absurd h2 (by omega)⟩
 case round=>
  obtain⟨k,rfl,hik,hk,bZ,hbw,Hq⟩:=hrel;have og:=Ut.out k;obtain⟨AR,cR,rfl⟩:=bZ.out.own;have kP:=aen (aS.out.below hbw);go_upto_region 3 with fail
  go_cut [27] from 14 to 62 (fun s27 wx=>s27=.bool (Bg zs i k)∧Hid (aX wx w.heap.size (fun _=>False) (.slice AR (nP zs i n k).length cR) (nP zs i n k))∧Below w.heap.size w wx);case first=>
   by_cases e1:k=i
   ·have hg:Bg zs i k=true:=aeq (.inl e1);have Nb:=aen hg;subst e1;clear hg;go_wp2_with fail;go_meet;exact⟨by rw[Nb.out],bZ,hbw⟩
   by_cases e2:k=i+1
   ·have hg:Bg zs i k=true:=aeq (.inr (.inl e2));have Nb:=aen hg;have z1:(((k:Nat):Int)==((i:Nat):Int))=false:=by rw[aes];omega
    have z2:(((k:Nat):Int)==((i:Nat):Int)+1)=true:=by rw[beq_iff_eq];omega
    have z3:(k==i)=false:=by rw[aes];omega
    clear hg e1;have E2:=aen e2;clear e2;go_wp2_with fail;go_meet;exact⟨by rw[Nb.out],bZ,hbw⟩
   ·have hg:Hid (Bg zs i k=(decide (k<zs.length)&&decide (kindOf zs k=0))):=aen (by
     unfold Bg;by_cases a:k<zs.length
     ·by_cases b:kindOf zs k=0
      ·rw[aeq a,aeq b,aeq (.inr (.inr ⟨a,b⟩))];rfl
      ·rw[aep b,Bool.and_false,aep];rintro (h|h|h)
       ·exact e1 h
       ·exact e2 h
       ·exact b h.2
     ·rw[aep a,Bool.false_and,aep];rintro (h|h|h)
      ·exact e1 h
      ·exact e2 h
      ·exact a h.1)
    have z1:(((k:Nat):Int)==((i:Nat):Int))=false:=by rw[aes];omega
    have z2:(((k:Nat):Int)==((i:Nat):Int)+1)=false:=by rw[aes];omega
    have z3:(k==i)=false:=by rw[aes];omega
    have HI1:=aen (zD.out k hk wr kP.out);generalize (decide (k<zs.length)&&decide (kindOf zs k=0))=q at *;clear e1 e2;go_wp2_with fail;with_reducible refine(HI1.out).mono ?_
    rintro e w1 ⟨rfl,b1⟩;go_wp2_with fail;go_meet;exact⟨by rw[hg.out],aen (bZ.out.below b1),hbw.trans (b1.mono hbw.size)⟩
  case rest=>
  obtain⟨rfl,Nc,hbc⟩:=hcut;clear kP bZ hbw;have hzc:=hbc.size;cases hg:Bg zs i k with
  |false=>
   have HG:Hid (k≠i∧k≠i+1∧¬(k<zs.length∧kindOf zs k=0)):=aen (by
    have h:=of_decide_eq_false hg;exact⟨fun e=>h (.inl e),fun e=>h (.inr (.inl e)),fun e=>h (.inr (.inr e))⟩)
   have HT:Hid (eu zs i=k):=aen (bH.out k (by have:=HG.out.1;have:=HG.out.2.1;omega) hk Hq.out fun hl h=>HG.out.2.2 ⟨hl,h⟩);clear hg;go_wp2_with fail;go_ret2;have hkk:=Nc.out.kids;rw[←Us.out,HT.out];exact⟨⟨_,_,rfl,hkk⟩,hbc⟩
  |true=>
   have HG:Hid (k=i∨k=i+1∨(k<zs.length∧kindOf zs k=0)):=aen (of_decide_eq_true hg);clear hg;by_cases e2:k=i+1
   ·subst e2;clear HG;have hi1:i+1+1≤zs.length:=by omega
    have z2:(((i+1:Nat):Int) != ((i:Nat):Int)+1)=false:=by rw[bne_eq_false_iff_eq];omega
    have z3:(((i:Nat):Int)+1 != ((i:Nat):Int)+1)=false:=by rw[bne_eq_false_iff_eq]
    go_wp2_with fail;go_roundw;case rel=>exact⟨i+1+1,by go_num,by omega,by omega,by rw[Ur.out];exact Nc,hbc,aen fun j h1 h2=>absurd h2 (by omega)⟩
    case measure=>simp[intOf];omega
   have hkl:k<zs.length:=by
    rcases HG.out with h|h|h
    ·omega
    ·omega
    ·exact h.1
   have hki:k=i∨i+2≤k:=by omega
   have HQ1:=aen (Up.out k hki hkl);have TL:Hid (∀j,i+2≤j→j<k+1→kindOf zs j=0):=aen fun j h1 h2=>by
    by_cases e:j=k
    ·subst e;rcases HG.out with h|h|h
     ·omega
     ·omega
     ·exact h.2
    ·exact Hq.out j h1 (by omega)
   have z2:(((k:Nat):Int) != ((i:Nat):Int)+1)=true:=by rw[aeB];omega
   have hc0:wc.cell? ⟨b,off+k,none⟩=some (.string (ln zs k)):=(hbc.cell (p:=⟨b,off+k,none⟩) hb).trans (bQ.out k hkl);have Uu:=aen fun W=>yV.out k W;have Uw:=aen fun A c W=>uY.out k A c W;have hfl:=Uo.out k;have ac1:=aen (GI.out k);have hrl:=Ut.out k;clear HG zD yV uY Uo GI Up Ur Us bH Hq e2;generalize hcs:gu (cellsB (bytesL (ln zs k))) n=cs at *;generalize cellsB (bytesL (ln zs k))=zc at *;clear hcs;generalize rowT (ln zs k) n=RT at *;generalize nP zs i n k=RQ at *;generalize ln zs k=zk at *;go_wp2_with fail;with_reducible refine(Uu.out _).mono ?_
   rintro e w1 ⟨A1,c1,rfl,hown1,b1⟩;have HR1:=aen (Reads.of_own hown1);have HB1:=aen b1;clear hown1 b1 Uu;go_wp2_with fail;with_reducible refine(Uw.out A1 c1 _ HR1.out).mono ?_
   rintro e w2 ⟨v5,rfl,hown2,b2⟩;obtain⟨A5,c5,rfl⟩:=ay hown2;have HB2:=aen (HB1.out.trans (b2.mono HB1.out.size));have DL:=aen (Reads.of_own hown2);have jA:=HB2.out.size;clear hown2 b2 Uw HR1 HB1 hc0;go_upto_region 7 with fail
   generalize hW3:w2.alloc _=W3;obtain⟨gR,vU⟩:∃gR,gR=w2.heap.size:=⟨_,rfl⟩;have yX:Hid (ae W3 gR 46 (dL 11 0 (.slice none 0 0))):=aen (by rw[←hW3,vU];exact ae.new w2 _ _);have HB3:Hid (Below wc.heap.size wc W3):=aen (by rw[←hW3];exact HB2.out.alloc HB2.out.size _);have yg:Hid (Reads W3 gR 1 A5 cs.length (strs cs)):=aen (by rw[←hW3,vU,hfl];exact DL.out.alloc (aeo _) _);have hgw:wc.heap.size≤gR:=by omega
   have hg3:gR<W3.heap.size:=yX.out.lt;rw[←vU];clear hW3 vU HB2 DL jA;have DN:Hid (Na cs n gR W3 (.int .i64 (0:Nat)) W3):=aen ⟨0,_,[],rfl,Nat.zero_le _,aen rfl,aen rfl,yX.out,aen (aX.nil _ _ _),aer _ _⟩;have Nh:=aen (show k<zs.length∧i≤k from ⟨hkl,hik⟩);clear yX;go_wp2_with fail;go_loopw [12] (fun v12 wr=>Na cs n gR W3 v12 wr) (fun v12 _=>n - (intOf v12).toNat);case atStart=>exact DN.out
   case round=>
    clear DN;obtain⟨q,vK,its,rfl,hq,hil,vV,nM,bZ,hbW⟩:=hrel;have dU:=hbW.size;have hgR:=nM.lt;have aaP:its.length≤n:=by rw[hil.out];exact hq
    obtain⟨AK,cK,rfl⟩:=bZ.out.own;obtain⟨l0,l1,l2,l3,l4,l5,l6,l7,l8,l9,l10,j0,j1,j2,j3,j4,j5,j6,j7,j8,j9,j10⟩:=nC nM;by_cases hlt:q<n
    ·obtain⟨bS,oS,rfl,hbS,hcell⟩:=ve yg.out (by omega);have hkc:q<cs.length:=by omega
     have hcc:=hcell q hkc;have hc5:wr.cell? ⟨bS,oS+q,none⟩=some (.string cs[q]):=(hbW.cell (p:=⟨bS,oS+q,none⟩) hbS).trans hcc;have fU:=aen fun W=>MO cs[q] W;obtain⟨S,vs,hS,hkk,hown⟩:=bZ.out;have hv7:=hown.lt;have HKK:=aen hkk;have ji:=aen hS;have yY:Hid (∀W,Below wr.heap.size wr W→W.cell? ⟨gR,10,none⟩=some (.slice AK its.length cK)∧W.cell? ⟨bS,oS+q,none⟩=some (.string cs[q])∧(∀o,(W.alloc o).cell? ⟨gR,10,none⟩=some (.slice AK its.length cK))∧gR<W.heap.size):=aen fun W h=>by
      have h1:=(nM.below h hgR).cell 10;have h2:gR<W.heap.size:=(nM.below h hgR).lt;exact⟨h1,(h.cell (p:=⟨bS,oS+q,none⟩) (by show bS<_;omega)).trans hc5,fun o=>(World.cell?_alloc_lt W o _ h2).trans h1,h2⟩
     have AM:Hid (∀(g cap:Nat) (w3:World),ae w3 gR 46 (dL 11 0 (.slice AK its.length cK))→aX w3 (gR+1) (fun _=>False) (.slice (some ⟨g,0,none⟩) (its.length+1) cap) (its++[jV 12 cs[q]])→Below gR W3 w3→Na cs n gR W3 (.int .i64 ((q:Int)+1)) (w3.setCell ⟨gR,10,none⟩ (.slice (some ⟨g,0,none⟩) (its.length+1) cap))):=aen fun g cap w3 h1 h3 h4=>
      ⟨q+1,_,its++[jV 12 cs[q]],by go_num,by omega,aen (by rw[aey,hil.out];rfl),aen (by rw[List.take_succ_eq_append_getElem hkc,List.map_append,←vV.out];rfl),h1.bJ 10 _,aen (h3.far (jo (vg w3 (some gR)) 10 _) (by omega)),h4.setCell (p:=⟨gR,10,none⟩) (aeo _) _⟩
     have HAB:Hid (∀(Av:Option Addr) (nv cv:Nat),kL #[.int .i64 12,.int .i64 0,.string ⟨#[]⟩,.string ⟨#[]⟩,.string ⟨#[]⟩,.string ⟨#[]⟩,.string ⟨#[]⟩,.slice none 0 0,.slice none 0 0,.slice Av nv cv,.slice none 0 0]):=aen fun Av nv cv=>⟨_,_,_,_,_,_,_,_,_,_,_,_,_,_,_,_,_,_,_,rfl⟩;clear hkk hS hcc hcell bZ vV l0 l1 l2 l3 l4 l5 l6 l7 l8 l9 j0 j1 j2 j3 j4 j5 j6 j7 j8 j9 j10;generalize cs[q]=y at *;go_wp2_with fail;refine wp_region_held_drew (S:=fun _=>True) (by kernel_rfl) trivial (fun hHeld=>?_);refine tk 0 (.pointer (some ⟨gR,10,none⟩)) rfl hHeld (fun W' hSw=>?_) ?_
     ·go_simp
     refine tk 2 (.slice (some ⟨bS,oS,none⟩) n c5) rfl hHeld (fun W' hSw=>?_) ?_
     ·go_simp
     refine tk 3 (.int .i64 q) rfl hHeld (fun W' hSw=>?_) ?_
     ·go_simp
     refine tk 4 (.pointer (some ⟨bS,oS+q,none⟩)) rfl hHeld (fun W' hSw=>?_) ?_
     ·go_simp
     refine wpAnyH_ready (rs:=[1,5]) (by kernel_rfl) (by simp) (AllReadyH.cons rfl (fun K hK=>?_) (AllReadyH.cons rfl (fun K hK=>?_) AllReadyH.nil));go_simp;refine hK.out _ _ trivial (fun hHeld=>?_);clear hK K;refine aC 5 rfl (fun K hK=>?_);go_simp;refine hK.out _ _ trivial (fun hHeld=>?_);clear hK K;refine aC 6 rfl (fun K hK=>?_);go_simp;with_reducible refine(fU.out _).mono ?_
     rintro e w9 ⟨v,rfl,hsrc,b8⟩;have b9:Below wr.heap.size wr w9:=(aer wr.heap.size wr).drew.trans b8;obtain⟨Av,nv,cv,rfl⟩:=pM hsrc;obtain⟨f10,f11,f12,f13⟩:=yY.out _ b9;have DT:=f12 (.cells #[.int .i64 12,.int .i64 0,.string ⟨#[]⟩,.string ⟨#[]⟩,.string ⟨#[]⟩,.string ⟨#[]⟩,.string ⟨#[]⟩,.slice none 0 0,.slice none 0 0,.slice Av nv cv,.slice none 0 0] 46);have kQ:=b9.size;go_simp;refine hK.out _ _ trivial (fun hHeld=>?_);clear hK K;refine aC 7 rfl (fun K hK=>?_);go_simp;refine hK.out _ _ trivial (fun hHeld=>?_);clear hK K;refine aC 8 rfl (fun K hK=>?_);go_simp;refine hK.out _ _ trivial (fun hHeld=>?_);clear hK K;rotate_left;go_simp;refine hK.out _ _ trivial (fun hHeld=>?_);clear hK K;refine wpAnyH_ready (rs:=[1,6]) (by kernel_rfl) (by simp) (AllReadyH.cons rfl (fun K hK=>?_) (AllReadyH.cons rfl (fun K hK=>?_) AllReadyH.nil));go_simp;refine hK.out _ _ trivial (fun hHeld=>?_);clear hK K;refine aC 6 rfl (fun K hK=>?_);go_simp;with_reducible refine(fU.out _).mono ?_
     rintro e w9 ⟨v,rfl,hsrc,b8⟩;have b9:Below wr.heap.size wr w9:=(aer wr.heap.size wr).drew.trans b8;obtain⟨Av,nv,cv,rfl⟩:=pM hsrc;obtain⟨f10,f11,f12,f13⟩:=yY.out _ b9;have DT:=f12 (.cells #[.int .i64 12,.int .i64 0,.string ⟨#[]⟩,.string ⟨#[]⟩,.string ⟨#[]⟩,.string ⟨#[]⟩,.string ⟨#[]⟩,.slice none 0 0,.slice none 0 0,.slice Av nv cv,.slice none 0 0] 46);have kQ:=b9.size;go_simp;refine hK.out _ _ trivial (fun hHeld=>?_);clear hK K;refine aC 7 rfl (fun K hK=>?_);go_simp;refine hK.out _ _ trivial (fun hHeld=>?_);clear hK K;refine aC 8 rfl (fun K hK=>?_);go_simp;refine hK.out _ _ trivial (fun hHeld=>?_);clear hK K;rotate_left;go_simp;with_reducible refine(fU.out _).mono ?_
     rintro e w9 ⟨v,rfl,hsrc,b8⟩;have b9:Below wr.heap.size wr w9:=(aer wr.heap.size wr).drew.trans b8;obtain⟨Av,nv,cv,rfl⟩:=pM hsrc;obtain⟨f10,f11,f12,f13⟩:=yY.out _ b9;have DT:=f12 (.cells #[.int .i64 12,.int .i64 0,.string ⟨#[]⟩,.string ⟨#[]⟩,.string ⟨#[]⟩,.string ⟨#[]⟩,.string ⟨#[]⟩,.slice none 0 0,.slice none 0 0,.slice Av nv cv,.slice none 0 0] 46);have kQ:=b9.size;go_simp;refine hK.out _ _ trivial (fun hHeld=>?_);clear hK K;refine tk 7 (.agg #[.int .i64 12,.int .i64 0,.string ⟨#[]⟩,.string ⟨#[]⟩,.string ⟨#[]⟩,.string ⟨#[]⟩,.string ⟨#[]⟩,.slice none 0 0,.slice none 0 0,.slice Av nv cv,.slice none 0 0]) rfl hHeld (fun W' hSw=>?_) ?_
     ·go_simp
     refine wpAnyH_ready (rs:=[1,8]) (by kernel_rfl) (by simp) (AllReadyH.cons rfl (fun K hK=>?_) (AllReadyH.cons rfl (fun K hK=>?_) AllReadyH.nil));go_simp;refine hK.out _ _ trivial (fun hHeld=>?_);clear hK K;refine aC 8 rfl (fun K hK=>?_);go_simp;refine hK.out _ _ trivial (fun hHeld=>?_);clear hK K;rotate_left;go_simp;refine hK.out _ _ trivial (fun hHeld=>?_);clear hK K;refine aC 1 rfl (fun K hK=>?_);go_simp;refine hK.out _ _ trivial (fun hHeld=>?_);clear hK K;all_goals
      refine aC 9 rfl (fun K hK=>?_);refine step_append_lies _ rfl (.tmp 47) (.tmp 54) 25 rfl (gR+1) 46 i0 _ 11 192 Tryz.underlying25 hi0 hz0 hz1 hz2 rfl (by decide) _ _ _ rfl ((own_below hown b9).alloc _) ⟨w9.heap.size,0,none⟩ 1 1 #[.int .i64 12,.int .i64 0,.string ⟨#[]⟩,.string ⟨#[]⟩,.string ⟨#[]⟩,.string ⟨#[]⟩,.string ⟨#[]⟩,.slice none 0 0,.slice none 0 0,.slice Av nv cv,.slice none 0 0].toList rfl rfl ?c1 (HAB.out _ _ _).one (by decide) ?c3 ?c4 ?c5 (w9.heap.size+1) ?c6 ?_;case c1=>exact World.news_of_block (t:=46) (fr:=(0,0)) (cs:=#[.int .i64 12,.int .i64 0,.string ⟨#[]⟩,.string ⟨#[]⟩,.string ⟨#[]⟩,.string ⟨#[]⟩,.string ⟨#[]⟩,.slice none 0 0,.slice none 0 0,.slice Av nv cv,.slice none 0 0]) (heap_alloc_new w9 _)
      case c3=>unfold maxLen;omega
      case c4=>omega
      case c5=>simp;omega
      case c6=>simp
      intro g7 gm w3 hown3 hgrow hlies hlt3;refine hK.out _ _ trivial (fun hHeld=>?_);clear hK K;have jJ:=aen (aX.push (E:=fun _=>False) ji.out HKK.out b9 (fun k h=>(hv7 k h).2) (fun k h=>h.elim) (by omega) kQ (DJ (kind:=12) (SE hsrc (aeo _))) hown3 hgrow hlies (Nat.le_succ _));have rV:Hid (ae w3 gR 46 (dL 11 0 (.slice AK its.length cK))):=aen ((ae.alloc (nM.below b9 hgR) _).grown hgrow (fun e=>by have:=(hv7 _ e.symm).1;omega));have HB3:Hid (Below gR W3 w3):=aen (((hbW.trans (b9.mono (by omega))).alloc (by omega) _).grown hgrow (by simp;omega) (fun k e=>by have:=(hv7 k e).1;omega));obtain⟨l0,l1,l2,l3,l4,l5,l6,l7,l8,l9,l10,j0,j1,j2,j3,j4,j5,j6,j7,j8,j9,j10⟩:=nC rV.out;have hg3:=rV.out.lt;clear l0 l1 l2 l3 l4 l5 l6 l7 l8 l9 j0 j1 j2 j3 j4 j5 j6 j7 j8 j9;refine aC 10 rfl (fun K hK=>?_);go_simp;refine hK.out _ _ trivial (fun hHeld=>?_);clear hK K;refine aC 11 rfl (fun K hK=>?_);go_simp;refine hK.out _ _ trivial (fun hHeld=>?_);clear hK K;refine wpAnyH_done (by kernel_rfl) ?_ _;go_wp2_with fail;go_roundw;case rel=>exact AM.out _ _ _ rV.out jJ.out HB3.out
      case measure=>simp[intOf];omega
    ·obtain rfl:q=n:=by omega
     have GK:Hid (its=cs.map (jV 12)):=aen (by rw[vV.out,List.take_of_length_le (by omega)]);have aaQ:=aen nM;have Ia:=aen (HB3.out.trans (hbW.mono (by omega):Below wc.heap.size W3 wr));have dB:Hid (dw wr (Rg gR wr) (dL 11 0 (.slice AK its.length cK)) RT):=aen (by
      rw[ac1.out,←GK.out];exact iq (kind:=11) (level:=0) (att:=ak) (aW.empty _ _ _ _) (jg _ _) ((aX.kids bZ.out).low (Nat.le_succ _)))
     have HAB:Hid (kL (dL 11 0 (.slice AK its.length cK))):=aen dB.out.form;obtain⟨S,vs,hS,hkk,hown⟩:=Nc.out;have hv7:=hown.lt;have HKK:=aen hkk;have ji:=aen hS;have hown2:=own_below hown Ia.out;have aeg:=Ia.out.size;have hzR:gR<wr.heap.size:=hgR;unfold dL at dB HAB;clear vV nM hkk hS hown bZ hbW j0 j1 j2 j3 j4 j5 j6 j7 j8 j9 j10 hlt hil GK;go_wp2_with (at_builtin;refine wpList_append_lies _ rfl _ _ 25 rfl w.heap.size 46 i0 _ 11 192 Tryz.underlying25 hi0 hz0 hz1 hz2 rfl (by decide) _ _ _ rfl (hown2.alloc _) ⟨wr.heap.size,0,none⟩ 1 1 _ rfl HAB.out.len ?c1 HAB.out.one (by decide) ?c3 ?c4 ?c5 (wr.heap.size+1) ?c6 ?_);case c3=>unfold maxLen;omega
     case c4=>omega
     case c5=>first|omega|(simp;omega)
     try (case c6=>simp)
     intro g7 gm w3 hown3 hgrow hlies hlt3;have jJ:=aen (aX.push (E:=fun _=>False) ji.out HKK.out Ia.out (fun k h=>aeA (hv7 k h).2 hgw) (fun k h=>h.elim) (by omega) (by omega) dB.out hown3 hgrow hlies (by simp));have ac2:Hid (Below w.heap.size w w3):=aen (((hbc.trans (Ia.out.mono hzc)).alloc (by omega) _).grown hgrow (by simp;omega) (fun k e=>by have:=(hv7 k e).1;omega));clear hown2 hgrow hlies hown3 hv7;go_wp2_with fail;go_roundw;case rel=>exact⟨k+1,by go_num,by have:=Nh.out;omega,by have:=Nh.out;omega,by rw[HQ1.out];exact jJ,ac2.out,TL⟩
     case measure=>have:=Nh.out;simp[intOf];omega
theorem ac3(sep:ByteArray)(l:List ByteArray)(x:ByteArray)(h:l≠[]):joinL sep (l++[x])=joinL sep l++bytesL sep++bytesL x:=by
 obtain⟨k,hk⟩:∃k,l.length=k+1:=⟨l.length - 1,by have:=List.length_pos_iff.2 h;omega⟩;have:=Q5 sep (l++[x]) k (by rw[aey,hk];show k+1<k+1+1;omega);have e1:(l++[x]).take (k+1+1)=l++[x]:=List.take_of_length_le (by rw[aey,hk];exact aeo _);have e2:(l++[x]).take (k+1)=l:=by rw[←hk];simp
 have e3:∀h,(l++[x])[k+1]'h=x:=fun h=>by rw[List.getElem_append_right (by omega)];simp[hk]
 rw[e1,e2,e3] at this;exact this
theorem Ux(zs:List ByteArray)(i k:Nat)(h:i≤k)(hk:k<zs.length):dV zs i (k+1)=dV zs i k++[mk (trimS (bytesL (ln zs k)))]:=by
 unfold dV;rw[Gt zs i k h hk,List.map_append];rfl
theorem ac4(zs:List ByteArray)(i k:Nat)(h:i+1≤k)(hk:k<zs.length):joinL ⟨#[10]⟩ (dV zs i (k+1))=joinL ⟨#[10]⟩ (dV zs i k)++[10]++trimS (bytesL (ln zs k)):=by
 have hne:dV zs i k≠[]:=by
  intro e;have:=Lr zs i k (by omega) (by omega);rw[e] at this;simp at this;omega
 rw[Ux zs i k (by omega) hk,ac3 _ _ _ hne,bytesL_mk'];rfl
theorem ac5(zs:List ByteArray)(i:Nat)(hk:i<zs.length):joinL ⟨#[10]⟩ (dV zs i (i+1))=trimS (bytesL (ln zs i)):=by
 rw[Ux zs i i (aeo _) hk,show dV zs i i=[] by unfold dV bz;simp];show bytesL (mk _)++[]=_;rw[List.append_nil,bytesL_mk']
theorem ac6(zs:List ByteArray)(i k:Nat)(h:i≤k)(hk:k≤zs.length)(hl:zs.length≤10000)(hM:∀z∈zs,z.size≤100000):(joinL ⟨#[10]⟩ (dV zs i k)).length≤2000000000:=by
 have h1:=ZT ⟨#[10]⟩ (dV zs i k);have h2:=Kv 100000 _ (Sv zs i k hM);rw[Lr zs i k h hk] at h1 h2;have h3:(⟨#[10]⟩:ByteArray).size=1:=rfl;rw[h3] at h1;have h4:(k - i) * 100000≤10000 * 100000:=Nat.mul_le_mul_right _ (by omega);omega
def Uy(zs:List ByteArray)(i:Nat)(w:World)(v14 v15:Value)(wr:World):Prop:=
 ∃k:Nat,v15=.int .i64 k∧i+1≤k∧k≤zs.length∧v14=.string (mk (joinL ⟨#[10]⟩ (dV zs i k)))∧ZB wr w.heap.size∧Below w.heap.size w wr∧Hid (∀j,i+1≤j→j<k→oD zs j=false)
theorem ac7{zs:List ByteArray}{i:Nat}(h:gZ zs i=true):i+1<zs.length∧∃r,gJ (bytesL (ln zs (i+1)))=some r:=by
 unfold gZ at h;rw[Bool.and_eq_true,decide_eq_true_eq] at h;refine⟨h.1,?_⟩;have h2:=h.2;unfold headB at h2;cases e:gJ (bytesL (ln zs (i+1))) with
 |none=>rw[e] at h2;cases h2
 |some r=>exact⟨r,rfl⟩
theorem ac8(d:Nat)(hd:d≤15)(zs:List ByteArray)(A:Option Addr)(c i B:Nat)(MM:Int)(w:World)(hL:aG w A zs MM)(hi:i<zs.length)(hB:B≤w.heap.size)(hh:gZ zs i=true) :
 Calls prog 88 #[.slice A zs.length c,.int .i64 i,.int .i64 d] w
  (uG B (if decide (d+2≤15)=true then some (ou zs i ((gJ (bytesL (ln zs (i+1)))).getD []),eu zs i) else none) w):=by
 have hlen:=hL.len;obtain⟨hi1,r,hr⟩:=ac7 hh;have hrl:=F6 hr;rw[hr,Option.getD_some];obtain⟨b,off,rfl,hb,hcell⟩:=hL.get (by omega);have DV:=aen (hcell (i+1) hi1);have aS:=aen hL;have zF:Hid (∀W,aG W (some ⟨b,off,none⟩) zs MM→Calls prog 137 #[.slice (some ⟨b,off,none⟩) zs.length c,.int .i64 i] W fun e w'=>e=.returned (.bool true)∧Below W.heap.size W w'):=aen fun W h=>by
  have:=Un zs (some ⟨b,off,none⟩) c i MM W h (by omega)
  rwa [hh] at this
 have vS:Hid (∀W,Calls prog 138 #[.string (ln zs (i+1))] W fun e w'=>e=.returned (.tuple #[.string (mk r),.bool true])∧Below W.heap.size W w'):=aen fun W=>(Q4 (ln zs (i+1)) W (aev (dh hL.sz _) (by decide))).mono fun e w' h=>by
  rw[hr] at h;exact h
 have hms:(mk r).size=r.length:=mk_size r;have lD:Hid (∀W,aG W (some ⟨b,off,none⟩) zs MM→Calls prog 139 #[.slice (some ⟨b,off,none⟩) zs.length c,.int .i64 i,.int .i64 (mk r).size] W fun e w'=>(∃A' c',e=.returned (.tuple #[.slice A' (iw zs i (mk r).size (eu zs i)).length c',.int .i64 (eu zs i)])∧bP w' (Rg W.heap.size w') (.slice A' (iw zs i (mk r).size (eu zs i)).length c') (iw zs i (mk r).size (eu zs i)))∧Below W.heap.size W w'):=aen fun W h=>acY zs (some ⟨b,off,none⟩) c i (mk r).size MM W h hi1 (by omega);have LC:Hid (ou zs i r=.mk 10 0 (mk r) ⟨#[]⟩ ⟨#[]⟩ ⟨#[]⟩ ak ⟨#[]⟩ (iw zs i (mk r).size (eu zs i))):=aen (by rw[hms];rfl);obtain⟨PR,aO⟩:∃PR,PR=if decide (d+2≤15)=true then some (ou zs i r,eu zs i) else none:=⟨_,rfl⟩
 rw[←aO];have hq:∃q:Bool,decide ((d:Int)+2≤15)=q∧Hid (q=true→PR=some (ou zs i r,eu zs i))∧Hid (q=false→PR=none):=by
  by_cases h:d+2≤15
  ·exact⟨true,aeq (by omega),aen fun _=>by rw[aO,if_pos (aeq h)],aen fun e=>by cases e⟩
  ·exact⟨false,aep (by omega),aen fun e=>(by cases e),aen fun _=>by rw[aO,if_neg (by rw[decide_eq_true_eq];exact h)]⟩
 obtain⟨q,hqd,Hq1,Hq2⟩:=hq;have HZ0:=aen (ae.new w 46 fA);unfold fA at HZ0;have HB0:Hid (∀o,Below w.heap.size w (w.alloc o)):=aen fun o=>(aer _ w).alloc (aeo _) _;clear aO hL hcell hms hrl hr hh;generalize iw zs i (mk r).size (eu zs i)=RK at *;generalize eu zs i=tt at *;generalize ou zs i r=TB at *;generalize mk r=info at *;go_enter Tryz.func88,Tryz.ntmps88;go_wp2_with fail;with_reducible refine(zF.out _ (aS.out.below (HB0.out _))).mono ?_
 rintro e w1 ⟨rfl,b1⟩;have HZ1:=aen (show ZB w1 w.heap.size from ae.below HZ0.out b1 (by simp));have HB1:=aen ((HB0.out (.cells #[.int .i64 0,.int .i64 0,.string ⟨#[]⟩,.string ⟨#[]⟩,.string ⟨#[]⟩,.string ⟨#[]⟩,.string ⟨#[]⟩,.slice none 0 0,.slice none 0 0,.slice none 0 0,.slice none 0 0] 46)).trans (b1.mono (by simp)));have hc1:w1.cell? ⟨b,off+(i+1),none⟩=some (.string (ln zs (i+1))):=(HB1.out.cell (p:=⟨b,off+(i+1),none⟩) hb).trans DV.out;clear zF b1 HZ0 HB0 DV;generalize ln zs (i+1)=z1 at *;go_wp2_with fail;with_reducible refine(vS.out _).mono ?_
 rintro e w2 ⟨rfl,b2⟩;have HZ2:=aen (HZ1.out.below (w:=w) b2);have HB2:=aen (HB1.out.trans (b2.mono HB1.out.size));have jA:=HB2.out.size;clear b2 HZ1 HB1 vS hc1;go_upto_region 4 with fail
 generalize hW3:w2.alloc _=W3;obtain⟨gT,Nj⟩:∃gT,gT=w2.heap.size:=⟨_,rfl⟩;have rV:Hid (ae W3 gT 46 #[.int .i64 10,.int .i64 0,.string info,.string ⟨#[]⟩,.string ⟨#[]⟩,.string ⟨#[]⟩,.string ⟨#[]⟩,.slice none 0 0,.slice none 0 0,.slice none 0 0,.slice none 0 0]):=aen (by rw[←hW3,Nj];exact ae.new w2 _ _);have HZ3:Hid (ZB W3 w.heap.size):=aen (by rw[←hW3];exact ae.alloc HZ2.out _);have HB3:Hid (Below w.heap.size w W3):=aen (by rw[←hW3];exact HB2.out.alloc HB2.out.size _);have hgw:w.heap.size<gT:=by have:=ae.lt HZ2.out;omega
 have hg3:gT<W3.heap.size:=rV.out.lt;rw[←Nj];clear hW3 Nj HZ2 HB2 jA;go_wp2_with fail;with_reducible refine(lD.out _ (aS.out.below HB3.out)).mono ?_
 rintro e w4 ⟨⟨A',c',rfl,hk⟩,b4⟩;have Ib:=aen (rV.out.below b4 hg3);have gI:=aen (HZ3.out.below (w:=w) b4);have HB4:=aen (HB3.out.trans (b4.mono HB3.out.size));have Uz:=aen hk;have hg4:gT<w4.heap.size:=Ib.out.lt;obtain⟨l0,l1,l2,l3,l4,l5,l6,l7,l8,l9,l10,j0,j1,j2,j3,j4,j5,j6,j7,j8,j9,j10⟩:=az Ib.out;clear hk b4 rV HZ3 HB3 lD l0 l1 l2 l3 l4 l5 l6 l7 l8 l9 j0 j1 j2 j3 j4 j5 j6 j7 j8 j9;go_upto_region 6 with fail
 generalize Ew:w4.setCell _ _=W5;have UA:Hid (ae W5 gT 46 #[.int .i64 10,.int .i64 0,.string info,.string ⟨#[]⟩,.string ⟨#[]⟩,.string ⟨#[]⟩,.string ⟨#[]⟩,.slice none 0 0,.slice none 0 0,.slice none 0 0,.slice A' RK.length c']):=aen (by rw[←Ew];exact Ib.out.bJ 10 _);have jR:Hid (ZB W5 w.heap.size):=aen (by rw[←Ew];exact ae.far gI.out (by simp;omega) _);have mX:Hid (Below w.heap.size w W5):=aen (by rw[←Ew];exact HB4.out.setCell (p:=⟨gT,10,none⟩) (by show _≤gT;omega) _);have DZ:Hid (bP W5 (Rg (gT+1) W5) (.slice A' RK.length c') RK):=aen (by rw[←Ew];exact Uz.out.far (jo (vg w4 (some gT)) 10 _) hg3 (by omega));have hg5:gT<W5.heap.size:=UA.out.lt;obtain⟨l0,l1,l2,l3,l4,l5,l6,l7,l8,l9,l10,j0,j1,j2,j3,j4,j5,j6,j7,j8,j9,j10⟩:=az UA.out;obtain⟨k0,k1,k2,k3,k4,k5,k6,k7,k8,k9,k10,y0,y1,y2,y3,y4,y5,y6,y7,y8,y9,aj⟩:=ZB.facts jR.out;clear Ew Ib gI HB4 Uz j0 j1 j2 j3 j4 j5 j6 j7 j8 j9 j10;have hlow:B≤gT+1:=by omega
 have DU:w.heap.size<gT+1:=by omega
 cases q with
 |true=>
  have HQ:=aen (Hq1.out rfl);go_wp2_with fail;exact Hr (ax jR.out _ _ _ _ _ _ _ _ _ _ _) rfl rfl rfl rfl (oH HQ.out (by
   rw[LC.out];exact iq (kind:=10) (level:=0) (att:=ak) (aW.empty _ _ _ _) (jg _ _) (DZ.out.far (aV _ _ _ _ _ _ _ _ _ _ _ _ _) DU hlow)) (au mX.out (aeo _) _ _ _ _ _ _ _ _ _ _ _))
 |false=>
  have HQ:=aen (Hq2.out rfl);go_wp2_with fail;exact Hr (ax jR.out _ _ _ _ _ _ _ _ _ _ _) rfl rfl rfl rfl (Ba HQ.out ⟨_,_,_,_,_,_,_,_,_,_,_,_,_,_,_,_,_,_,_,rfl⟩ (au mX.out (aeo _) _ _ _ _ _ _ _ _ _ _ _))
theorem adb(d:Nat)(hd:d≤15)(zs:List ByteArray)(A:Option Addr)(c i B:Nat)(MM:Int)(w:World)(hL:aG w A zs MM)(hi:i<zs.length)(hB:B≤w.heap.size)(hh:gZ zs i=false) :
 Calls prog 88 #[.slice A zs.length c,.int .i64 i,.int .i64 d] w (uG B (some (qE zs i,ig zs i)) w):=by
 have hlen:=hL.len;obtain⟨b,off,rfl,hb,hcell⟩:=hL.get (by omega);have bQ:=aen hcell;have aS:=aen hL;have zF:Hid (∀j,j≤zs.length→∀W,aG W (some ⟨b,off,none⟩) zs MM→Calls prog 137 #[.slice (some ⟨b,off,none⟩) zs.length c,.int .i64 j] W fun e w'=>e=.returned (.bool (gZ zs j))∧Below W.heap.size W w'):=aen fun j hj W h=>Un zs (some ⟨b,off,none⟩) c j MM W h hj;have zD:Hid (∀j,j≤zs.length→∀W,aG W (some ⟨b,off,none⟩) zs MM→Calls prog 141 #[.slice (some ⟨b,off,none⟩) zs.length c,.int .i64 j] W fun e w'=>e=.returned (.bool (decide (j<zs.length)&&decide (kindOf zs j=0)))∧Below W.heap.size W w'):=aen fun j hj W h=>Um zs _ c j MM W h hj;have dZ:Hid (∀j W,Calls prog 140 #[.string (ln zs j)] W fun e w'=>e=.returned (.string (mk (trimS (bytesL (ln zs j)))))∧W=w'):=aen fun j W=>Jc (ln zs j) W (aev (dh hL.sz j) (by decide));have UB:Hid (∀W,aG W (some ⟨b,off,none⟩) zs MM→Calls prog 137 #[.slice (some ⟨b,off,none⟩) zs.length c,.int .i64 i] W fun e w'=>e=.returned (.bool false)∧Below W.heap.size W w'):=aen fun W h=>by
  have:=zF.out i (by omega) W h
  rwa [hh] at this
 have HZ0:=aen (ae.new w 46 fA);unfold fA at HZ0;have HB0:Hid (∀o,Below w.heap.size w (w.alloc o)):=aen fun o=>(aer _ w).alloc (aeo _) _;have xu:=aen (ac5 zs i hi);have Ic:=aen (ac4 zs i);have HJl:=aen fun k h1 h2=>ac6 zs i k h1 h2 hlen hL.sz;have vM:Hid (∀j,(mk (trimS (bytesL (ln zs j)))).size≤100000):=aen fun j=>by
  rw[mk_size];have h1:=pY (bytesL (ln zs j));rw[bytesL_length] at h1;exact aev h1 (dh hL.sz j)
 have bH:Hid (∀k,i+1≤k→k≤zs.length→(∀j,i+1≤j→j<k→oD zs j=false)→(k<zs.length→oD zs k=true)→ig zs i=k):=aen fun k h1 h2 h3 h4=>rC _ _ _ _ h1 h2 h3 h4;have hpb:=Su zs i hi;have fU:=aen fun s W=>MO s W;have yU:Hid (qE zs i=jV 1 (mk (joinL ⟨#[10]⟩ (dV zs i (ig zs i))))):=aen rfl;clear hL hcell hh;go_enter Tryz.func88,Tryz.ntmps88;go_wp2_with fail;with_reducible refine(UB.out _ (aS.out.below (HB0.out _))).mono ?_
 rintro e w1 ⟨rfl,b1⟩;have HZ1:=aen (show ZB w1 w.heap.size from ae.below HZ0.out b1 (by simp));have HB1:=aen ((HB0.out (.cells #[.int .i64 0,.int .i64 0,.string ⟨#[]⟩,.string ⟨#[]⟩,.string ⟨#[]⟩,.string ⟨#[]⟩,.string ⟨#[]⟩,.slice none 0 0,.slice none 0 0,.slice none 0 0,.slice none 0 0] 46)).trans (b1.mono (by simp)));have hc1:w1.cell? ⟨b,off+i,none⟩=some (.string (ln zs i)):=(HB1.out.cell (p:=⟨b,off+i,none⟩) hb).trans (bQ.out i hi);have HT0:=aen fun W=>dZ.out i W;clear UB b1 HZ0 HB0;go_wp2_with fail;with_reducible refine(HT0.out _).mono ?_
 rintro e w2 ⟨rfl,rfl⟩;rw[←xu.out];clear HT0 hc1;go_wp2_with fail;go_loopw [14,15] (fun v14 v15 wr=>Uy zs i w v14 v15 wr) (fun _ v15 _=>zs.length - (intOf v15).toNat);case atStart=>exact⟨i+1,by go_num,aeo _,by omega,rfl,HZ1.out,HB1.out,aen fun j h1 h2=>absurd h2 (by omega)⟩
 case round=>
  clear HZ1 HB1 xu;obtain⟨k,rfl,hk1,hk,rfl,hZ,hbw,Hno⟩:=hrel;have aU:=aen hZ;have aB:=aen hbw;have HT:=aen (bH.out k hk1 hk Hno.out);have hjl:=HJl.out k (by omega) hk;have kP:=aen (aS.out.below hbw);have wz:Hid (oD zs k=(!decide (kindOf zs k=0)||gZ zs k)):=aen rfl;by_cases hlt:k<zs.length∧kindOf zs k=0
  ·have HI1:Hid (∀W,aG W (some ⟨b,off,none⟩) zs MM→Calls prog 141 #[.slice (some ⟨b,off,none⟩) zs.length c,.int .i64 k] W fun e w'=>e=.returned (.bool true)∧Below W.heap.size W w'):=aen fun W h=>by
    have:=zD.out k hk W h
    rwa [aeq hlt.1,aeq hlt.2,Bool.true_and] at this
   have gW:=aen fun W h=>zF.out k hk W h;rw[aeq hlt.2] at wz;have hkl:=hlt.1;clear zF zD hlt;cases hhd:gZ zs k with
   |true=>
    rw[hhd] at gW wz;have HQ:=aen (HT.out fun _=>by rw[wz.out];rfl);clear HT wz hhd Ic dZ;go_wp2_with fail;with_reducible refine(HI1.out _ kP.out).mono ?_
    rintro e w3 ⟨rfl,b3⟩;have Nk:=aen (kP.out.below b3);have HB3:=aen (aB.out.trans (b3.mono aB.out.size));have HZ3:=aen (aU.out.below (w:=w) b3);clear b3;go_wp2_with fail;with_reducible refine(gW.out _ Nk.out).mono ?_
    rintro e w4 ⟨rfl,b4⟩;have HB4:=aen (HB3.out.trans (b4.mono HB3.out.size));have gI:=aen (HZ3.out.below (w:=w) b4);clear b4;have Nl:Hid (qE zs i=jV 1 (mk (joinL ⟨#[10]⟩ (dV zs i k)))):=aen (by rw[yU.out,HQ.out]);clear yU;generalize mk (joinL ⟨#[10]⟩ (dV zs i k))=X at *;go_wp2_with fail;with_reducible refine(fU.out _ _).mono ?_
    rintro e w5 ⟨v,rfl,hsrc,b5⟩;obtain⟨Av,nv,cv,rfl⟩:=pM hsrc;have jR:=aen (gI.out.below (w:=w) b5);have mX:=aen (HB4.out.trans (b5.mono HB4.out.size));have DK:=aen hsrc;have vz:=HB4.out.size;have adf:=ae.lt gI.out;obtain⟨k0,k1,k2,k3,k4,k5,k6,k7,k8,k9,k10,x0,x1,x2,x3,x4,x5,x6,x7,x8,x9,x10⟩:=ZB.facts jR.out;clear hsrc b5 fU;go_wp2_with fail;refine Hr (ax jR.out _ _ _ _ _ _ _ _ _ _ _) rfl rfl rfl rfl (oH (by rw[HQ.out]) ?_ (au mX.out (aeo _) _ _ _ _ _ _ _ _ _ _ _));rw[Nl.out];exact DJ (DI DK.out (aV _ _ _ _ _ _ _ _ _ _ _ _ _) (by omega) (by omega))
   |false=>
    rw[hhd] at gW wz;have gQ:Hid (∀j,i+1≤j→j<k+1→oD zs j=false):=aen fun j h1 h2=>by
     by_cases e:j=k
     ·rw[e,wz.out];rfl
     ·exact Hno.out j h1 (by omega)
    have hJ:=Ic.out k hk1 hkl;have UC:=aen hJ;have Az:=aen fun W=>dZ.out k W;have hTl:=vM.out k;clear hJ HT wz hhd Ic dZ Hno vM yU;go_wp2_with fail;with_reducible refine(HI1.out _ kP.out).mono ?_
    rintro e w3 ⟨rfl,b3⟩;have Nk:=aen (kP.out.below b3);have HB3:=aen (aB.out.trans (b3.mono aB.out.size));have HZ3:=aen (aU.out.below (w:=w) b3);clear b3;go_wp2_with fail;with_reducible refine(gW.out _ Nk.out).mono ?_
    rintro e w4 ⟨rfl,b4⟩;have HB4:=aen (HB3.out.trans (b4.mono HB3.out.size));have gI:=aen (HZ3.out.below (w:=w) b4);have hc4:w4.cell? ⟨b,off+k,none⟩=some (.string (ln zs k)):=(HB4.out.cell (p:=⟨b,off+k,none⟩) hb).trans (bQ.out k hkl);clear b4;have AM:Hid (∀W,ZB W w.heap.size→Below w.heap.size w W→Uy zs i w (.string (mk (joinL ⟨#[10]⟩ (dV zs i (k+1))))) (.int .i64 ((k:Int)+1)) W):=aen fun W h1 h2=>⟨k+1,by go_num,by omega,by omega,rfl,h1,h2,gQ⟩;rw[UC.out,List.append_assoc,List.singleton_append] at AM;clear UC gQ;generalize trimS (bytesL (ln zs k))=T at *;generalize joinL ⟨#[10]⟩ (dV zs i k)=acc at *;generalize ln zs k=zk at *;have aej:T.length≤100000:=by rwa [mk_size] at hTl
    have aar:∀w:World,(Op.stringOp .add (mk acc) ⟨#[10]⟩).run prog w=.ok (.string (mk (acc++[10]))) w:=fun w=>zJ w acc ⟨#[10]⟩ _ (by show _+1≤_;omega) rfl;have aas:∀w:World,(Op.stringOp .add (mk (acc++[10])) (mk T)).run prog w=.ok (.string (mk (acc++[10]++T))) w:=fun w=>zJ w _ (mk T) _ (by rw[aey];show _+1+_≤_;omega) (by rw[bytesL_mk']);go_wp2_with fail;with_reducible refine(Az.out _).mono ?_
    rintro e w5 ⟨rfl,rfl⟩;go_wp2_with fail;go_roundw;case rel=>exact AM.out _ gI.out HB4.out
    case measure=>simp[intOf];omega
  ·have HI1:Hid (∀W,aG W (some ⟨b,off,none⟩) zs MM→Calls prog 141 #[.slice (some ⟨b,off,none⟩) zs.length c,.int .i64 k] W fun e w'=>e=.returned (.bool false)∧Below W.heap.size W w'):=aen fun W h=>by
    have:=zD.out k hk W h;have e:(decide (k<zs.length)&&decide (kindOf zs k=0))=false:=by
     by_cases a:k<zs.length
     ·rw[aep (fun h=>hlt ⟨a,h⟩),Bool.and_false]
     ·rw[aep a,Bool.false_and]
    rwa [e] at this
   have HQ:=aen (HT.out fun h=>by rw[wz.out,aep (fun h0=>hlt ⟨h,h0⟩)];rfl);clear HT wz Ic dZ zF zD hlt;go_wp2_with fail;with_reducible refine(HI1.out _ kP.out).mono ?_
   rintro e w4 ⟨rfl,b4⟩;have HB4:=aen (aB.out.trans (b4.mono aB.out.size));have gI:=aen (aU.out.below (w:=w) b4);clear b4;have Nl:Hid (qE zs i=jV 1 (mk (joinL ⟨#[10]⟩ (dV zs i k)))):=aen (by rw[yU.out,HQ.out]);clear yU;generalize mk (joinL ⟨#[10]⟩ (dV zs i k))=X at *;go_wp2_with fail;with_reducible refine(fU.out _ _).mono ?_
   rintro e w5 ⟨v,rfl,hsrc,b5⟩;obtain⟨Av,nv,cv,rfl⟩:=pM hsrc;have jR:=aen (gI.out.below (w:=w) b5);have mX:=aen (HB4.out.trans (b5.mono HB4.out.size));have DK:=aen hsrc;have vz:=HB4.out.size;have adf:=ae.lt gI.out;obtain⟨k0,k1,k2,k3,k4,k5,k6,k7,k8,k9,k10,x0,x1,x2,x3,x4,x5,x6,x7,x8,x9,x10⟩:=ZB.facts jR.out;clear hsrc b5 fU;go_wp2_with fail;refine Hr (ax jR.out _ _ _ _ _ _ _ _ _ _ _) rfl rfl rfl rfl (oH (by rw[HQ.out]) ?_ (au mX.out (aeo _) _ _ _ _ _ _ _ _ _ _ _));rw[Nl.out];exact DJ (DI DK.out (aV _ _ _ _ _ _ _ _ _ _ _ _ _) (by omega) (by omega))
def UD(zs:List ByteArray)(i t n:Nat)(MK:Array Value)(w:World)(v10 v11:Value)(wr:World):Prop:=
 ∃k:Nat,v11=.int .i64 ((i+1+k:Nat):Int)∧i+1+k≤t∧wr.ownsRow (w.heap.size+2) 9 1 v10 k (strs (iP zs i t n k))∧DW w MK wr
theorem adg(zs:List ByteArray)(A:Option Addr)(c i B:Nat)(MM:Int)(m:ag)(A9:Option Addr)(c9:Nat)(af:Option Addr)(c10:Nat)(w:World)(hL:aG w A zs MM)(hi:i<zs.length)(hc:zs.length≤c)(hcm:c≤maxLen)(hB:B≤w.heap.size)(hoff:m.off=ah (ln zs i) 0) :
 Calls prog 83 #[.slice A zs.length c,.int .i64 i,.agg (m.cells (.slice A9 m.att.cl.length c9) (.slice af m.att.pr.length c10))] w
  (fun e w'=>(∃v,e=.returned (.tuple #[.agg v,.int .i64 ((min (bD zs m (i+1)+1) zs.length:Nat):Int)])∧dw w' (Rg B w') v (.mk 3 0 m.info (mk (fC ((bz zs (i+1) (bD zs m (i+1))).map fun z=>aT z m.off))) ⟨#[]⟩ ⟨#[]⟩ ak ⟨#[]⟩ []))∧Below w.heap.size w w'):=by
 have hlen:=hL.len;have hbd:=Dp zs m i hi;obtain⟨i0,hi0,hz0,hz1,hz2⟩:=info_parts ru;obtain⟨b,off,rfl,hb,hcell⟩:=hL.get (by omega);have bQ:=aen hcell;have aS:=aen hL;have HC:=aen fun W (h:aG W (some ⟨b,off,none⟩) zs MM)=>Ul zs (some ⟨b,off,none⟩) c (i+1) MM m A9 m.att.cl.length c9 af m.att.pr.length c10 W h (by omega) (by omega);rw[show ((i+1:Nat):Int)=(i:Int)+1 by omega] at HC;rw[hoff];have hil:ah (ln zs i) 0≤100000:=aev (kC _) (dh hL.sz i);have gK:Hid (∀W,Calls prog 26 #[.string (ln zs i)] W fun e w'=>e=.returned (.int .i64 (ah (ln zs i) 0))∧W=w'):=aen fun W=>BH (ln zs i) W (aev (dh hL.sz i) (by decide));have bH:Hid (∀j W,Calls prog 133 #[.string (ln zs j),.int .i64 (ah (ln zs i) 0:Nat)] W fun e w'=>e=.returned (.string (aT (ln zs j) (ah (ln zs i) 0)))∧W=w'):=aen fun j W=>Rq (ln zs j) (ah (ln zs i) 0) W (aev (dh hL.sz j) (by decide)) (by omega);generalize hon:ah (ln zs i) 0=on at *;clear hon;have HS:=aen (lY w (m.cells (.slice A9 m.att.cl.length c9) (.slice af m.att.pr.length c10)));obtain⟨t,ht⟩:∃t,t=bD zs m (i+1):=⟨_,rfl⟩;rw[←ht] at HC hbd ⊢;rw[←uo zs i t on hbd.1 hbd.2];have yP:=aen fun k=>Sl zs i t on k hbd.2;have HJ:=aen fun (A':Option Addr) (c':Nat) (W:World) (h:Reads W W.heap.size 1 A' (t - (i+1)) (strs (iP zs i t on (t - (i+1)))))=>Rt (iP zs i t on (t - (i+1))) A' c' W.heap.size W (by
  have hl:(iP zs i t on (t - (i+1))).length=t - (i+1):=by rw[uo zs i t on hbd.1 hbd.2,List.length_map,jE _ _ _ hbd.1 hbd.2]
  rw[hl];exact h) (by
  rw[uo zs i t on hbd.1 hbd.2,List.length_map,jE _ _ _ hbd.1 hbd.2];omega) (fun z hz=>by
  rw[uo zs i t on hbd.1 hbd.2] at hz;obtain⟨y,hy,rfl⟩:=List.mem_map.1 hz;exact aev (KY _ _) (hL.sz y (Gp hy)))
 have hsl:(iP zs i t on (t - (i+1))).length=t - (i+1):=by rw[uo zs i t on hbd.1 hbd.2,List.length_map,jE _ _ _ hbd.1 hbd.2]
 rw[hsl] at HJ;have mP:∀w:World,(Builtin.min_ #[3,3] 3 #[.int .i64 ((t:Int)+1),.int .i64 zs.length]).run prog w=.ok (.int .i64 ((min (t+1) zs.length:Nat):Int)) w:=fun w=>by
  rw[run_min_int2];congr 2;split <;> omega
 have dG:Hid (strs (iP zs i t on 0)=[]):=aen (by unfold iP strs;simp);clear hL hcell ht hsl hoff;unfold maxLen at hcm;unfold ag.cells fA at HS;unfold yM ag.cells at HC;unfold ag.cells;go_enter Tryz.func83,Tryz.ntmps83;have HB0:=aen HS.out.bel;obtain⟨p0,p1,p2,p3,p4,p5,p6,p7,p8,p9,p10,x0,x1,x2,x3,x4,x5,x6,x7,x8,x9,x10⟩:=az HS.out.aP;go_wp2_with fail;with_reducible refine(HC.out _ (aS.out.below HB0.out)).mono ?_
 rintro e w1 ⟨⟨vC,vP,rfl,ho⟩,b1⟩;obtain⟨A1,c1,rfl⟩:=ay ho.cls;obtain⟨A2,c2,rfl⟩:=ay ho.aH;have jU:=aen (HS.out.next b1);clear ho b1 HC p0 p1 p2 p3 p4 p5 p6 p7 p8 p9 p10 x0 x1 x2 x3 x4 x5 x6 x7 x8 x9 x10 HS HB0;go_upto_block 0 with fail
 go_cut [10] (fun s10 wx=>wx.ownsRow (w.heap.size+2) 9 1 s10 (t - (i+1)) (strs (iP zs i t on (t - (i+1))))∧DW w (m.cells (.slice A9 m.att.cl.length c9) (.slice af m.att.pr.length c10)) wx);case first=>
  go_wp2_with fail;go_loopw [10,11] (fun v10 v11 wr=>UD zs i t on (m.cells (.slice A9 m.att.cl.length c9) (.slice af m.att.pr.length c10)) w v10 v11 wr) (fun _ v11 _=>t - (intOf v11).toNat);case atStart=>
   refine⟨0,by first|rfl|go_num,by omega,?_,jU.out.next ((aer _ _).alloc (aeo _) _)⟩;rw[dG.out];exact World.ownsRow_nil _ _ _ _
  case round=>
   obtain⟨k,rfl,hk,hown,di⟩:=hrel;have HWr:=aen di;have hrz:=di.bel.size;have hlz:=di.res.lt;by_cases hlt:i+1+k<t
   ·have hc0:wr.cell? ⟨b,off+(i+1+k),none⟩=some (.string (ln zs (i+1+k))):=(di.bel.cell (p:=⟨b,off+(i+1+k),none⟩) hb).trans (bQ.out (i+1+k) (by omega));have hc1:wr.cell? ⟨b,off+i,none⟩=some (.string (ln zs i)):=(di.bel.cell (p:=⟨b,off+i,none⟩) hb).trans (bQ.out i (by omega));have Lj:=aen fun W=>bH.out (i+1+k) W;have HE:=aen (yP.out k hlt);have hjl:i+1+k<zs.length:=by omega
    have MQ:Hid (∀v10 wr,wr.ownsRow (w.heap.size+2) 9 1 v10 (k+1) (strs (iP zs i t on (k+1)))→DW w (m.cells (.slice A9 m.att.cl.length c9) (.slice af m.att.pr.length c10)) wr→UD zs i t on (m.cells (.slice A9 m.att.cl.length c9) (.slice af m.att.pr.length c10)) w v10 (.int .i64 (((i+1+k:Nat):Int)+1)) wr):=aen fun v10 wr h1 h2=>⟨k+1,by show Value.int _ _=Value.int _ _;first | rfl | (congr 1;omega),by omega,h1,h2⟩;have jk:=aen (bQ.out (i+1+k) hjl);have UE:=aen (bQ.out i (by omega));clear di bH;generalize aT (ln zs (i+1+k)) on=y at *;generalize ln zs (i+1+k)=z at *;generalize ln zs i=zi at *;have hk1:k+1≤i+1+k:=by omega
    generalize i+1+k=j at *;have bu:Hid (∀W,DW w (m.cells (.slice A9 m.att.cl.length c9) (.slice af m.att.pr.length c10)) W→(W.cell? ⟨b,off+j,none⟩=some (.string z)∧W.cell? ⟨b,off+i,none⟩=some (.string zi))):=aen fun W h=>⟨(h.bel.cell (p:=⟨b,off+j,none⟩) hb).trans jk.out,(h.bel.cell (p:=⟨b,off+i,none⟩) hb).trans UE.out⟩;clear jk UE;obtain⟨AO,cO,rfl⟩:=ay hown;go_wp2_with fail;refine wp_region_held_drew (S:=fun W'=>W'.cell? ⟨b,off+j,none⟩=some (.string z)∧W'.cell? ⟨b,off+i,none⟩=some (.string zi)) (by kernel_rfl) (bu.out _ (HWr.out.next (aer _ _).drew)) (fun hHeld=>?_);refine tk 0 (.slice AO k cO) rfl hHeld (fun W' hSw=>?_) ?_
    ·obtain⟨h0,h1⟩:=hSw;go_simp
    refine tk 1 (.slice (some ⟨b,off,none⟩) zs.length c) rfl hHeld (fun W' hSw=>?_) ?_
    ·obtain⟨h0,h1⟩:=hSw;go_simp
    refine tk 2 (.int .i64 j) rfl hHeld (fun W' hSw=>?_) ?_
    ·obtain⟨h0,h1⟩:=hSw;go_simp
    refine tk 3 (.pointer (some ⟨b,off+j,none⟩)) rfl hHeld (fun W' hSw=>?_) ?_
    ·obtain⟨h0,h1⟩:=hSw;go_simp
    refine tk 4 (.string z) rfl hHeld (fun W' hSw=>?_) ?_
    ·obtain⟨h0,h1⟩:=hSw;go_simp
    refine tk 5 (.slice (some ⟨b,off,none⟩) zs.length c) rfl hHeld (fun W' hSw=>?_) ?_
    ·obtain⟨h0,h1⟩:=hSw;go_simp
    refine tk 6 (.int .i64 i) rfl hHeld (fun W' hSw=>?_) ?_
    ·obtain⟨h0,h1⟩:=hSw;go_simp
    refine tk 7 (.pointer (some ⟨b,off+i,none⟩)) rfl hHeld (fun W' hSw=>?_) ?_
    ·obtain⟨h0,h1⟩:=hSw;go_simp
    refine tk 8 (.string zi) rfl hHeld (fun W' hSw=>?_) ?_
    ·obtain⟨h0,h1⟩:=hSw;go_simp
    refine aC 9 rfl (fun K hK=>?_);go_simp;with_reducible refine(gK.out _).mono ?_
    rintro e Bd ⟨rfl,hw0⟩;have oI:Below wr.heap.size wr Bd:=by rw[←hw0];exact(aer _ _).drew
    clear hw0;go_simp;refine hK.out _ _ (bu.out _ (HWr.out.next oI)) (fun hHeld=>?_);clear hK K;refine aC 10 rfl (fun K hK=>?_);go_simp;with_reducible refine(Lj.out _).mono ?_
    rintro e Ie ⟨rfl,hw1⟩;have uH:Below wr.heap.size wr Ie:=by rw[←hw1];exact oI
    clear hw1;go_simp;refine hK.out _ _ (bu.out _ (HWr.out.next uH)) (fun hHeld=>?_);clear hK K;have kQ:=uH.size;have zA:=own_below hown uH;refine aC 11 rfl (fun K hK=>?_);go_simp;refine hK.out _ _ (bu.out _ (HWr.out.next (uH.alloc uH.size _))) (fun hHeld=>?_);clear hK K;refine aC 12 rfl (fun K hK=>?_);refine step_append_lies _ rfl (.tmp 28) (.tmp 39) 22 rfl (w.heap.size+2) 9 i0 _ 1 16 Tryz.underlying22 hi0 hz0 hz1 hz2 rfl (by decide) _ _ _ rfl (zA.alloc _) ⟨Ie.heap.size,0,none⟩ 1 1 [.string y] rfl rfl ?c1 ?c2 (by decide) ?c3 ?c4 ?c5 (Ie.heap.size+1) ?c6 ?_;case c1=>exact World.news_of_block (t:=9) (fr:=(0,0)) (cs:=#[.string y]) (heap_alloc_new Ie _)
    case c2=>intro u hu;simp at hu;subst hu;rfl
    case c3=>unfold maxLen;omega
    case c4=>omega
    case c5=>simp;omega
    case c6=>simp
    intro g7 gm w2 hown3 hgrow hlies hlt3;have Be:=fun k hk=>(zA.lt k hk).1;have HW2:Hid (DW w (m.cells (.slice A9 m.att.cl.length c9) (.slice af m.att.pr.length c10)) w2):=aen ⟨(ae.alloc (HWr.out.next uH).aP _).grown hgrow (fun e=>by have:=Be _ e.symm;omega),ae.grown (ae.alloc (HWr.out.next uH).res _) hgrow (fun e=>by have:=Be _ e.symm;omega),((HWr.out.next uH).bel.alloc (HWr.out.next uH).bel.size _).grown hgrow (by simp;exact Nat.le_succ_of_le (HWr.out.next uH).bel.size) (fun k hk=>by have:=Be k hk;omega)⟩;refine hK.out _ _ (bu.out _ HW2.out) (fun hHeld=>?_);clear hK K;refine aC 13 rfl (fun K hK=>?_);go_simp;refine hK.out _ _ (hHeld) (fun _=>?_);clear hK K;refine wpAnyH_done (by kernel_rfl) ?_ _;clear hown hgrow zA;go_wp2_with fail;go_roundw;case rel=>exact MQ.out _ _ (by rw[HE.out];exact hown3) HW2.out
    case measure=>simp[intOf];omega
   ·have hkt:k=t - (i+1):=by omega
    have d0:decide (((i+1+k:Nat):Int)<(t:Int))=false:=aep (by omega);have HOW:=aen hown;clear hown di yP hlt;go_wp2_with fail;go_meet;rw[←hkt];exact⟨HOW.out,HWr.out⟩
 case rest=>
  obtain⟨hown,hW⟩:=hcut;have HW:=aen hW;have hrz:=hW.bel.size;have hlz:=hW.res.lt;obtain⟨A3,c3,rfl⟩:=ay hown;have xu:=aen fun W (h:Below wc.heap.size wc W)=>HJ.out A3 c3 W ((Reads.of_own hown).below h |>.more h.size);obtain⟨p0,p1,p2,p3,p4,p5,p6,p7,p8,p9,p10,x0,x1,x2,x3,x4,x5,x6,x7,x8,x9,x10⟩:=az hW.aP;clear hown hW HJ bH yP dG jU gK p0 p1 p2 p3 p5 p6 p7 p8 p9 p10 x0 x1 x2 x3 x4 x5 x6 x7 x8 x9 x10;obtain⟨J,hJ⟩:∃J,J=mk (fC (iP zs i t on (t - (i+1)))):=⟨_,rfl⟩;rw[←hJ] at xu;have HJe:=aen hJ;clear hJ;have bu:Hid (∀W,Below wc.heap.size wc W→(W.cell? ⟨w.heap.size,4,none⟩=some (.string m.info)∧Below wc.heap.size wc W)):=aen fun W h=>⟨(HW.out.aP.below h (by omega)).cell 4,h⟩;go_wp2_with fail;refine wp_region_held_drew (S:=fun W'=>W'.cell? ⟨w.heap.size,4,none⟩=some (.string m.info)∧Below wc.heap.size wc W') (by kernel_rfl) (bu.out _ (aer _ _).drew) (fun hHeld=>?_);refine tk 0 (.pointer (some ⟨w.heap.size,4,none⟩)) rfl hHeld (fun W' hSw=>?_) ?_
  ·obtain⟨h0,h1⟩:=hSw;go_simp
  refine tk 1 (.string m.info) rfl hHeld (fun W' hSw=>?_) ?_
  ·obtain⟨h0,h1⟩:=hSw;go_simp
  refine tk 2 (.slice A3 (t - (i+1)) c3) rfl hHeld (fun W' hSw=>?_) ?_
  ·obtain⟨h0,h1⟩:=hSw;go_simp
  refine wpAnyH_ready (rs:=[3,5]) (by kernel_rfl) (by simp) (AllReadyH.cons rfl (fun K hK=>?_) (AllReadyH.cons rfl (fun K hK=>?_) AllReadyH.nil))
  ·go_simp;with_reducible refine(xu.out _ hHeld.2).mono ?_
   rintro e w9 ⟨rfl,jc⟩;have b9:Below wc.heap.size wc w9:=by rw[←jc];exact(aer _ _).drew
   clear jc;go_simp;refine hK.out _ _ (bu.out _ b9) (fun hHeld=>?_);clear hK K;refine tk 4 (.agg #[.int .i64 3,.int .i64 0,.string m.info,.string J,.string ⟨#[]⟩,.string ⟨#[]⟩,.string ⟨#[]⟩,.slice none 0 0,.slice none 0 0,.slice none 0 0,.slice none 0 0]) rfl hHeld (fun W' hSw=>?_) ?_
   ·obtain⟨h0,h1⟩:=hSw;go_simp
   refine aC 5 rfl (fun K hK=>?_);go_simp;refine hK.out _ _ (bu.out _ (b9.alloc b9.size _)) (fun hHeld=>?_);clear hK K;generalize UF:World.alloc w9 _=Wk at hHeld ⊢;have gW:Hid (ae Wk w9.heap.size 46 #[.int .i64 0,.int .i64 0,.string ⟨#[]⟩,.string ⟨#[]⟩,.string ⟨#[]⟩,.string ⟨#[]⟩,.string ⟨#[]⟩,.slice none 0 0,.slice none 0 0,.slice none 0 0,.slice none 0 0]):=aen (by rw[←UF];exact ae.new w9 _ _);have hgk:=b9.size;clear UF;generalize w9.heap.size=gk at *;obtain⟨k0,k1,k2,k3,k4,k5,k6,k7,k8,k9,k10,y0,y1,y2,y3,y4,y5,y6,y7,y8,y9,aj⟩:=az gW.out;have hgl:=gW.out.lt;have rG:=aen hHeld.2;refine aC 6 rfl (fun K hK=>?_);go_simp;refine hK.out _ _ (bu.out _ (au rG.out hgk _ _ _ _ _ _ _ _ _ _ _)) (fun hHeld=>?_);clear hK K;refine wpAnyH_done (by kernel_rfl) ?_ _;generalize zG:World.setCell _ _ _=Wz;have Ey:Hid (ae Wz gk 46 #[.int .i64 3,.int .i64 0,.string m.info,.string J,.string ⟨#[]⟩,.string ⟨#[]⟩,.string ⟨#[]⟩,.slice none 0 0,.slice none 0 0,.slice none 0 0,.slice none 0 0]):=aen (by rw[←zG];exact ax gW.out _ _ _ _ _ _ _ _ _ _ _);have wB:Hid (DW w (m.cells (.slice A9 m.att.cl.length c9) (.slice af m.att.pr.length c10)) Wz):=aen (by rw[←zG];exact HW.out.next (au rG.out hgk _ _ _ _ _ _ _ _ _ _ _));clear zG gW rG k0 k1 k2 k3 k4 k5 k6 k7 k8 k9 k10 y0 y1 y2 y3 y4 y5 y6 y7 y8 y9 aj;have hgz:=Ey.out.lt;have hdz:=wB.out.res.lt;obtain⟨l0,l1,l2,l3,l4,l5,l6,l7,l8,l9,l10,j0,j1,j2,j3,j4,j5,j6,j7,j8,j9,j10⟩:=az Ey.out;obtain⟨k0,k1,k2,k3,k4,k5,k6,k7,k8,k9,k10,y0,y1,y2,y3,y4,y5,y6,y7,y8,y9,aj⟩:=ZB.facts wB.out.res;clear j0 j1 j2 j3 j4 j5 j6 j7 j8 j9 j10;go_wp2_with fail;exact Ub (ax wB.out.res _ _ _ _ _ _ _ _ _ _ _) rfl rfl rfl ⟨⟨_,rfl,by rw[←HJe.out];exact iq (kind:=3) (level:=0) (att:=ak) (aW.empty _ _ _ _) (jg _ _) (bP.none_ _ _)⟩,au wB.out.bel (Nat.le_succ _) _ _ _ _ _ _ _ _ _ _ _⟩
  ·go_simp;refine hK.out _ _ (bu.out _ ((aer _ _).drew.alloc (aeo _) _)) (fun hHeld=>?_);clear hK K;refine aC 3 rfl (fun K hK=>?_);go_simp;with_reducible refine(xu.out _ hHeld.2).mono ?_
   rintro e w9 ⟨rfl,jc⟩;have b9:Below wc.heap.size wc w9:=by rw[←jc];exact hHeld.2
   go_simp;refine hK.out _ _ (bu.out _ b9) (fun hHeld=>?_);clear hK K;refine tk 4 (.agg #[.int .i64 3,.int .i64 0,.string m.info,.string J,.string ⟨#[]⟩,.string ⟨#[]⟩,.string ⟨#[]⟩,.slice none 0 0,.slice none 0 0,.slice none 0 0,.slice none 0 0]) rfl hHeld (fun W' hSw=>?_) ?_
   ·obtain⟨h0,h1⟩:=hSw;go_simp
   have gW:Hid (ae w9 wc.heap.size 46 #[.int .i64 0,.int .i64 0,.string ⟨#[]⟩,.string ⟨#[]⟩,.string ⟨#[]⟩,.string ⟨#[]⟩,.string ⟨#[]⟩,.slice none 0 0,.slice none 0 0,.slice none 0 0,.slice none 0 0]):=aen (by rw[←jc];exact ae.new wc.drew _ _);have hgk:=aeo wc.heap.size;clear jc;obtain⟨k0,k1,k2,k3,k4,k5,k6,k7,k8,k9,k10,y0,y1,y2,y3,y4,y5,y6,y7,y8,y9,aj⟩:=az gW.out;have hgl:=gW.out.lt;have rG:=aen hHeld.2;refine aC 6 rfl (fun K hK=>?_);go_simp;refine hK.out _ _ (bu.out _ (au rG.out hgk _ _ _ _ _ _ _ _ _ _ _)) (fun hHeld=>?_);clear hK K;refine wpAnyH_done (by kernel_rfl) ?_ _;generalize zG:World.setCell _ _ _=Wz;have Ey:Hid (ae Wz wc.heap.size 46 #[.int .i64 3,.int .i64 0,.string m.info,.string J,.string ⟨#[]⟩,.string ⟨#[]⟩,.string ⟨#[]⟩,.slice none 0 0,.slice none 0 0,.slice none 0 0,.slice none 0 0]):=aen (by rw[←zG];exact ax gW.out _ _ _ _ _ _ _ _ _ _ _);have wB:Hid (DW w (m.cells (.slice A9 m.att.cl.length c9) (.slice af m.att.pr.length c10)) Wz):=aen (by rw[←zG];exact HW.out.next (au rG.out hgk _ _ _ _ _ _ _ _ _ _ _));clear zG gW rG k0 k1 k2 k3 k4 k5 k6 k7 k8 k9 k10 y0 y1 y2 y3 y4 y5 y6 y7 y8 y9 aj;have hgz:=Ey.out.lt;have hdz:=wB.out.res.lt;obtain⟨l0,l1,l2,l3,l4,l5,l6,l7,l8,l9,l10,j0,j1,j2,j3,j4,j5,j6,j7,j8,j9,j10⟩:=az Ey.out;obtain⟨k0,k1,k2,k3,k4,k5,k6,k7,k8,k9,k10,y0,y1,y2,y3,y4,y5,y6,y7,y8,y9,aj⟩:=ZB.facts wB.out.res;clear j0 j1 j2 j3 j4 j5 j6 j7 j8 j9 j10;go_wp2_with fail;exact Ub (ax wB.out.res _ _ _ _ _ _ _ _ _ _ _) rfl rfl rfl ⟨⟨_,rfl,by rw[←HJe.out];exact iq (kind:=3) (level:=0) (att:=ak) (aW.empty _ _ _ _) (jg _ _) (bP.none_ _ _)⟩,au wB.out.bel (Nat.le_succ _) _ _ _ _ _ _ _ _ _ _ _⟩
theorem aW.off{w w':World}{B B' g:Nat}{a:AttrL}{A1 A2:Option Addr}(h:aW w (Rg B w) a A1 A2)(hg:w.grownBy w' (some g))(hlt:g<B)(hB:B'≤B):aW w' (Rg B' w') a A1 A2:=
 h.keep (fun x hx=>hg.block x hx.2 fun e=>by injection e with e;have:=hx.1;omega) fun x hx=>⟨by have:=hx.1;omega,aeA hx.2 hg.size⟩
structure OW(w:World)(gM:Nat)(MK:Array Value)(W:World):Prop where
 aP:ae W gM 74 MK
 res:ZB W w.heap.size
 bel:Below w.heap.size w W
 lt:w.heap.size<gM
theorem OW.next{w W W':World}{gM:Nat}{MK:Array Value}(h:OW w gM MK W)(hb:Below W.heap.size W W'):OW w gM MK W':=
 ⟨h.aP.below hb h.aP.lt,h.res.below (w:=w) hb,h.bel.trans (hb.mono h.bel.size),h.lt⟩
theorem adh{w W1 w1:World}(hz:ZB W1 w.heap.size)(hb:Below w.heap.size w W1)(b1:Below W1.heap.size W1 w1)(MK:Array Value):OW w w1.heap.size MK (w1.alloc (.cells MK 74)):=
 ⟨ae.new w1 _ _,ae.alloc (hz.below (w:=w) b1) _,(hb.trans (b1.mono hb.size)).alloc (hb.trans (b1.mono hb.size)).size _,(hz.below (w:=w) b1).lt⟩
theorem UG(jv ng:List ByteArray→Option (List BkT))(d:Nat)(hd:d≤15)(zs:List ByteArray)(A:Option Addr)(c i B:Nat)(MM:Int)(w:World)(h1:Bc jv (d+1) MM)(h2:Bc ng (d+2) MM)(hL:aG w A zs MM)(hi:i<zs.length)(hb:aF (ln zs i)=false)(hc:zs.length≤c)(hcm:c≤maxLen)(hB:B≤w.heap.size) :
 Calls prog 40 #[.slice A zs.length c,.int .i64 i,.int .i64 d] w
  (uG B (iM jv ng (decide (d+1≤15)) (decide (d+2≤15)) zs i (ai (ln zs i))) w):=by
 have hmk:=(KE (ln zs i)).2 hb;have hlen:=hL.len;have hls:=dh hL.sz i;have aS:=aen hL;obtain⟨b,off,rfl,hbw,hcell⟩:=hL.get (by omega);have HM:Hid (∀W,Calls prog 80 #[.string (ln zs i)] W fun e w'=>∃A c D d,e=.returned (.agg ((ai (ln zs i)).cells (.slice A (ai (ln zs i)).att.cl.length c) (.slice D (ai (ln zs i)).att.pr.length d)))∧aW w' (Rg W.heap.size w') (ai (ln zs i)).att A D∧Below W.heap.size W w'):=aen fun W=>(Hg (ln zs i) W (aev hls (by decide))).mono fun e w' h=>by
  obtain⟨⟨_,rfl,C,P,rfl,o⟩,b⟩:=h;obtain⟨A1,c1,A2,c2,rfl,rfl,h⟩:=aW.of_own o;exact⟨A1,c1,A2,c2,rfl,h,b⟩
 have HB0:Hid (∀o,Below w.heap.size w (w.alloc o)):=aen fun o=>(aer _ w).alloc (aeo _) _;have HZ0:Hid (ZB (w.alloc (.cells #[.int .i64 0,.int .i64 0,.string ⟨#[]⟩,.string ⟨#[]⟩,.string ⟨#[]⟩,.string ⟨#[]⟩,.string ⟨#[]⟩,.slice none 0 0,.slice none 0 0,.slice none 0 0,.slice none 0 0] 46)) w.heap.size):=aen (ae.new w _ _);have hc0:=((HB0.out (.cells #[.int .i64 0,.int .i64 0,.string ⟨#[]⟩,.string ⟨#[]⟩,.string ⟨#[]⟩,.string ⟨#[]⟩,.string ⟨#[]⟩,.slice none 0 0,.slice none 0 0,.slice none 0 0,.slice none 0 0] 46)).cell (p:=⟨b,off+i,none⟩) hbw).trans (hcell i hi);obtain⟨PR,aO⟩:∃PR,PR=iM jv ng (decide (d+1≤15)) (decide (d+2≤15)) zs i (ai (ln zs i)):=⟨_,rfl⟩;rw[←aO];have bU:=aen aO;have HQ:=aen fun (W:World) (h:aG W (some ⟨b,off,none⟩) zs MM)=>acK jv d hd zs (some ⟨b,off,none⟩) c i W.heap.size MM W h1 h hi (aeo _);have HX:Hid (∀(W:World),aG W (some ⟨b,off,none⟩) zs MM→Calls prog 88 #[.slice (some ⟨b,off,none⟩) zs.length c,.int .i64 i,.int .i64 d] W (uG W.heap.size (if gZ zs i=true then (if decide (d+2≤15)=true then some (ou zs i ((gJ (bytesL (ln zs (i+1)))).getD []),eu zs i) else none) else some (qE zs i,ig zs i)) W)):=aen fun W h=>by
  by_cases hh:gZ zs i=true
  ·rw[if_pos hh];exact ac8 d hd zs (some ⟨b,off,none⟩) c i W.heap.size MM W h hi (aeo _) hh
  ·rw[if_neg hh];exact adb d hd zs (some ⟨b,off,none⟩) c i W.heap.size MM W h hi (aeo _) (by simpa using hh)
 have HI:=aen fun (rD:(ai (ln zs i)).kind=5∨(ai (ln zs i)).kind=6) (W:World) (h:aG W (some ⟨b,off,none⟩) zs MM) (A9:Option Addr) (n9 c9:Nat) (af:Option Addr) (n10 c10:Nat)=>acN ng d hd zs (some ⟨b,off,none⟩) c i W.heap.size MM (ai (ln zs i)) A9 n9 c9 af n10 c10 W h2 h hi hc hcm (aeo _) (Gv (ln zs i) hls rD) rD;have pU:=aen fun (h7:(ai (ln zs i)).kind=7) W (h:aG W (some ⟨b,off,none⟩) zs MM) A9 c9 af c10=>adg zs (some ⟨b,off,none⟩) c i W.heap.size MM (ai (ln zs i)) A9 c9 af c10 W h hi hc hcm (aeo _) (aam (ln zs i) h7);have hbd:=Dp zs (ai (ln zs i)) i hi;have HC:=aen fun W (h:aG W (some ⟨b,off,none⟩) zs MM) (A9:Option Addr) (n9 c9:Nat) (af:Option Addr) (n10 c10:Nat)=>Ul zs (some ⟨b,off,none⟩) c (i+1) MM (ai (ln zs i)) A9 n9 c9 af n10 c10 W h (by omega) (by omega);rw[show ((i+1:Nat):Int)=(i:Int)+1 by omega] at HC;have hcl:=jE zs (i+1) (bD zs (ai (ln zs i)) (i+1)) hbd.1 hbd.2;have nR:=aen fun (W:World) (A':Option Addr) (c':Nat) (h1':aG W (some ⟨b,off,none⟩) zs MM) (h2':A'=some ⟨b,off+(i+1),none⟩∨bD zs (ai (ln zs i)) (i+1)=i+1) (h3:bD zs (ai (ln zs i)) (i+1) - (i+1)≤c') (h4:c'≤maxLen)=>h1 (bz zs (i+1) (bD zs (ai (ln zs i)) (i+1))) A' c' W (h1'.xn (i+1) _ hbd.1 hbd.2 A' h2') (by omega) h4;have HJ:=aen fun (W:World) (h:aG W (some ⟨b,off,none⟩) zs MM) (A':Option Addr) (c':Nat) (hA:A'=some ⟨b,off+(i+1),none⟩∨bD zs (ai (ln zs i)) (i+1)=i+1)=>Rt (bz zs (i+1) (bD zs (ai (ln zs i)) (i+1))) A' c' W.heap.size W (h.xn (i+1) _ hbd.1 hbd.2 A' hA).rd (h.xn (i+1) _ hbd.1 hbd.2 A' hA).len (h.xn (i+1) _ hbd.1 hbd.2 A' hA).sz;rw[hcl] at nR HJ;have jh:=aen fun (h10:(ai (ln zs i)).kind=10) W (h:aG W (some ⟨b,off,none⟩) zs MM) (A9:Option Addr) (n9 c9:Nat) (af:Option Addr) (n10 c10:Nat)=>Uf zs (some ⟨b,off,none⟩) c i MM (ai (ln zs i)) A9 n9 c9 af n10 c10 W h hi hc hcm (aev (Dj (ln zs i)).2 (by omega)) (aev (Gg (ln zs i) (by omega)).1 hls);have gU:=aen h1;have fU:=aen fun W=>MO (ai (ln zs i)).rest W;have kN:=aen (show (d:Int)+1=((d+1:Nat):Int) by omega);clear hL aO hcell h1 h2 hls hb hcl;generalize hm:ai (ln zs i)=m at *;have HMe:=aen hm;clear hm;generalize ln zs i=zi at *;obtain⟨a,ha⟩:∃a,a=qC zs m (i+1):=⟨_,rfl⟩;rw[←ha] at HC;have HMa:Hid (qC zs m (i+1)=a):=aen ha.symm;clear ha;have HT:Hid (∀t,t=bD zs m (i+1)→∀w:World,(Builtin.min_ #[3,3] 3 #[.int .i64 ((t:Int)+1),.int .i64 zs.length]).run prog w=.ok (.int .i64 ((min (t+1) zs.length:Nat):Int)) w):=aen fun t ht w=>by
  rw[run_min_int2];congr 2;split <;> omega
 obtain⟨t,ht⟩:∃t,t=bD zs m (i+1):=⟨_,rfl⟩;have mP:=HT.out t ht;rw[←ht] at HC nR HJ hbd;have UH:=aen ht;clear HT ht;unfold maxLen at hcm;unfold yM ag.cells at HC;unfold yH ag.cells at jh;unfold ag.cells at pU HI HM;go_enter Tryz.func40,Tryz.ntmps40;go_wp2_with fail;with_reducible refine(HM.out _).mono ?_
 rintro e w1 ⟨A9,c9,af,c10,rfl,hat,b1⟩;have HD:Hid (OW w w1.heap.size #[.int .i64 m.kind,.int .i64 m.n,.string m.ch,.int .i64 m.off,.string m.info,.string m.rest,.string m.dest,.string m.title,.string m.att.id,.slice A9 m.att.cl.length c9,.slice af m.att.pr.length c10] (w1.alloc (.cells #[.int .i64 m.kind,.int .i64 m.n,.string m.ch,.int .i64 m.off,.string m.info,.string m.rest,.string m.dest,.string m.title,.string m.att.id,.slice A9 m.att.cl.length c9,.slice af m.att.pr.length c10] 74))):=aen (adh HZ0.out (HB0.out _) b1 _);have HA:Hid (aW (w1.alloc (.cells #[.int .i64 m.kind,.int .i64 m.n,.string m.ch,.int .i64 m.off,.string m.info,.string m.rest,.string m.dest,.string m.title,.string m.att.id,.slice A9 m.att.cl.length c9,.slice af m.att.pr.length c10] 74)) (Rg (w.heap.size+1) (w1.alloc (.cells #[.int .i64 m.kind,.int .i64 m.n,.string m.ch,.int .i64 m.off,.string m.info,.string m.rest,.string m.dest,.string m.title,.string m.att.id,.slice A9 m.att.cl.length c9,.slice af m.att.pr.length c10] 74))) m.att A9 af):=aen (by
  have h:=hat.below ((aer _ w1).alloc (aeo _) (.cells #[.int .i64 m.kind,.int .i64 m.n,.string m.ch,.int .i64 m.off,.string m.info,.string m.rest,.string m.dest,.string m.title,.string m.att.id,.slice A9 m.att.cl.length c9,.slice af m.att.pr.length c10] 74));rw[sZ] at h;exact h)
 clear hat b1 HM HB0 HZ0 hc0;go_upto_region 2 with fail
 generalize hgM:w1.heap.size=gM at *;generalize hW:w1.alloc _=W0 at *;clear hW hgM;have eU:=aen (aS.out.below HD.out.bel);have hw0:=HD.out.bel.size;have hwM:=HD.out.lt;have hw1:=HD.out.res.lt;obtain⟨p0,p1,p2,p3,p4,p5,p6,p7,p8,p9,p10,x0,x1,x2,x3,x4,x5,x6,x7,x8,x9,x10⟩:=az HD.out.aP;clear x0 x1 x2 x3 x4 x5 x6 x7 x8 x9 x10;by_cases e2:m.kind=2
 ·have z2:=kT (show (m.kind:Int)=2 by omega);have HP:Hid (PR=some (BkT.mk 2 m.n ⟨#[]⟩ ⟨#[]⟩ ⟨#[]⟩ ⟨#[]⟩ m.att m.rest [],i+1)):=aen (by rw[bU.out];unfold iM;rw[if_pos e2]);have HK:=aen e2;clear e2;clear HQ HX HI pU HC nR gU jh mP HJ;have bu:Hid (∀W,Below W0.heap.size W0 W→(W.cell? ⟨gM,1,none⟩=some (.int .i64 m.n)∧W.cell? ⟨gM,5,none⟩=some (.string m.rest)∧W.cell? ⟨gM,8,none⟩=some (.string m.att.id)∧W.cell? ⟨gM,9,none⟩=some (.slice A9 m.att.cl.length c9)∧W.cell? ⟨gM,10,none⟩=some (.slice af m.att.pr.length c10)∧w.heap.size<W.heap.size)):=aen fun W h=>by
   obtain⟨p0,p1,p2,p3,p4,p5,p6,p7,p8,p9,p10,x0⟩:=az (HD.out.aP.below h HD.out.aP.lt);exact⟨p1,p5,p8,p9,p10,aeA hw1 h.size⟩
  have uq:Hid (∀W z0 z1 z2 z3 z4 z5 z6 z7 z8 z9 z10,Below W0.heap.size W0 W→((((((((((((W.setCell ⟨w.heap.size,0,none⟩ z0).setCell ⟨w.heap.size,1,none⟩ z1).setCell ⟨w.heap.size,2,none⟩ z2).setCell ⟨w.heap.size,3,none⟩ z3).setCell ⟨w.heap.size,4,none⟩ z4).setCell ⟨w.heap.size,5,none⟩ z5).setCell ⟨w.heap.size,6,none⟩ z6).setCell ⟨w.heap.size,7,none⟩ z7).setCell ⟨w.heap.size,8,none⟩ z8).setCell ⟨w.heap.size,9,none⟩ z9).setCell ⟨w.heap.size,10,none⟩ z10).cell? ⟨gM,1,none⟩=some (.int .i64 m.n)∧(((((((((((W.setCell ⟨w.heap.size,0,none⟩ z0).setCell ⟨w.heap.size,1,none⟩ z1).setCell ⟨w.heap.size,2,none⟩ z2).setCell ⟨w.heap.size,3,none⟩ z3).setCell ⟨w.heap.size,4,none⟩ z4).setCell ⟨w.heap.size,5,none⟩ z5).setCell ⟨w.heap.size,6,none⟩ z6).setCell ⟨w.heap.size,7,none⟩ z7).setCell ⟨w.heap.size,8,none⟩ z8).setCell ⟨w.heap.size,9,none⟩ z9).setCell ⟨w.heap.size,10,none⟩ z10).cell? ⟨gM,5,none⟩=some (.string m.rest)∧(((((((((((W.setCell ⟨w.heap.size,0,none⟩ z0).setCell ⟨w.heap.size,1,none⟩ z1).setCell ⟨w.heap.size,2,none⟩ z2).setCell ⟨w.heap.size,3,none⟩ z3).setCell ⟨w.heap.size,4,none⟩ z4).setCell ⟨w.heap.size,5,none⟩ z5).setCell ⟨w.heap.size,6,none⟩ z6).setCell ⟨w.heap.size,7,none⟩ z7).setCell ⟨w.heap.size,8,none⟩ z8).setCell ⟨w.heap.size,9,none⟩ z9).setCell ⟨w.heap.size,10,none⟩ z10).cell? ⟨gM,8,none⟩=some (.string m.att.id)∧(((((((((((W.setCell ⟨w.heap.size,0,none⟩ z0).setCell ⟨w.heap.size,1,none⟩ z1).setCell ⟨w.heap.size,2,none⟩ z2).setCell ⟨w.heap.size,3,none⟩ z3).setCell ⟨w.heap.size,4,none⟩ z4).setCell ⟨w.heap.size,5,none⟩ z5).setCell ⟨w.heap.size,6,none⟩ z6).setCell ⟨w.heap.size,7,none⟩ z7).setCell ⟨w.heap.size,8,none⟩ z8).setCell ⟨w.heap.size,9,none⟩ z9).setCell ⟨w.heap.size,10,none⟩ z10).cell? ⟨gM,9,none⟩=some (.slice A9 m.att.cl.length c9)∧(((((((((((W.setCell ⟨w.heap.size,0,none⟩ z0).setCell ⟨w.heap.size,1,none⟩ z1).setCell ⟨w.heap.size,2,none⟩ z2).setCell ⟨w.heap.size,3,none⟩ z3).setCell ⟨w.heap.size,4,none⟩ z4).setCell ⟨w.heap.size,5,none⟩ z5).setCell ⟨w.heap.size,6,none⟩ z6).setCell ⟨w.heap.size,7,none⟩ z7).setCell ⟨w.heap.size,8,none⟩ z8).setCell ⟨w.heap.size,9,none⟩ z9).setCell ⟨w.heap.size,10,none⟩ z10).cell? ⟨gM,10,none⟩=some (.slice af m.att.pr.length c10)∧w.heap.size<(((((((((((W.setCell ⟨w.heap.size,0,none⟩ z0).setCell ⟨w.heap.size,1,none⟩ z1).setCell ⟨w.heap.size,2,none⟩ z2).setCell ⟨w.heap.size,3,none⟩ z3).setCell ⟨w.heap.size,4,none⟩ z4).setCell ⟨w.heap.size,5,none⟩ z5).setCell ⟨w.heap.size,6,none⟩ z6).setCell ⟨w.heap.size,7,none⟩ z7).setCell ⟨w.heap.size,8,none⟩ z8).setCell ⟨w.heap.size,9,none⟩ z9).setCell ⟨w.heap.size,10,none⟩ z10).heap.size)):=aen fun W z0 z1 z2 z3 z4 z5 z6 z7 z8 z9 z10 h=>by
   obtain⟨p0,p1,p2,p3,p4,p5,p6,p7,p8,p9,p10,x0⟩:=az (ae.grown (HD.out.aP.below h HD.out.aP.lt) (aV W w.heap.size z0 z1 z2 z3 z4 z5 z6 z7 z8 z9 z10) (fun e=>by injection e with e;omega));exact⟨p1,p5,p8,p9,p10,aeA (aeA hw1 h.size) (aV W w.heap.size z0 z1 z2 z3 z4 z5 z6 z7 z8 z9 z10).size⟩
  have aB:Hid (Below W0.heap.size W0 W0):=aen (aer _ _);have hw2:IntKind.i64.wrap ((i:Int)+1)=(i:Int)+1:=IntWalk.i64_in _ (by omega);clear p1 p2 p3 p4 p5 p6 p7 p8 p9 p10;have s0:=bu.out _ aB.out;obtain⟨p1,p5,p8,p9,p10,_⟩:=s0;go_wp2_with fail;refine wp_region_held_drew (S:=fun W'=>W'.cell? ⟨gM,1,none⟩=some (.int .i64 m.n)∧W'.cell? ⟨gM,5,none⟩=some (.string m.rest)∧W'.cell? ⟨gM,8,none⟩=some (.string m.att.id)∧W'.cell? ⟨gM,9,none⟩=some (.slice A9 m.att.cl.length c9)∧W'.cell? ⟨gM,10,none⟩=some (.slice af m.att.pr.length c10)∧w.heap.size<W'.heap.size) (by kernel_rfl) (bu.out _ aB.out.drew) (fun hHeld=>?_);refine tk 0 (.pointer (some ⟨gM,1,none⟩)) rfl hHeld (fun W' hSw=>?_) ?_
  ·obtain⟨h0,h1,h2,h3,h4,h5⟩:=hSw;go_simp
  refine tk 1 (.int .i64 m.n) rfl hHeld (fun W' hSw=>?_) ?_
  ·obtain⟨h0,h1,h2,h3,h4,h5⟩:=hSw;go_simp
  refine tk 2 (.pointer (some ⟨gM,5,none⟩)) rfl hHeld (fun W' hSw=>?_) ?_
  ·obtain⟨h0,h1,h2,h3,h4,h5⟩:=hSw;go_simp
  refine tk 3 (.string m.rest) rfl hHeld (fun W' hSw=>?_) ?_
  ·obtain⟨h0,h1,h2,h3,h4,h5⟩:=hSw;go_simp
  refine tk 5 (.pointer (some ⟨gM,8,none⟩)) rfl hHeld (fun W' hSw=>?_) ?_
  ·obtain⟨h0,h1,h2,h3,h4,h5⟩:=hSw;go_simp
  refine tk 6 (.agg #[.string m.att.id,.slice A9 m.att.cl.length c9,.slice af m.att.pr.length c10]) rfl hHeld (fun W' hSw=>?_) ?_
  ·obtain⟨h0,h1,h2,h3,h4,h5⟩:=hSw;go_simp
  refine tk 8 (.int .i64 i) rfl hHeld (fun W' hSw=>?_) ?_
  ·obtain⟨h0,h1,h2,h3,h4,h5⟩:=hSw;go_simp
  refine tk 9 (.int .i64 ((i:Int)+1)) rfl hHeld (fun W' hSw=>?_) ?_
  ·obtain⟨h0,h1,h2,h3,h4,h5⟩:=hSw;go_simp
  refine aC 4 rfl (fun K hK=>?_);go_simp;with_reducible refine(fU.out _).mono ?_
  rintro e w9 ⟨v,rfl,hsrc,b8⟩;have b9:Below W0.heap.size W0 w9:=aB.out.drew.trans b8;obtain⟨Av,nv,cv,rfl⟩:=pM hsrc;have eF:=aen (HD.out.next b9);have HA9:=aen (HA.out.below b9);have kQ:w.heap.size<w9.heap.size:=eF.out.res.lt;obtain⟨q0,q1,q2,q3,q4,q5,q6,q7,q8,q9,q10,r0,r1,r2,r3,r4,r5,r6,r7,r8,r9,r10⟩:=ZB.facts eF.out.res;go_simp;refine hK.out _ _ (bu.out _ b9) (fun hHeld=>?_);clear hK K;refine aC 7 rfl (fun K hK=>?_);go_simp;refine hK.out _ _ (hHeld) (fun hHeld=>?_);clear hK K;refine aC 10 rfl (fun K hK=>?_);go_simp;refine hK.out _ _ (uq.out _ _ _ _ _ _ _ _ _ _ _ _ b9) (fun hHeld=>?_);clear hK K;refine aC 11 rfl (fun K hK=>?_);go_simp;refine hK.out _ _ (hHeld) (fun hHeld=>?_);clear hK K;refine aC 12 rfl (fun K hK=>?_);go_simp;refine hK.out _ _ (hHeld) (fun hHeld=>?_);clear hK K;refine wpAnyH_done (by kernel_rfl) ?_ _;go_wp2_with fail;rw[HP.out];exact qM (ax eF.out.res _ _ _ _ _ _ _ _ _ _ _) rfl rfl rfl rfl (oH rfl (iq (att:=m.att) (HA9.out.off (aV _ _ _ _ _ _ _ _ _ _ _ _ _) (Nat.lt_succ_self _) (by omega)) (DI (B:=W0.heap.size) hsrc (aV _ _ _ _ _ _ _ _ _ _ _ _ _) hw1 (by omega)) (bP.none_ _ _)) (au eF.out.bel (aeo _) _ _ _ _ _ _ _ _ _ _ _))
 by_cases e3:m.kind=3
 ·have z2:=kF (show (m.kind:Int)≠2 by omega);have z3:=kT (show (m.kind:Int)=3 by omega);have HP:Hid (PR=some (fe 5 [],i+1)):=aen (by rw[bU.out];unfold iM;rw[if_neg (show ¬m.kind=2 by omega),if_pos e3]);have HK:=aen e3;clear e3;obtain⟨k0,k1,k2,k3,k4,k5,k6,k7,k8,k9,k10,y0,y1,y2,y3,y4,y5,y6,y7,y8,y9,aj⟩:=ZB.facts HD.out.res;clear HQ HX HI pU HC nR gU jh mP fU HJ;go_wp2_with fail;rw[HP.out];exact qM (ax HD.out.res _ _ _ _ _ _ _ _ _ _ _) rfl rfl rfl rfl (oH rfl (iq (kind:=5) (level:=0) (att:=ak) (aW.empty _ _ _ _) (jg _ _) (bP.none_ _ _)) (au HD.out.bel (aeo _) _ _ _ _ _ _ _ _ _ _ _))
 by_cases e11:m.kind=11
 ·have z2:=kF (show (m.kind:Int)≠2 by omega);have z3:=kF (show (m.kind:Int)≠3 by omega);have z11:=kT (show (m.kind:Int)=11 by omega);have HP:Hid (PR=some (BkT.mk 15 0 m.info ⟨#[]⟩ m.dest m.title ak ⟨#[]⟩ [],i+1)):=aen (by rw[bU.out];unfold iM;rw[if_neg (show ¬m.kind=2 by omega),if_neg (show ¬m.kind=3 by omega),if_pos e11]);have HK:=aen e11;clear e11;obtain⟨k0,k1,k2,k3,k4,k5,k6,k7,k8,k9,k10,y0,y1,y2,y3,y4,y5,y6,y7,y8,y9,aj⟩:=ZB.facts HD.out.res;clear HQ HX HI pU HC nR gU jh mP fU HJ;go_wp2_with fail;rw[HP.out];exact qM (ax HD.out.res _ _ _ _ _ _ _ _ _ _ _) rfl rfl rfl rfl (oH rfl (iq (kind:=15) (level:=0) (att:=ak) (aW.empty _ _ _ _) (jg _ _) (bP.none_ _ _)) (au HD.out.bel (aeo _) _ _ _ _ _ _ _ _ _ _ _))
 by_cases e7:m.kind=7
 ·have z2:=kF (show (m.kind:Int)≠2 by omega);have z3:=kF (show (m.kind:Int)≠3 by omega);have z11:=kF (show (m.kind:Int)≠11 by omega);have z4:=kF (show (m.kind:Int)≠4 by omega);have z7:=kT (show (m.kind:Int)=7 by omega);have HP:Hid (PR=some ((BkT.mk 3 0 m.info (mk (fC ((bz zs (i+1) (bD zs m (i+1))).map fun z=>aT z m.off))) ⟨#[]⟩ ⟨#[]⟩ ak ⟨#[]⟩ []),min (bD zs m (i+1)+1) zs.length)):=aen (by rw[bU.out];unfold iM;rw[if_neg (show ¬m.kind=2 by omega),if_neg (show ¬m.kind=3 by omega),if_neg (show ¬m.kind=11 by omega),if_neg (show ¬m.kind=4 by omega),if_pos e7]);have HK:=aen e7;clear e7;have UI:=aen fun W h=>pU.out HK.out W h;clear HQ HX HI pU HC nR gU jh mP fU HJ;go_wp2_with fail;with_reducible refine(UI.out _ eU.out A9 c9 af c10).mono ?_
  rintro e w2 ⟨⟨v,rfl,hrep⟩,b2⟩;obtain⟨f0,f1,f2,f3,f4,f5,f6,D9,n9,d9,gV,n10,d10,jX,n11,d11,jY,n12,d12,rfl⟩:=hrep.form;have dB:=aen hrep;have HD2:=aen (HD.out.next b2);have hz2:=b2.size;clear UI hrep b2 p0 p1 p2 p3 p4 p5 p6 p7 p8 p9 p10;go_upto_region 13 with fail
  generalize hW3:w2.alloc _=W3;obtain⟨gF,hgF⟩:∃g,g=w2.heap.size:=⟨_,rfl⟩;have gW:Hid (ae W3 gF 46 #[.int .i64 f0,.int .i64 f1,.string f2,.string f3,.string f4,.string f5,.string f6,.slice D9 n9 d9,.slice gV n10 d10,.slice jX n11 d11,.slice jY n12 d12]):=aen (by rw[←hW3,hgF];exact ae.new w2 _ _);have HD3:Hid (OW w gM #[.int .i64 m.kind,.int .i64 m.n,.string m.ch,.int .i64 m.off,.string m.info,.string m.rest,.string m.dest,.string m.title,.string m.att.id,.slice A9 m.att.cl.length c9,.slice af m.att.pr.length c10] W3):=aen (by rw[←hW3];exact HD2.out.next ((aer _ _).alloc (aeo _) _));have adl:Hid (dw W3 (Rg W0.heap.size W3) #[.int .i64 f0,.int .i64 f1,.string f2,.string f3,.string f4,.string f5,.string f6,.slice D9 n9 d9,.slice gV n10 d10,.slice jX n11 d11,.slice jY n12 d12] (BkT.mk 3 0 m.info (mk (fC ((bz zs (i+1) (bD zs m (i+1))).map fun z=>aT z m.off))) ⟨#[]⟩ ⟨#[]⟩ ak ⟨#[]⟩ [])):=aen (by rw[←hW3];exact dB.out.low ((aer _ _).alloc (aeo _) _));rw[←hgF];have hgl:=gW.out.lt;clear hW3 HD2 dB hgF;obtain⟨l0,l1,l2,l3,l4,l5,l6,l7,l8,l9,l10,j0,j1,j2,j3,j4,j5,j6,j7,j8,j9,j10⟩:=az gW.out;obtain⟨k0,k1,k2,k3,k4,k5,k6,k7,k8,k9,k10,y0,y1,y2,y3,y4,y5,y6,y7,y8,y9,aj⟩:=ZB.facts HD3.out.res;clear j0 j1 j2 j3 j4 j5 j6 j7 j8 j9 j10;go_wp2_with fail;exact qM (ax HD3.out.res _ _ _ _ _ _ _ _ _ _ _) rfl rfl rfl rfl (oH (B:=B) HP.out (adl.out.far (aV _ _ _ _ _ _ _ _ _ _ _ _ _) hw1 (by omega)) (au HD3.out.bel (aeo _) _ _ _ _ _ _ _ _ _ _ _))
 by_cases e8:m.kind=8
 ·have z2:=kF (show (m.kind:Int)≠2 by omega);have z3:=kF (show (m.kind:Int)≠3 by omega);have z11:=kF (show (m.kind:Int)≠11 by omega);have z4:=kF (show (m.kind:Int)≠4 by omega);have z7:=kF (show (m.kind:Int)≠7 by omega);have z8:=kT (show (m.kind:Int)=8 by omega);have HP:Hid (PR=some (BkT.mk 4 0 ⟨#[]⟩ (mk (fC (bz zs (i+1) t))) ⟨#[]⟩ ⟨#[]⟩ a ⟨#[]⟩ [],min (t+1) zs.length)):=aen (by rw[bU.out];unfold iM;rw[if_neg (show ¬m.kind=2 by omega),if_neg (show ¬m.kind=3 by omega),if_neg (show ¬m.kind=11 by omega),if_neg (show ¬m.kind=4 by omega),if_neg (show ¬m.kind=7 by omega),if_pos e8,HMa.out,←UH.out]);have HK:=aen e8;clear e8;clear HQ HX HI pU nR gU jh fU;generalize mk (fC (bz zs (i+1) t))=J at *;go_wp2_with fail;with_reducible refine(HC.out _ eU.out A9 _ c9 af _ c10).mono ?_
  rintro e w1 ⟨⟨vC,vP,rfl,ho⟩,b1⟩;obtain⟨A1,c1,rfl⟩:=ay ho.cls;obtain⟨A2,c2,rfl⟩:=ay ho.aH;have HD1:=aen (HD.out.next b1);have hz1:=b1.size;obtain⟨_,_,_,_,e1,e2,hat⟩:=aW.of_own ho;injection e1 with LF _ LG
  injection e2 with LH _ e2b
  subst LF LG LH e2b;have HAT:=aen hat;clear ho b1 HC hat p0 p1 p2 p3 p4 p5 p6 p7 p8 p9 p10;go_upto_region 16 with fail
  generalize hW2:w1.alloc _=W2;obtain⟨g12,yZ⟩:∃g,g=w1.heap.size:=⟨_,rfl⟩;have gW:Hid (ae W2 g12 43 #[.string a.id,.slice A1 a.cl.length c1,.slice A2 a.pr.length c2]):=aen (by rw[←hW2,yZ];exact ae.new w1 _ _);have HD2:Hid (OW w gM #[.int .i64 m.kind,.int .i64 m.n,.string m.ch,.int .i64 m.off,.string m.info,.string m.rest,.string m.dest,.string m.title,.string m.att.id,.slice A9 m.att.cl.length c9,.slice af m.att.pr.length c10] W2):=aen (by rw[←hW2];exact HD1.out.next ((aer _ _).alloc (aeo _) _));have GM:Hid (aW W2 (Rg W0.heap.size W2) a A1 A2):=aen (by rw[←hW2];exact HAT.out.below ((aer _ _).alloc (aeo _) _));have UJ:Hid (aG W2.drew (some ⟨b,off,none⟩) zs MM):=aen (aS.out.below HD2.out.bel.drew);have hgw:w.heap.size<g12:=by omega
  rw[←yZ];clear hW2 yZ HAT HD1 hz1 HD HA;obtain⟨s0,s1,s2,_⟩:=pG gW.out;have hw2:IntKind.i64.wrap ((t:Int)+1)=(t:Int)+1:=IntWalk.i64_in _ (by omega);have aB:Hid (Below W2.heap.size W2 W2):=aen (aer _ _);have hgl:=gW.out.lt;have hrl:=HD2.out.res.lt;have bu:Hid (∀W,Below W2.heap.size W2 W→(W.cell? ⟨g12,0,none⟩=some (.string a.id)∧W.cell? ⟨g12,1,none⟩=some (.slice A1 a.cl.length c1)∧W.cell? ⟨g12,2,none⟩=some (.slice A2 a.pr.length c2)∧w.heap.size<W.heap.size∧True)):=aen fun W h=>by
   obtain⟨q0,q1,q2,_⟩:=pG (gW.out.below h hgl);exact⟨q0,q1,q2,aeA hrl h.size,trivial⟩
  have uq:Hid (∀W z0 z1 z2 z3 z4 z5 z6 z7 z8 z9 z10,Below W2.heap.size W2 W→((((((((((((W.setCell ⟨w.heap.size,0,none⟩ z0).setCell ⟨w.heap.size,1,none⟩ z1).setCell ⟨w.heap.size,2,none⟩ z2).setCell ⟨w.heap.size,3,none⟩ z3).setCell ⟨w.heap.size,4,none⟩ z4).setCell ⟨w.heap.size,5,none⟩ z5).setCell ⟨w.heap.size,6,none⟩ z6).setCell ⟨w.heap.size,7,none⟩ z7).setCell ⟨w.heap.size,8,none⟩ z8).setCell ⟨w.heap.size,9,none⟩ z9).setCell ⟨w.heap.size,10,none⟩ z10).cell? ⟨g12,0,none⟩=some (.string a.id)∧(((((((((((W.setCell ⟨w.heap.size,0,none⟩ z0).setCell ⟨w.heap.size,1,none⟩ z1).setCell ⟨w.heap.size,2,none⟩ z2).setCell ⟨w.heap.size,3,none⟩ z3).setCell ⟨w.heap.size,4,none⟩ z4).setCell ⟨w.heap.size,5,none⟩ z5).setCell ⟨w.heap.size,6,none⟩ z6).setCell ⟨w.heap.size,7,none⟩ z7).setCell ⟨w.heap.size,8,none⟩ z8).setCell ⟨w.heap.size,9,none⟩ z9).setCell ⟨w.heap.size,10,none⟩ z10).cell? ⟨g12,1,none⟩=some (.slice A1 a.cl.length c1)∧(((((((((((W.setCell ⟨w.heap.size,0,none⟩ z0).setCell ⟨w.heap.size,1,none⟩ z1).setCell ⟨w.heap.size,2,none⟩ z2).setCell ⟨w.heap.size,3,none⟩ z3).setCell ⟨w.heap.size,4,none⟩ z4).setCell ⟨w.heap.size,5,none⟩ z5).setCell ⟨w.heap.size,6,none⟩ z6).setCell ⟨w.heap.size,7,none⟩ z7).setCell ⟨w.heap.size,8,none⟩ z8).setCell ⟨w.heap.size,9,none⟩ z9).setCell ⟨w.heap.size,10,none⟩ z10).cell? ⟨g12,2,none⟩=some (.slice A2 a.pr.length c2)∧w.heap.size<(((((((((((W.setCell ⟨w.heap.size,0,none⟩ z0).setCell ⟨w.heap.size,1,none⟩ z1).setCell ⟨w.heap.size,2,none⟩ z2).setCell ⟨w.heap.size,3,none⟩ z3).setCell ⟨w.heap.size,4,none⟩ z4).setCell ⟨w.heap.size,5,none⟩ z5).setCell ⟨w.heap.size,6,none⟩ z6).setCell ⟨w.heap.size,7,none⟩ z7).setCell ⟨w.heap.size,8,none⟩ z8).setCell ⟨w.heap.size,9,none⟩ z9).setCell ⟨w.heap.size,10,none⟩ z10).heap.size∧True)):=aen fun W z0 z1 z2 z3 z4 z5 z6 z7 z8 z9 z10 h=>by
   obtain⟨q0,q1,q2,_⟩:=pG (ae.grown (gW.out.below h hgl) (aV W w.heap.size z0 z1 z2 z3 z4 z5 z6 z7 z8 z9 z10) (fun e=>by injection e with e;omega));exact⟨q0,q1,q2,aeA (aeA hrl h.size) (aV W w.heap.size z0 z1 z2 z3 z4 z5 z6 z7 z8 z9 z10).size,trivial⟩
  have hi1:(0:Int)≤(i:Int)+1:=by omega
  have hw3:IntKind.i64.wrap ((i:Int)+1)=(i:Int)+1:=IntWalk.i64_in _ (by omega);go_wp2_with fail;by_cases hci:c=i+1
  ·have hq1:(t:Int)≤(i:Int)+1:=by omega
   have hq2:(i:Int)+1≤(t:Int):=by omega
   refine wp_region_held_drew (S:=fun W'=>W'.cell? ⟨g12,0,none⟩=some (.string a.id)∧W'.cell? ⟨g12,1,none⟩=some (.slice A1 a.cl.length c1)∧W'.cell? ⟨g12,2,none⟩=some (.slice A2 a.pr.length c2)∧w.heap.size<W'.heap.size∧True) (by kernel_rfl) (bu.out _ aB.out.drew) (fun hHeld=>?_);refine tk 0 (.slice (some ⟨b,off,none⟩) zs.length c) rfl hHeld (fun W' hSw=>?_) ?_
   ·obtain⟨h0,h1,h2,h3,h4⟩:=hSw;go_simp
   refine tk 1 (.int .i64 i) rfl hHeld (fun W' hSw=>?_) ?_
   ·obtain⟨h0,h1,h2,h3,h4⟩:=hSw;go_simp
   refine tk 2 (.int .i64 ((i:Int)+1)) rfl hHeld (fun W' hSw=>?_) ?_
   ·obtain⟨h0,h1,h2,h3,h4⟩:=hSw;go_simp
   refine tk 3 (.int .i64 t) rfl hHeld (fun W' hSw=>?_) ?_
   ·obtain⟨h0,h1,h2,h3,h4⟩:=hSw;go_simp
   refine tk 6 (.agg #[.string a.id,.slice A1 a.cl.length c1,.slice A2 a.pr.length c2]) rfl hHeld (fun W' hSw=>?_) ?_
   ·obtain⟨h0,h1,h2,h3,h4⟩:=hSw;go_simp
   refine tk 8 (.int .i64 t) rfl hHeld (fun W' hSw=>?_) ?_
   ·obtain⟨h0,h1,h2,h3,h4⟩:=hSw;go_simp
   refine tk 9 (.int .i64 ((t:Int)+1)) rfl hHeld (fun W' hSw=>?_) ?_
   ·obtain⟨h0,h1,h2,h3,h4⟩:=hSw;go_simp
   refine tk 10 (.slice (some ⟨b,off,none⟩) zs.length c) rfl hHeld (fun W' hSw=>?_) ?_
   ·obtain⟨h0,h1,h2,h3,h4⟩:=hSw;go_simp
   refine tk 11 (.int .i64 zs.length) rfl hHeld (fun W' hSw=>?_) ?_
   ·obtain⟨h0,h1,h2,h3,h4⟩:=hSw;go_simp
   refine tk 12 (.int .i64 ((min (t+1) zs.length:Nat):Int)) rfl hHeld (fun W' hSw=>?_) ?_
   ·obtain⟨h0,h1,h2,h3,h4⟩:=hSw;go_simp
   refine aC 4 rfl (fun K hK=>?_);go_simp;refine hK.out _ _ (bu.out _ aB.out.drew) (fun hHeld=>?_);clear hK K;refine aC 5 rfl (fun K hK=>?_);go_simp;with_reducible refine(HJ.out _ UJ.out (some ⟨b,off,none⟩) 0 (.inr (by omega))).mono ?_
   rintro e w9 ⟨rfl,jc⟩;have b9:Below W2.heap.size W2 w9:=by rw[←jc];exact aB.out.drew
   have eF:=aen (HD2.out.next b9);have kQ:w.heap.size<w9.heap.size:=eF.out.res.lt;obtain⟨q0,q1,q2,q3,q4,q5,q6,q7,q8,q9,q10,r0,r1,r2,r3,r4,r5,r6,r7,r8,r9,r10⟩:=ZB.facts eF.out.res;clear jc;go_simp;refine hK.out _ _ (bu.out _ b9) (fun hHeld=>?_);clear hK K;refine aC 7 rfl (fun K hK=>?_);go_simp;refine hK.out _ _ (hHeld) (fun hHeld=>?_);clear hK K;refine aC 13 rfl (fun K hK=>?_);go_simp;refine hK.out _ _ (uq.out _ _ _ _ _ _ _ _ _ _ _ _ b9) (fun hHeld=>?_);clear hK K;refine aC 14 rfl (fun K hK=>?_);go_simp;refine hK.out _ _ (hHeld) (fun hHeld=>?_);clear hK K;refine aC 15 rfl (fun K hK=>?_);go_simp;refine hK.out _ _ (hHeld) (fun hHeld=>?_);clear hK K;refine wpAnyH_done (by kernel_rfl) ?_ _;go_wp2_with fail;rw[HP.out];exact qM (ax eF.out.res _ _ _ _ _ _ _ _ _ _ _) rfl rfl rfl rfl (oH rfl (iq (kind:=4) (level:=0) (att:=a) ((GM.out.below b9).off (aV _ _ _ _ _ _ _ _ _ _ _ _ _) hw1 (by omega)) (jg _ _) (bP.none_ _ _)) (au eF.out.bel (aeo _) _ _ _ _ _ _ _ _ _ _ _))
  ·have hq1:t≤c:=by omega
   have hq2:(i:Int)+1≤(t:Int):=by omega
   refine wp_region_held_drew (S:=fun W'=>W'.cell? ⟨g12,0,none⟩=some (.string a.id)∧W'.cell? ⟨g12,1,none⟩=some (.slice A1 a.cl.length c1)∧W'.cell? ⟨g12,2,none⟩=some (.slice A2 a.pr.length c2)∧w.heap.size<W'.heap.size∧True) (by kernel_rfl) (bu.out _ aB.out.drew) (fun hHeld=>?_);refine tk 0 (.slice (some ⟨b,off,none⟩) zs.length c) rfl hHeld (fun W' hSw=>?_) ?_
   ·obtain⟨h0,h1,h2,h3,h4⟩:=hSw;go_simp
   refine tk 1 (.int .i64 i) rfl hHeld (fun W' hSw=>?_) ?_
   ·obtain⟨h0,h1,h2,h3,h4⟩:=hSw;go_simp
   refine tk 2 (.int .i64 ((i:Int)+1)) rfl hHeld (fun W' hSw=>?_) ?_
   ·obtain⟨h0,h1,h2,h3,h4⟩:=hSw;go_simp
   refine tk 3 (.int .i64 t) rfl hHeld (fun W' hSw=>?_) ?_
   ·obtain⟨h0,h1,h2,h3,h4⟩:=hSw;go_simp
   refine tk 6 (.agg #[.string a.id,.slice A1 a.cl.length c1,.slice A2 a.pr.length c2]) rfl hHeld (fun W' hSw=>?_) ?_
   ·obtain⟨h0,h1,h2,h3,h4⟩:=hSw;go_simp
   refine tk 8 (.int .i64 t) rfl hHeld (fun W' hSw=>?_) ?_
   ·obtain⟨h0,h1,h2,h3,h4⟩:=hSw;go_simp
   refine tk 9 (.int .i64 ((t:Int)+1)) rfl hHeld (fun W' hSw=>?_) ?_
   ·obtain⟨h0,h1,h2,h3,h4⟩:=hSw;go_simp
   refine tk 10 (.slice (some ⟨b,off,none⟩) zs.length c) rfl hHeld (fun W' hSw=>?_) ?_
   ·obtain⟨h0,h1,h2,h3,h4⟩:=hSw;go_simp
   refine tk 11 (.int .i64 zs.length) rfl hHeld (fun W' hSw=>?_) ?_
   ·obtain⟨h0,h1,h2,h3,h4⟩:=hSw;go_simp
   refine tk 12 (.int .i64 ((min (t+1) zs.length:Nat):Int)) rfl hHeld (fun W' hSw=>?_) ?_
   ·obtain⟨h0,h1,h2,h3,h4⟩:=hSw;go_simp
   refine aC 4 rfl (fun K hK=>?_);go_simp;refine hK.out _ _ (bu.out _ aB.out.drew) (fun hHeld=>?_);clear hK K;refine aC 5 rfl (fun K hK=>?_);go_simp;with_reducible refine(HJ.out _ UJ.out (some ⟨b,off+(i+1),none⟩) (c - (i+1)) (.inl rfl)).mono ?_
   rintro e w9 ⟨rfl,jc⟩;have b9:Below W2.heap.size W2 w9:=by rw[←jc];exact aB.out.drew
   have eF:=aen (HD2.out.next b9);have kQ:w.heap.size<w9.heap.size:=eF.out.res.lt;obtain⟨q0,q1,q2,q3,q4,q5,q6,q7,q8,q9,q10,r0,r1,r2,r3,r4,r5,r6,r7,r8,r9,r10⟩:=ZB.facts eF.out.res;clear jc;go_simp;refine hK.out _ _ (bu.out _ b9) (fun hHeld=>?_);clear hK K;refine aC 7 rfl (fun K hK=>?_);go_simp;refine hK.out _ _ (hHeld) (fun hHeld=>?_);clear hK K;refine aC 13 rfl (fun K hK=>?_);go_simp;refine hK.out _ _ (uq.out _ _ _ _ _ _ _ _ _ _ _ _ b9) (fun hHeld=>?_);clear hK K;refine aC 14 rfl (fun K hK=>?_);go_simp;refine hK.out _ _ (hHeld) (fun hHeld=>?_);clear hK K;refine aC 15 rfl (fun K hK=>?_);go_simp;refine hK.out _ _ (hHeld) (fun hHeld=>?_);clear hK K;refine wpAnyH_done (by kernel_rfl) ?_ _;go_wp2_with fail;rw[HP.out];exact qM (ax eF.out.res _ _ _ _ _ _ _ _ _ _ _) rfl rfl rfl rfl (oH rfl (iq (kind:=4) (level:=0) (att:=a) ((GM.out.below b9).off (aV _ _ _ _ _ _ _ _ _ _ _ _ _) hw1 (by omega)) (jg _ _) (bP.none_ _ _)) (au eF.out.bel (aeo _) _ _ _ _ _ _ _ _ _ _ _))
 by_cases e9:m.kind=9
 ·have z2:=kF (show (m.kind:Int)≠2 by omega);have z3:=kF (show (m.kind:Int)≠3 by omega);have z11:=kF (show (m.kind:Int)≠11 by omega);have z4:=kF (show (m.kind:Int)≠4 by omega);have z7:=kF (show (m.kind:Int)≠7 by omega);have z8:=kF (show (m.kind:Int)≠8 by omega);have z9:=kT (show (m.kind:Int)=9 by omega);have HP:Hid (PR=(jv (bz zs (i+1) t)).map fun k=>(BkT.mk 13 0 m.info ⟨#[]⟩ ⟨#[]⟩ ⟨#[]⟩ m.att ⟨#[]⟩ k,min (t+1) zs.length)):=aen (by rw[bU.out];unfold iM;rw[if_neg (show ¬m.kind=2 by omega),if_neg (show ¬m.kind=3 by omega),if_neg (show ¬m.kind=11 by omega),if_neg (show ¬m.kind=4 by omega),if_neg (show ¬m.kind=7 by omega),if_neg (show ¬m.kind=8 by omega),if_pos e9,←UH.out]);have HK:=aen e9;clear e9;clear HQ HX HI pU gU jh fU HJ;generalize jv (bz zs (i+1) t)=R at *;go_wp2_with fail;with_reducible refine(HC.out _ eU.out A9 _ c9 af _ c10).mono ?_
  rintro e w1 ⟨⟨vC,vP,rfl,ho⟩,b1⟩;obtain⟨A1,c1,rfl⟩:=ay ho.cls;obtain⟨A2,c2,rfl⟩:=ay ho.aH;have HD1:=aen (HD.out.next b1);have UK:=aen (HA.out.below b1);clear ho b1 HC HD HA p0 p1 p2 p3 p4 p5 p6 p7 p8 p9 p10;go_wp2_with fail;all_goals
   rw[kN.out];generalize hW:w1.alloc _=W2;have HD2:=aen (hW ▸ HD1.out.next ((aer _ w1).alloc (aeo _) _));have HA2:=aen (hW ▸ UK.out.below ((aer _ w1).alloc (aeo _) _));clear hW HD1 UK;with_reducible refine(nR.out _ _ _ (aS.out.below HD2.out.bel) (by first|exact .inl rfl|exact .inr (by omega)) (by omega) (by unfold maxLen;omega)).mono ?_
   rintro e w3 ⟨hp,b3⟩;have HD3:=aen (HD2.out.next b3);have HA3:=aen (HA2.out.below b3);have hz3:=b3.size;have Dq:=HD2.out.res.lt;have hz0:=HD2.out.bel.size;obtain⟨p0,p1,p2,p3,p4,p5,p6,p7,p8,p9,p10,x0,x1,x2,x3,x4,x5,x6,x7,x8,x9,x10⟩:=az HD3.out.aP;obtain⟨k0,k1,k2,k3,k4,k5,k6,k7,k8,k9,k10,y0,y1,y2,y3,y4,y5,y6,y7,y8,y9,aj⟩:=ZB.facts HD3.out.res;clear x0 x1 x2 x3 x4 x5 x6 x7 x8 x9 x10;cases R with
   |none=>
    subst hp;unfold zy;clear nR b3;go_wp2_with fail;exact qM (ax HD3.out.res _ _ _ _ _ _ _ _ _ _ _) rfl rfl rfl rfl (Ba HP.out ⟨_,_,_,_,_,_,_,_,_,_,_,_,_,_,_,_,_,_,_,rfl⟩ (au HD3.out.bel (aeo _) _ _ _ _ _ _ _ _ _ _ _))
   |some bs=>
    obtain⟨A3,c3,A4,n4,c4,rfl,hk⟩:=hp;have DX:=aen hk;clear nR hk b3;go_wp2_with fail;exact qM (ax HD3.out.res _ _ _ _ _ _ _ _ _ _ _) rfl rfl rfl rfl (oH HP.out (iq (att:=m.att) (HA3.out.off (aV _ _ _ _ _ _ _ _ _ _ _ _ _) (Nat.lt_succ_self _) (by omega)) (jg _ _) (DX.out.far (aV _ _ _ _ _ _ _ _ _ _ _ _ _) Dq (by omega))) (au HD3.out.bel (aeo _) _ _ _ _ _ _ _ _ _ _ _))
 by_cases e10:m.kind=10
 ·have z2:=kF (show (m.kind:Int)≠2 by omega);have z3:=kF (show (m.kind:Int)≠3 by omega);have z11:=kF (show (m.kind:Int)≠11 by omega);have z4:=kF (show (m.kind:Int)≠4 by omega);have z7:=kF (show (m.kind:Int)≠7 by omega);have z8:=kF (show (m.kind:Int)≠8 by omega);have z9:=kF (show (m.kind:Int)≠9 by omega);have z10:=kT (show (m.kind:Int)=10 by omega);have HP:Hid (PR=(jv (aQ zs i m).1).map fun k=>(BkT.mk 14 0 m.info ⟨#[]⟩ ⟨#[]⟩ ⟨#[]⟩ ak ⟨#[]⟩ k,(aQ zs i m).2)):=aen (by rw[bU.out];unfold iM;rw[if_neg (show ¬m.kind=2 by omega),if_neg (show ¬m.kind=3 by omega),if_neg (show ¬m.kind=11 by omega),if_neg (show ¬m.kind=4 by omega),if_neg (show ¬m.kind=7 by omega),if_neg (show ¬m.kind=8 by omega),if_neg (show ¬m.kind=9 by omega),if_pos e10]);have HK:=aen e10;clear e10;generalize aQ zs i m=CL at *;obtain⟨inner,tt⟩:=CL;simp only[] at jh HP;have UL:=aen fun W h=>jh.out HK.out W h;clear HQ HX HI pU HC nR jh mP fU HJ;go_wp2_with fail;with_reducible refine(UL.out _ eU.out A9 _ c9 af _ c10).mono ?_
  rintro e w1 ⟨⟨A1,c1,rfl,hc1,hc2,hLn⟩,b1⟩;have rO:=aen (gU.out _ A1 c1 w1 hLn hc1 hc2);have HD1:=aen (HD.out.next b1);have hw2:=HD1.out.res.lt;clear UL hLn b1 p0 p1 p2 p3 p4 p5 p6 p7 p8 p9 p10 gU;go_wp2_with fail;rw[kN.out];with_reducible refine(rO.out).mono ?_
  rintro e w2 ⟨hp,b2⟩;have HD2:=aen (HD1.out.next b2);have hz2:=b2.size;have hz1:=HD1.out.bel.size;obtain⟨p0,p1,p2,p3,p4,p5,p6,p7,p8,p9,p10,x0,x1,x2,x3,x4,x5,x6,x7,x8,x9,x10⟩:=az HD2.out.aP;obtain⟨k0,k1,k2,k3,k4,k5,k6,k7,k8,k9,k10,y0,y1,y2,y3,y4,y5,y6,y7,y8,y9,aj⟩:=ZB.facts HD2.out.res;clear x0 x1 x2 x3 x4 x5 x6 x7 x8 x9 x10 b2 rO;cases hrc:jv inner with
  |none=>
   have ny:=aen hrc;rw[hrc] at hp;subst hp;unfold zy;clear hrc;go_wp2_with fail;exact qM (ax HD2.out.res _ _ _ _ _ _ _ _ _ _ _) rfl rfl rfl rfl (Ba (by rw[HP.out,ny.out];rfl) ⟨_,_,_,_,_,_,_,_,_,_,_,_,_,_,_,_,_,_,_,rfl⟩ (au HD2.out.bel (aeo _) _ _ _ _ _ _ _ _ _ _ _))
  |some bs=>
   have ny:=aen hrc;rw[hrc] at hp;obtain⟨A5,c5,A6,n6,c6,rfl,hk⟩:=hp;have DZ:=aen hk;clear hrc hk;go_wp2_with fail;exact qM (ax HD2.out.res _ _ _ _ _ _ _ _ _ _ _) rfl rfl rfl rfl (oH (by rw[HP.out,ny.out];rfl) (iq (kind:=14) (level:=0) (att:=ak) (aW.empty _ _ _ _) (jg _ _) (DZ.out.far (aV _ _ _ _ _ _ _ _ _ _ _ _ _) hw2 (by omega))) (au HD2.out.bel (aeo _) _ _ _ _ _ _ _ _ _ _ _))
 have hrest:m.kind=4∨m.kind=5∨m.kind=6∨m.kind=0:=by omega
 rcases hrest with e|e|e|e;case' inl=>
  have z2:=kF (show (m.kind:Int)≠2 by omega);have z3:=kF (show (m.kind:Int)≠3 by omega);have z11:=kF (show (m.kind:Int)≠11 by omega);have z4:=kT (show (m.kind:Int)=4 by omega);have HP:Hid (PR=(jv (je zs i)).map fun k=>(fe 6 k,lu zs i)):=aen (by rw[bU.out];unfold iM;rw[if_neg (show ¬m.kind=2 by omega),if_neg (show ¬m.kind=3 by omega),if_neg (show ¬m.kind=11 by omega),if_pos e]);have hq:=HQ.out _ eU.out;rw[←HP.out] at hq;have HH:=aen hq;clear e hq;clear HQ HX HI pU HC nR gU jh mP fU HJ;go_wp2_with fail;with_reducible refine(HH.out).mono ?_
  rintro e w2 ⟨b2,hp⟩;clear HH
 case' inr.inl=>
  have z2:=kF (show (m.kind:Int)≠2 by omega);have z3:=kF (show (m.kind:Int)≠3 by omega);have z11:=kF (show (m.kind:Int)≠11 by omega);have z4:=kF (show (m.kind:Int)≠4 by omega);have z7:=kF (show (m.kind:Int)≠7 by omega);have z8:=kF (show (m.kind:Int)≠8 by omega);have z9:=kF (show (m.kind:Int)≠9 by omega);have z10:=kF (show (m.kind:Int)≠10 by omega);have z5:=kT (show (m.kind:Int)=5 by omega);have HP:Hid (PR=if decide (d+1≤15)=true then (jH ng zs i m).map (fun r=>(lW m r.1,r.2)) else none):=aen (by rw[bU.out];unfold iM;rw[if_neg (show ¬m.kind=2 by omega),if_neg (show ¬m.kind=3 by omega),if_neg (show ¬m.kind=11 by omega),if_neg (show ¬m.kind=4 by omega),if_neg (show ¬m.kind=7 by omega),if_neg (show ¬m.kind=8 by omega),if_neg (show ¬m.kind=9 by omega),if_neg (show ¬m.kind=10 by omega),if_pos (.inl e)];rfl);have hq:=HI.out (.inl e) _ eU.out A9 m.att.cl.length c9 af m.att.pr.length c10;rw[←HP.out] at hq;have HH:=aen hq;clear e hq;clear HQ HX HI pU HC nR gU jh mP fU HJ;go_wp2_with fail;with_reducible refine(HH.out).mono ?_
  rintro e w2 ⟨b2,hp⟩;clear HH
 case' inr.inr.inl=>
  have z2:=kF (show (m.kind:Int)≠2 by omega);have z3:=kF (show (m.kind:Int)≠3 by omega);have z11:=kF (show (m.kind:Int)≠11 by omega);have z4:=kF (show (m.kind:Int)≠4 by omega);have z7:=kF (show (m.kind:Int)≠7 by omega);have z8:=kF (show (m.kind:Int)≠8 by omega);have z9:=kF (show (m.kind:Int)≠9 by omega);have z10:=kF (show (m.kind:Int)≠10 by omega);have z5:=kF (show (m.kind:Int)≠5 by omega);have z6:=kT (show (m.kind:Int)=6 by omega);have HP:Hid (PR=if decide (d+1≤15)=true then (jH ng zs i m).map (fun r=>(lW m r.1,r.2)) else none):=aen (by rw[bU.out];unfold iM;rw[if_neg (show ¬m.kind=2 by omega),if_neg (show ¬m.kind=3 by omega),if_neg (show ¬m.kind=11 by omega),if_neg (show ¬m.kind=4 by omega),if_neg (show ¬m.kind=7 by omega),if_neg (show ¬m.kind=8 by omega),if_neg (show ¬m.kind=9 by omega),if_neg (show ¬m.kind=10 by omega),if_pos (.inr e)];rfl);have hq:=HI.out (.inr e) _ eU.out A9 m.att.cl.length c9 af m.att.pr.length c10;rw[←HP.out] at hq;have HH:=aen hq;clear e hq;clear HQ HX HI pU HC nR gU jh mP fU HJ;go_wp2_with fail;with_reducible refine(HH.out).mono ?_
  rintro e w2 ⟨b2,hp⟩;clear HH
 case' inr.inr.inr=>
  have z2:=kF (show (m.kind:Int)≠2 by omega);have z3:=kF (show (m.kind:Int)≠3 by omega);have z11:=kF (show (m.kind:Int)≠11 by omega);have z4:=kF (show (m.kind:Int)≠4 by omega);have z7:=kF (show (m.kind:Int)≠7 by omega);have z8:=kF (show (m.kind:Int)≠8 by omega);have z9:=kF (show (m.kind:Int)≠9 by omega);have z10:=kF (show (m.kind:Int)≠10 by omega);have z5:=kF (show (m.kind:Int)≠5 by omega);have z6:=kF (show (m.kind:Int)≠6 by omega);have HP:Hid (PR=if gZ zs i=true then (if decide (d+2≤15)=true then some (ou zs i ((gJ (bytesL (ln zs (i+1)))).getD []),eu zs i) else none) else some (qE zs i,ig zs i)):=aen (by rw[bU.out];unfold iM;rw[if_neg (show ¬m.kind=2 by omega),if_neg (show ¬m.kind=3 by omega),if_neg (show ¬m.kind=11 by omega),if_neg (show ¬m.kind=4 by omega),if_neg (show ¬m.kind=7 by omega),if_neg (show ¬m.kind=8 by omega),if_neg (show ¬m.kind=9 by omega),if_neg (show ¬m.kind=10 by omega),if_neg (show ¬(m.kind=5∨m.kind=6) by omega)]);have hq:=HX.out _ eU.out;rw[←HP.out] at hq;have HH:=aen hq;clear e hq;clear HQ HX HI pU HC nR gU jh mP fU HJ;go_wp2_with fail;with_reducible refine(HH.out).mono ?_
  rintro e w2 ⟨b2,hp⟩;clear HH
 all_goals
  have HD2:=aen (HD.out.next b2);have hz2:=b2.size;obtain⟨k0,k1,k2,k3,k4,k5,k6,k7,k8,k9,k10,y0,y1,y2,y3,y4,y5,y6,y7,y8,y9,aj⟩:=ZB.facts HD2.out.res;clear p0 p1 p2 p3 p4 p5 p6 p7 p8 p9 p10;cases PR with
  |none=>
   obtain⟨v,u,⟨i0,i1,s2,s3,s4,s5,s6,A7,n7,c7,A8,n8,c8,D9,n9,d9,gV,n10,d10,rfl⟩,rfl⟩:=hp;go_wp2_with fail;exact qM (ax HD2.out.res _ _ _ _ _ _ _ _ _ _ _) rfl rfl rfl rfl (Ba rfl ⟨_,_,_,_,_,_,_,_,_,_,_,_,_,_,_,_,_,_,_,rfl⟩ (au HD2.out.bel (aeo _) _ _ _ _ _ _ _ _ _ _ _))
  |some r=>
   obtain⟨bk,tq⟩:=r;obtain⟨v,rfl,hrep⟩:=hp;obtain⟨f0,f1,f2,f3,f4,f5,f6,D9,n9,d9,gV,n10,d10,jX,n11,d11,jY,n12,d12,rfl⟩:=hrep.form;have dB:=aen hrep;clear hrep;go_wp2_with fail;have hrep:=dB.out;exact qM (ax HD2.out.res _ _ _ _ _ _ _ _ _ _ _) rfl rfl rfl rfl (oH rfl (hrep.far (aV _ _ _ _ _ _ _ _ _ _ _ _ _) hw1 (by omega)) (au HD2.out.bel (aeo _) _ _ _ _ _ _ _ _ _ _ _))
end Go.Proofs.YtpoafhgbhnblmaaGreatDoor
