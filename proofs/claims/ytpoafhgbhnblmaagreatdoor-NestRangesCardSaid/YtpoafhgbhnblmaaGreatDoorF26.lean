import Derived.Test.YtpoafhgbhnblmaaGreatDoorF25
set_option linter.unusedVariables false
set_option linter.unusedSimpArgs false
set_option maxRecDepth 100000
set_option maxHeartbeats 20000000
namespace Go.Proofs.YtpoafhgbhnblmaaGreatDoor
open Go.Proofs.Tryz (prog)
open Go.RowKit
theorem pP(s:ByteArray)(i:Nat)(w:World)(hs:s.size≤1000000)(hi:i≤s.size):Calls prog 123 #[.string s,.int .i64 i] w fun e w'=>e=.returned (.int .i64 (ah s i))∧w=w':=by
 generalize hR:ah s i=R at *;have HR:=aen hR;clear hR;go_enter Tryz.func123,Tryz.ntmps123;go_wp2;go_loop [1] (fun v=>∃k:Nat,k≤s.size∧v=.int .i64 k∧Hid (ah s k=R)) (fun v=>s.size - (intOf v).toNat);case atStart=>exact⟨i,by omega,rfl,HR⟩
 case round=>
  obtain⟨k,hk,rfl,Hk⟩:=hrel;by_cases hlt:k<s.size
  ·have hlt2:((s[k].toNat:Nat):Int)<256:=by rw[get_bt s k hlt];have:=aK s k;omega
   by_cases hc:bt s k=32
   ·have z:(((s[k].toNat:Nat):Int)==32)=true:=by rw[get_bt s k hlt,hc];rfl
    have HF:Hid (ah s (k+1)=R):=aen (by rw[←Hk.out,ET s k hlt hc]);clear hc;go_wp2_with fail;go_round;case rel=>exact⟨k+1,by omega,by go_num,HF⟩
    case measure=>simp[intOf];omega
   ·have z:(((s[k].toNat:Nat):Int)==32)=false:=by rw[get_bt s k hlt,aes];omega
    have HF:Hid (k=R):=aen (by rw[←Hk.out,EU s k hlt hc]);clear hc;go_wp2_with fail;go_ret;exact⟨iy (by rw[HF.out]),rfl⟩
  ·have HF:Hid (k=R):=aen (by rw[←Hk.out,ES s k (by omega)]);go_wp2_with fail;go_ret;exact⟨iy (by rw[HF.out]),rfl⟩
theorem AX(s:ByteArray)(c:Nat)(w:World)(hs:s.size≤1000000)(hc:c<256):Calls prog 176 #[.string s,.int .i64 0,.int .u8 c] w fun e w'=>e=.returned (.int .i64 (aI s (· != c)))∧w=w':=by
 have HR:Hid (0+runF s 0 (· == c)=aI s (· != c)):=aen (by rw[FO s (· == c) (· != c) (fun b=>rfl)];omega);generalize aI s (· != c)=R at *;go_enter Tryz.func176,Tryz.ntmps176;go_wp2;go_loop [7] (fun v=>∃k:Nat,k≤s.size∧v=.int .i64 k∧Hid (k+runF s k (· == c)=R)) (fun v=>s.size - (intOf v).toNat);case atStart=>exact⟨0,by omega,rfl,HR⟩
 case round=>
  obtain⟨k,hk,rfl,Hk⟩:=hrel;clear HR;by_cases hlt:k<s.size
  ·have hlt2:((s[k].toNat:Nat):Int)<256:=by rw[get_bt s k hlt];have:=aK s k;omega
   by_cases hb:bt s k=c
   ·have z:(((s[k].toNat:Nat):Int)==(c:Int))=true:=by rw[get_bt s k hlt,hb];simp
    have z':(s[k].toNat==c)=true:=by rw[get_bt s k hlt,hb];simp
    have HF:Hid (k+1+runF s (k+1) (· == c)=R):=aen (by rw[←Hk.out,FN s k (· == c) hlt (by rw[beq_iff_eq];exact hb)];omega);clear hb Hk;go_wp2_with fail;go_round;case rel=>exact⟨k+1,by omega,by go_num,HF⟩
    case measure=>simp[intOf];omega
   ·have z:(((s[k].toNat:Nat):Int)==(c:Int))=false:=by rw[get_bt s k hlt,aes];omega
    have z':(s[k].toNat==c)=false:=by rw[get_bt s k hlt,aes];exact hb
    have HF:Hid (k=R):=aen (by rw[←Hk.out,CQ s k (· == c) hlt (by rw[aes];exact hb)];rfl);clear hb Hk;go_wp2_with fail;go_ret;exact⟨iy (by rw[HF.out]),rfl⟩
  ·have HF:Hid (k=R):=aen (by rw[←Hk.out,CP s k (· == c) (by omega)];rfl);go_wp2_with fail;go_ret;exact⟨iy (by rw[HF.out]),rfl⟩
theorem GX{W:World}{g:Nat}{x y z u:Value}{P:Ending→World→Prop}{act:Act}(hr:ae W g 43 #[x,y,z])(h4:act.tmps.getD 4 undef=.pointer (some ⟨g,0,none⟩))
 (h5:act.tmps.getD 5 undef=u) (hd:act.defers=[]) (hP:P (.returned (.tuple #[.agg #[x,y,z],u])) W):bodyPost prog Tryz.f183 P Exit.ret act W:=by
 have c0:W.cell? ⟨g,0,none⟩=some x:=hr.cell 0;have c1:W.cell? ⟨g,1,none⟩=some y:=hr.cell 1;have c2:W.cell? ⟨g,2,none⟩=some z:=hr.cell 2;refine bodyPost_ret (v:=.tuple #[.agg #[x,y,z],u]) ?_ hd hP;rw[aew] at h4 h5;simp[results,Tryz.results183,go_sem,h4,h5,c0,c1,c2]
theorem abL(s:ByteArray)(i:Nat)(h:(aN s i).2.2=0):(aN s i).2.1≤s.size:=(Jr (JX h rfl)).2.1
theorem TE(s:ByteArray)(k:Nat)(w:World)(hs:s.size≤1000000)(hk:k≤s.size):Calls prog 183 #[.string s,.int .i64 k] w (ug (oh (qw s k)) w):=by
 have jw:=aen fun W=>pP s k W hs hk;have hbd:=yu s k hk;have HR:Hid (qw s k=if ah s k=s.size then some ak else if (aN s (ah s k)).2.2=0∧¬(ah s (aN s (ah s k)).2.1<s.size) then some (aN s (ah s k)).1 else none):=aen rfl;generalize qw s k=R at *;generalize ah s k=i at *;by_cases h0:i=s.size
 ·have HF:Hid (oh R=(ak,true)):=aen (by rw[HR.out,if_pos h0];rfl);have e1:((i:Int)==(s.size:Int))=true:=by rw[beq_iff_eq];omega
  have e2:(i==s.size)=true:=by rw[beq_iff_eq];omega
  clear HR;go_enter Tryz.func183,Tryz.ntmps183;go_wp2_with fail;with_reducible refine(jw.out _).mono ?_
  rintro e w' ⟨rfl,rfl⟩;go_wp2_with fail;exact GX (ae.new w _ _) rfl rfl rfl (iF HF.out ((aer _ w).alloc (aeo _) _))
 have e1:((i:Int)==(s.size:Int))=false:=by rw[aes];omega
 have e2:(i==s.size)=false:=by rw[aes];omega
 rw[if_neg h0] at HR;have mQ:=aen fun W=>QE W s i hs;have hto:=abL s i;generalize aN s i=pr at *;obtain⟨a,t,n⟩:=pr;simp only at HR hto;have hW:∀W1,Below (w.alloc (.cells #[.string ⟨#[]⟩,.slice none 0 0,.slice none 0 0] 43)).heap.size (w.alloc (.cells #[.string ⟨#[]⟩,.slice none 0 0,.slice none 0 0] 43)) W1→ae W1 w.heap.size 43 #[.string ⟨#[]⟩,.slice none 0 0,.slice none 0 0]∧Below w.heap.size w W1∧w.heap.size<W1.heap.size:=fun W1 hb=>by
  have h1:=(ae.new w 43 #[.string ⟨#[]⟩,.slice none 0 0,.slice none 0 0]);have h2:=((aer _ w).alloc (aeo _) (.cells #[.string ⟨#[]⟩,.slice none 0 0,.slice none 0 0] 43));exact⟨ae.below h1 hb h1.lt,h2.trans (hb.mono h2.size),aeA h1.lt hb.size⟩
 have HW:=aen hW;clear hW h0;by_cases hn:n=0;case neg=>
  have HF:Hid (oh R=(ak,false)):=aen (by rw[HR.out,if_neg (fun h=>hn h.1)];rfl);have d1:((n:Int) != 0)=true:=by rw[aeB];omega
  clear HR hto;go_enter Tryz.func183,Tryz.ntmps183;go_wp2_with fail;with_reducible refine(jw.out _).mono ?_
  rintro e w' ⟨rfl,rfl⟩;go_wp2_with fail;with_reducible refine(mQ.out _).mono ?_
  rintro e W1 ⟨v,rfl,⟨⟨vC,vP,rfl,dP,hP1⟩,hc32,nV⟩,b1⟩;obtain⟨qA,qc,rfl⟩:=ay dP;obtain⟨qD,qd,rfl⟩:=ay hP1;obtain⟨hb0,hb1,hb2⟩:=HW.out W1 b1;have hz:=ae.alloc hb0 (.cells #[.string a.id,.slice qA a.cl.length qc,.slice qD a.pr.length qd] 43);have hbel:=hb1.alloc hb1.size (.cells #[.string a.id,.slice qA a.cl.length qc,.slice qD a.pr.length qd] 43);have a0:=hz.cell 0;have a1:=hz.cell 1;have a2:=hz.cell 2;have f0:=hz.frozen 0;have f1:=hz.frozen 1;have f2:=hz.frozen 2;have HB2:=aen hb2;clear b1 hb0 dP hP1 hb2;go_wp2_with fail;refine GX (fZ hz rfl (.string ⟨#[]⟩) (.slice none 0 0) (.slice none 0 0)) rfl rfl rfl ?_;exact iF HF.out (below3 hbel (aeo _) _ _ _)
 have ht:=hto hn;subst hn;have HS2:=aen fun W=>pP s t W hs ht;have kX:(decide ((ah s t:Int)<(s.size:Int))=true∧decide (ah s t<s.size)=true∧Hid (oh R=(ak,false)))∨(decide ((ah s t:Int)<(s.size:Int))=false∧decide (ah s t<s.size)=false∧Hid (oh R=(a,true))):=by
  by_cases h:ah s t<s.size
  ·left;exact⟨aeq (by omega),aeq h,aen (by rw[HR.out,if_neg (fun hh=>hh.2 h)];rfl)⟩
  ·right;exact⟨aep (by omega),aep h,aen (by rw[HR.out,if_pos ⟨rfl,h⟩];rfl)⟩
 generalize ah s t=j at *;clear HR hto;rcases kX with ⟨d1,d2,HF⟩|⟨d1,d2,HF⟩;all_goals
  go_enter Tryz.func183,Tryz.ntmps183;go_wp2_with fail;with_reducible refine(jw.out _).mono ?_
  rintro e w' ⟨rfl,rfl⟩;go_wp2_with fail;with_reducible refine(mQ.out _).mono ?_
  rintro e W1 ⟨v,rfl,⟨⟨vC,vP,rfl,dP,hP1⟩,hc32,nV⟩,b1⟩;obtain⟨qA,qc,rfl⟩:=ay dP;obtain⟨qD,qd,rfl⟩:=ay hP1;obtain⟨hb0,hb1,hb2⟩:=HW.out W1 b1;have hO:Hid (aZ (W1.alloc (.cells #[.string a.id,.slice qA a.cl.length qc,.slice qD a.pr.length qd] 43)) (w.heap.size+1) a (.slice qA a.cl.length qc) (.slice qD a.pr.length qd)):=aen (by
   have:aZ W1 (w.heap.size+1) a (.slice qA a.cl.length qc) (.slice qD a.pr.length qd):=⟨by simpa using dP,by simpa using hP1,hb2,hc32,nV⟩;exact this.below ((aer _ _).alloc (aeo _) _))
  have hz:=ae.alloc hb0 (.cells #[.string a.id,.slice qA a.cl.length qc,.slice qD a.pr.length qd] 43);have hbel:=hb1.alloc hb1.size (.cells #[.string a.id,.slice qA a.cl.length qc,.slice qD a.pr.length qd] 43);have hn:=ae.new W1 43 #[.string a.id,.slice qA a.cl.length qc,.slice qD a.pr.length qd];have e0:=hn.cell 0;have e1:=hn.cell 1;have e2:=hn.cell 2;have a0:=hz.cell 0;have a1:=hz.cell 1;have a2:=hz.cell 2;have f0:=hz.frozen 0;have f1:=hz.frozen 1;have f2:=hz.frozen 2;have HB2:=aen hb2;clear b1 hb0 dP hP1 hb2;go_wp2_with fail;with_reducible refine(HS2.out _).mono ?_
  rintro e w' ⟨rfl,rfl⟩;go_wp2_with fail;first
  |(refine GX (fZ hz rfl (.string a.id) (.slice qA a.cl.length qc) (.slice qD a.pr.length qd)) rfl rfl rfl ?_
    exact KU HF.out (dN (dR hO.out (tX _ _ _ _ _) (Nat.lt_succ_self _)) (Nat.le_succ _)) (below3 hbel (aeo _) _ _ _))
  |(refine GX (fZ hz rfl (.string ⟨#[]⟩) (.slice none 0 0) (.slice none 0 0)) rfl rfl rfl ?_
    exact iF HF.out (below3 hbel (aeo _) _ _ _))
theorem qL{W:World}{g:Nat}{x y z u:Value}{P:Ending→World→Prop}{act:Act}(hr:ae W g 43 #[x,y,z])(h4:act.tmps.getD 4 undef=.pointer (some ⟨g,0,none⟩))
 (h5:act.tmps.getD 5 undef=u) (hd:act.defers=[]) (hP:P (.returned (.tuple #[.agg #[x,y,z],u])) W):bodyPost prog Tryz.f134 P Exit.ret act W:=by
 have c0:W.cell? ⟨g,0,none⟩=some x:=hr.cell 0;have c1:W.cell? ⟨g,1,none⟩=some y:=hr.cell 1;have c2:W.cell? ⟨g,2,none⟩=some z:=hr.cell 2;refine bodyPost_ret (v:=.tuple #[.agg #[x,y,z],u]) ?_ hd hP;rw[aew] at h4 h5;simp[results,Tryz.results134,go_sem,h4,h5,c0,c1,c2]
theorem GY(c:ByteArray)(n:Nat)(hn:n≤c.size):aF (c.extract n c.size)=decide (ah c n=c.size):=by
 have h1:ah (c.extract n c.size) 0=pX (sfx c n):=by
  rw[extract_drop];unfold ah sfx;rw[bytesL_mk',List.drop_zero,Nat.zero_add]
 have h2:(c.extract n c.size).size=c.size - n:=by rw[aex];omega
 unfold aF;rw[h1,h2];unfold ah;by_cases h:n+pX (sfx c n)=c.size
 ·rw[aeq h,aeq (by omega)]
 ·rw[aep h,aep (by omega)]
theorem L6(c:ByteArray)(a b:UInt8)(h:2≤c.size):Lib.hasPrefix (bytesL c) [a,b]=((c.extract 0 2).toList==(⟨#[a,b]⟩:ByteArray).toList):=by
 have e:Lib.hasPrefix (bytesL c) [a,b]=true↔c.extract 0 2=⟨#[a,b]⟩:=by
  rw[wC];have e0:Lib.hasPrefix (bytesL c) [a,b]=true↔[a,b] <+: bytesL c:=by simp[Lib.hasPrefix]
  rw[e0,List.prefix_iff_eq_take];constructor
  ·intro h;show mk ((bytesL c).take [a,b].length)=_;rw[←h];rfl
  ·intro h;have:=congrArg bytesL h;rw[bytesL_mk'] at this;exact this.symm
 cases hp:Lib.hasPrefix (bytesL c) [a,b]
 ·exact((Lib.bytes_beq_false_iff _ _).2 fun h=>by rw[e.2 h] at hp;cases hp).symm
 ·exact((Lib.bytes_beq_iff _ _).2 (e.1 hp)).symm
theorem abM(s:ByteArray)(K N o:Int)(ch s4 s5 s6 s7 s8:ByteArray)(A9:Option Addr)(n9 c9:Nat)(af:Option Addr)(n10 c10:Nat)(w:World)(hs:s.size≤1000000) :
 Calls prog 134 #[.string s,.agg #[.int .i64 K,.int .i64 N,.string ch,.int .i64 o,.string s4,.string s5,.string s6,.string s7,.string s8,.slice A9 n9 c9,.slice af n10 c10]] w (ug (fP s K N ch) w):=by
 have HI:Hid (∀W,Calls prog 123 #[.string s,.int .i64 0] W fun e w'=>e=.returned (.int .i64 (ah s 0))∧W=w'):=aen fun W=>pP s 0 W hs (Nat.zero_le _);have hil:ah s 0≤s.size:=kC s;have hcz:(s.extract (ah s 0) s.size).size=s.size - ah s 0:=by rw[aex];omega
 have HR:Hid (fP s K N ch=if 3<ah s 0 then (ak,false) else closeD (s.extract (ah s 0) s.size) K N ch):=aen rfl;have HS:=aen (Gn w #[.int .i64 K,.int .i64 N,.string ch,.int .i64 o,.string s4,.string s5,.string s6,.string s7,.string s8,.slice A9 n9 c9,.slice af n10 c10]);generalize fP s K N ch=R at *;generalize ah s 0=ind at *;have Qx:(ind:Int)≤(s.size:Int):=by omega
 by_cases hi:3<ind
 ·have HF:Hid (R=(ak,false)):=aen (by rw[HR.out,if_pos hi]);have d1:decide (3<(ind:Int))=true:=aeq (by omega);have d2:decide (3<ind)=true:=aeq hi;clear HR;go_enter Tryz.func134,Tryz.ntmps134;go_wp2_with fail;with_reducible refine(HI.out _).mono ?_
  rintro e w' ⟨rfl,rfl⟩;go_wp2_with fail;exact qL HS.out.at_ rfl rfl rfl (iF HF.out HS.out.bel)
 have d1:decide (3<(ind:Int))=false:=aep (by omega);have d2:decide (3<ind)=false:=aep hi;have HR2:Hid (R=closeD (s.extract ind s.size) K N ch):=aen (by rw[HR.out,if_neg hi]);clear HR;generalize hcc:s.extract ind s.size=c at *;have hcs:c.size≤1000000:=by omega
 clear hcz;by_cases h7:K=7
 ·subst h7;by_cases hg1:ch.size=1;case neg=>
   have HF:Hid (R=(ak,false)):=aen (by rw[HR2.out];unfold closeD;rw[if_pos rfl,aep (fun h=>hg1 h.1)];rfl);have e1:((ch.size:Int) != 1)=true:=by rw[aeB];omega
   have e2:(ch.size != 1)=true:=by rw[aeB];omega
   clear HR2;go_enter Tryz.func134,Tryz.ntmps134;go_wp2_with fail;with_reducible refine(HI.out _).mono ?_
   rintro e w' ⟨rfl,rfl⟩;go_wp2_with fail;exact qL HS.out.at_ rfl rfl rfl (iF HF.out HS.out.bel)
  have e1:((ch.size:Int) != 1)=false:=by rw[bne_eq_false_iff_eq];omega
  have e2:(ch.size != 1)=false:=by rw[bne_eq_false_iff_eq];omega
  by_cases hg2:N<1
  ·have HF:Hid (R=(ak,false)):=aen (by rw[HR2.out];unfold closeD;rw[if_pos rfl,aep (fun h=>by omega)];rfl);have e3:decide (N<1)=true:=aeq hg2;clear HR2;go_enter Tryz.func134,Tryz.ntmps134;go_wp2_with fail;with_reducible refine(HI.out _).mono ?_
   rintro e w' ⟨rfl,rfl⟩;go_wp2_with fail;exact qL HS.out.at_ rfl rfl rfl (iF HF.out HS.out.bel)
  have e3:decide (N<1)=false:=aep hg2;have h01:0<ch.size:=by omega
  have hgb:=get_bt ch 0 h01;have hb256:=aK ch 0;have hnl:=qf c (· != bt ch 0);have dG:Hid (R=(ak,decide (N≤(aI c (· != bt ch 0):Int))&&decide (ah c (aI c (· != bt ch 0))=c.size))):=aen (by rw[HR2.out];unfold closeD;rw[if_pos rfl,aeq ⟨hg1,by omega⟩,GY c _ hnl];rfl);clear HR2;have HRn:=aen fun W=>AX c (bt ch 0) W hcs hb256;generalize aI c (· != bt ch 0)=n at *;generalize bt ch 0=q at *;have jw:=aen fun W=>pP c n W hcs hnl;have hbb:∃bb:Bool,((ah c n:Int)==(c.size:Int))=bb∧(ah c n==c.size)=bb∧Hid (decide (ah c n=c.size)=bb):=by
   by_cases h:ah c n=c.size
   ·exact⟨true,by rw[beq_iff_eq];omega,by rw[beq_iff_eq];exact h,aen (aeq h)⟩
   ·exact⟨false,by rw[aes];omega,by rw[aes];exact h,aen (aep h)⟩
  obtain⟨bb,b1,b2,b3⟩:=hbb;rw[b3.out] at dG;clear b3;generalize ah c n=j at *;by_cases hn:N≤(n:Int)
  ·have e4:decide (N≤(n:Int))=true:=aeq hn;have HF:Hid (R=(ak,bb)):=aen (by rw[dG.out,e4];rfl);clear dG;go_enter Tryz.func134,Tryz.ntmps134;go_wp2_with fail;with_reducible refine(HI.out _).mono ?_
   rintro e w' ⟨rfl,rfl⟩;go_wp2_with fail;with_reducible refine(HRn.out _).mono ?_
   rintro e w1 ⟨rfl,rfl⟩;go_wp2_with fail;with_reducible refine(jw.out _).mono ?_
   rintro e w2 ⟨rfl,rfl⟩;go_wp2_with fail;exact qL HS.out.at_ rfl rfl rfl (iF HF.out HS.out.bel)
  ·have e4:decide (N≤(n:Int))=false:=aep hn;have HF:Hid (R=(ak,false)):=aen (by rw[dG.out,e4];rfl);clear dG;go_enter Tryz.func134,Tryz.ntmps134;go_wp2_with fail;with_reducible refine(HI.out _).mono ?_
   rintro e w' ⟨rfl,rfl⟩;go_wp2_with fail;with_reducible refine(HRn.out _).mono ?_
   rintro e w1 ⟨rfl,rfl⟩;go_wp2_with fail;exact qL HS.out.at_ rfl rfl rfl (iF HF.out HS.out.bel)
 have z7:(K==7)=false:=by rw[aes];exact h7
 by_cases h8:K=8
 ·subst h8;have HR3:Hid (R=if Lib.hasPrefix (bytesL c) [36,36]=true then oh (jq (c.extract 2 c.size)) else (ak,false)):=aen (by rw[HR2.out];unfold closeD;rw[if_neg (by decide),if_pos rfl]);clear HR2;by_cases h2:c.size<2
  ·have HF:Hid (R=(ak,false)):=aen (by
    rw[HR3.out,if_neg];intro h;have:=wW h;simp at this;omega)
   have d3:decide ((c.size:Int)<2)=true:=aeq (by omega);have d4:decide (c.size<2)=true:=aeq h2;clear HR3;go_enter Tryz.func134,Tryz.ntmps134;go_wp2_with fail;with_reducible refine(HI.out _).mono ?_
   rintro e w' ⟨rfl,rfl⟩;go_wp2_with fail;exact qL HS.out.at_ rfl rfl rfl (iF HF.out HS.out.bel)
  have h2':2≤c.size:=by omega
  have d3:decide ((c.size:Int)<2)=false:=aep (by omega);have d4:decide (c.size<2)=false:=aep h2;rw[L6 c 36 36 h2'] at HR3;generalize hX:c.extract 0 2=X at *;cases hp:(X.toList==(⟨#[36,36]⟩:ByteArray).toList)
  ·have HF:Hid (R=(ak,false)):=aen (by rw[HR3.out,hp];rfl);have hl:(⟨#[36,36]⟩:ByteArray).toList=[36,36]:=by decide +kernel
   have hp':(X.toList==[36,36])=false:=by rw[←hl];exact hp
   clear HR3;go_enter Tryz.func134,Tryz.ntmps134;go_wp2_with fail;with_reducible refine(HI.out _).mono ?_
   rintro e w' ⟨rfl,rfl⟩;go_wp2_with fail;exact qL HS.out.at_ rfl rfl rfl (iF HF.out HS.out.bel)
  ·have HA:Hid (∀W,Calls prog 183 #[.string c,.int .i64 2] W (ug (oh (qw c 2)) W)):=aen fun W=>TE c 2 W hcs h2';have dG:Hid (R=oh (qw c 2)):=aen (by rw[HR3.out,hp,QC c 2 h2'];rfl);obtain rfl:X=⟨#[36,36]⟩:=(Lib.bytes_beq_iff _ _).1 hp;have hp':((⟨#[36,36]⟩:ByteArray).toList != (⟨#[36,36]⟩:ByteArray).toList)=false:=by simp
   clear HR3 hp;generalize oh (qw c 2)=O at *;go_enter Tryz.func134,Tryz.ntmps134;go_wp2_with fail;with_reducible refine(HI.out _).mono ?_
   rintro e w' ⟨rfl,rfl⟩;go_wp2_with fail;with_reducible refine(HA.out _).mono ?_
   rintro e w1 ⟨⟨vC,vP,rfl,ho⟩,b1⟩;obtain⟨a,b⟩:=O;simp only at ho;obtain⟨AC,cC,rfl⟩:=ay ho.cls;obtain⟨AP,cP,rfl⟩:=ay ho.aH;have hC:=HS.out.next b1
   have ho':aZ w1 (w.heap.size+2) a (.slice AC a.cl.length cC) (.slice AP a.pr.length cP):=by
    have e:(Ap w #[.int .i64 8,.int .i64 N,.string ch,.int .i64 o,.string s4,.string s5,.string s6,.string s7,.string s8,.slice A9 n9 c9,.slice af n10 c10]).heap.size=w.heap.size+2:=by unfold Ap;simp
    rw[←e];exact ho
   have KW:=aen ho';obtain⟨k1,k2,a0,a1,a2,f0,f1,f2,hlt⟩:=hC.facts;have HC:=aen hC;clear b1 hC ho ho';go_wp2_with fail;have hD:=HC.out.done (.string a.id) (.slice AC a.cl.length cC) (.slice AP a.pr.length cP);exact qL hD.1 rfl rfl rfl (KU dG.out (dN (dR KW.out (tX _ _ _ _ _) (by omega)) (by omega)) hD.2)
 have z8:(K==8)=false:=by rw[aes];exact h8
 by_cases h9:K=9
 ·subst h9;have hnl:=qf c (· != 58);have dG:Hid (R=(ak,decide (1≤N)&&(decide ((aI c (· != 58):Int)=N)&&decide (ah c (aI c (· != 58))=c.size)))):=aen (by rw[HR2.out];unfold closeD;rw[if_neg (by decide),if_neg (by decide),if_pos rfl,GY c _ hnl]);clear HR2;have HRn:Hid (∀W,Calls prog 176 #[.string c,.int .i64 0,.int .u8 58] W fun e w'=>e=.returned (.int .i64 (aI c (· != 58)))∧W=w'):=aen fun W=>AX c 58 W hcs (by omega);generalize aI c (· != 58)=n at *;have jw:=aen fun W=>pP c n W hcs hnl;have hbb:∃bb:Bool,((ah c n:Int)==(c.size:Int))=bb∧(ah c n==c.size)=bb∧Hid (decide (ah c n=c.size)=bb):=by
   by_cases h:ah c n=c.size
   ·exact⟨true,by rw[beq_iff_eq];omega,by rw[beq_iff_eq];exact h,aen (aeq h)⟩
   ·exact⟨false,by rw[aes];omega,by rw[aes];exact h,aen (aep h)⟩
  obtain⟨bb,b1,b2,b3⟩:=hbb;rw[b3.out] at dG;clear b3;generalize ah c n=j at *;have kX:(decide (1≤N)=false∧Hid (R=(ak,false)))∨(decide (1≤N)=true∧((n:Int)==N)=false∧Hid (R=(ak,false)))∨(decide (1≤N)=true∧((n:Int)==N)=true∧Hid (R=(ak,bb))):=by
   by_cases g1:1≤N
   ·by_cases g2:(n:Int)=N
    ·right;right;exact⟨aeq g1,by rw[beq_iff_eq];exact g2,aen (by rw[dG.out,aeq g1,aeq g2];rfl)⟩
    ·right;left;exact⟨aeq g1,by rw[aes];exact g2,aen (by rw[dG.out,aeq g1,aep g2];rfl)⟩
   ·left;exact⟨aep g1,aen (by rw[dG.out,aep g1];rfl)⟩
  clear dG;rcases kX with ⟨g1,HF⟩|⟨g1,g2,HF⟩|⟨g1,g2,HF⟩
  ·go_enter Tryz.func134,Tryz.ntmps134;go_wp2_with fail;with_reducible refine(HI.out _).mono ?_
   rintro e w' ⟨rfl,rfl⟩;go_wp2_with fail;with_reducible refine(HRn.out _).mono ?_
   rintro e w1 ⟨rfl,rfl⟩;go_wp2_with fail;exact qL HS.out.at_ rfl rfl rfl (iF HF.out HS.out.bel)
  ·go_enter Tryz.func134,Tryz.ntmps134;go_wp2_with fail;with_reducible refine(HI.out _).mono ?_
   rintro e w' ⟨rfl,rfl⟩;go_wp2_with fail;with_reducible refine(HRn.out _).mono ?_
   rintro e w1 ⟨rfl,rfl⟩;go_wp2_with fail;exact qL HS.out.at_ rfl rfl rfl (iF HF.out HS.out.bel)
  ·go_enter Tryz.func134,Tryz.ntmps134;go_wp2_with fail;with_reducible refine(HI.out _).mono ?_
   rintro e w' ⟨rfl,rfl⟩;go_wp2_with fail;with_reducible refine(HRn.out _).mono ?_
   rintro e w1 ⟨rfl,rfl⟩;go_wp2_with fail;with_reducible refine(jw.out _).mono ?_
   rintro e w2 ⟨rfl,rfl⟩;go_wp2_with fail;exact qL HS.out.at_ rfl rfl rfl (iF HF.out HS.out.bel)
 have z9:(K==9)=false:=by rw[aes];exact h9
 have HF:Hid (R=(ak,false)):=aen (by rw[HR2.out];unfold closeD;rw[if_neg h7,if_neg h8,if_neg h9]);clear HR2;go_enter Tryz.func134,Tryz.ntmps134;go_wp2_with fail;with_reducible refine(HI.out _).mono ?_
 rintro e w' ⟨rfl,rfl⟩;go_wp2_with fail;exact qL HS.out.at_ rfl rfl rfl (iF HF.out HS.out.bel)
theorem abN(s:ByteArray)(i:Nat):sub s i s.size=sfx s i:=by
 show (sfx s i).take (s.size - i)=_;rw[List.take_of_length_le (by rw[sfx_len];exact aeo _)]
theorem abO(s:ByteArray)(i k:Nat)(h:i<k)(hk:k≤s.size)(hc:bt s (k - 1)=32):dF (sub s i k)=dF (sub s i (k - 1)):=by
 have:=xF s i (k - 1) (by omega) (by omega);rw[show k - 1+1=k by omega] at this;rw[this,(qR s _).2 hc,Oh]
theorem abP(s:ByteArray)(i k:Nat)(h:i<k)(hk:k≤s.size)(hc:bt s (k - 1)≠32):dF (sub s i k)=sub s i k:=by
 have:=xF s i (k - 1) (by omega) (by omega);rw[show k - 1+1=k by omega] at this;rw[this,Oi _ _ (fun e=>hc ((qR s _).1 e))]
theorem L8(s:ByteArray)(w:World)(hs:s.size≤1000000):Calls prog 178 #[.string s] w fun e w'=>e=.returned (.string (mk (trimS (bytesL s))))∧w=w':=by
 have hil:=kC s;have jw:Hid (∀W,Calls prog 123 #[.string s,.int .i64 0] W fun e w'=>e=.returned (.int .i64 (ah s 0))∧W=w'):=aen fun W=>pP s 0 W hs (Nat.zero_le _);have HX:Hid (dF (sub s (ah s 0) s.size)=trimS (bytesL s)):=aen (by rw[abN,←JW];rfl);generalize trimS (bytesL s)=R at *;generalize ah s 0=i at *;go_enter Tryz.func178,Tryz.ntmps178;go_wp2_with fail;with_reducible refine(jw.out _).mono ?_
 rintro e w0 ⟨rfl,rfl⟩;go_wp2_with fail;go_loop [4] (fun v=>∃k:Nat,v=.int .i64 k∧i≤k∧k≤s.size∧Hid (dF (sub s i k)=R)) (fun v=>(intOf v).toNat);case atStart=>exact⟨s.size,rfl,hil,aeo _,HX⟩
 case round=>
  obtain⟨k,rfl,hik,hks,Hk⟩:=hrel;clear HX;by_cases hlt:i<k
  ·have hlt1:k - 1<s.size:=by omega
   have hcast:((k:Int) - 1)=((k - 1:Nat):Int):=by omega
   have oM:((k:Int) - 1).toNat=k - 1:=by omega
   have y1:decide ((i:Int)<(k:Int))=true:=aeq (by omega);by_cases hc:bt s (k - 1)=32
   ·have z:(((s[k - 1].toNat:Nat):Int)==32)=true:=by rw[get_bt s _ hlt1,hc];rfl
    have HF:Hid (dF (sub s i (k - 1))=R):=aen (by rw[←Hk.out,abO s i k hlt hks hc]);clear hc;go_wp2_with fail;go_round;case rel=>exact⟨k - 1,by go_num,by omega,by omega,HF⟩
    case measure=>simp[intOf];omega
   ·have z:(((s[k - 1].toNat:Nat):Int)==32)=false:=by rw[get_bt s _ hlt1,aes];omega
    have HF:Hid (s.extract i k=mk R):=aen (by rw[←Hk.out,abP s i k hlt hks hc,←bytesL_sub,eX]);clear hc hcast oM;go_wp2_with fail;go_ret;exact⟨dX HF.out,rfl⟩
  ·obtain rfl:k=i:=by omega
   have y1:decide ((k:Int)<(k:Int))=false:=aep (by omega);have HF:Hid (ByteArray.empty=mk R):=aen (by rw[←Hk.out,sub_self];rfl);go_wp2_with fail;go_ret;exact⟨dX HF.out,rfl⟩
theorem TF(s:ByteArray)(i:Nat)(hi:i≤s.size):aT (s.extract i s.size) 1=if i<s.size∧bt s i=32 then s.extract (i+1) s.size else s.extract i s.size:=by
 rw[Kw,ext_eq,ext_eq];by_cases h:i<s.size∧bt s i=32
 ·rw[if_pos h];have h0:0<(ext s i).size:=by rw[ext_size];omega
  have h1:bt (ext s i) 0=32:=by rw[pO s i 0 (by omega)];exact h.2
  have h2:=TA (ext s i) (0+1);rw[ET _ 0 h0 h1,show min 1 (ah (ext s i) (0+1))=1 by omega];exact zh s i 1
 ·rw[if_neg h];have h1:ah (ext s i) 0=0:=by
   by_cases h0:i<s.size
   ·exact EU _ 0 (by rw[ext_size];omega) (by rw[pO s i 0 (by omega)];exact fun e=>h ⟨h0,e⟩)
   ·exact ES _ 0 (by rw[ext_size];omega)
  rw[h1];exact Tt (ext s i)
theorem GZ(s:ByteArray)(i:Nat)(w:World)(hs:s.size≤1000000)(hi:i≤s.size):Calls prog 179 #[.string s,.int .i64 i] w fun e w'=>e=.returned (.string (aT (s.extract i s.size) 1))∧w=w':=by
 have HR:=aen (TF s i hi);generalize aT (s.extract i s.size) 1=R at *;by_cases h:i<s.size
 ·have hg:=get_bt s i h;have hii:(i:Int)<(s.size:Int):=by omega
  by_cases hc:bt s i=32
  ·have HF:Hid (R=s.extract (i+1) s.size):=aen (by rw[HR.out,if_pos ⟨h,hc⟩]);have z1:(((bt s i:Nat):Int)==32)=true:=by rw[hc];rfl
   clear HR hc;go_enter Tryz.func179,Tryz.ntmps179;go_wp2_with fail;go_ret;exact⟨dX HF.out.symm,rfl⟩
  ·have HF:Hid (R=s.extract i s.size):=aen (by rw[HR.out,if_neg (fun e=>hc e.2)]);have z1:(((bt s i:Nat):Int)==32)=false:=by rw[aes];omega
   clear HR hc;go_enter Tryz.func179,Tryz.ntmps179;go_wp2_with fail;go_ret;exact⟨dX HF.out.symm,rfl⟩
 ·have HF:Hid (R=s.extract i s.size):=aen (by rw[HR.out,if_neg (fun e=>h e.1)]);have y1:decide ((i:Int)<(s.size:Int))=false:=aep (by omega);have y2:decide (i<s.size)=false:=aep h;clear HR;go_enter Tryz.func179,Tryz.ntmps179;go_wp2_with fail;go_ret;exact⟨dX HF.out.symm,rfl⟩
theorem gz{o:Option ag}{w w':World}(ho:o=none)(hb:Below w.heap.size w w'):lV (o.getD {}) w (.returned (.agg (ag.cells {} (.slice none 0 0) (.slice none 0 0)))) w':=by
 subst ho;exact⟨⟨_,rfl,fE (m:={}) rfl hb.size⟩,hb⟩
theorem rY{o:Option ag}{m:ag}{w w':World}(ho:o=some m)(ha:m.att=ak)(hb:Below w.heap.size w w'):lV (o.getD {}) w (.returned (.agg (m.cells (.slice none 0 0) (.slice none 0 0)))) w':=by
 subst ho;exact⟨⟨_,rfl,fE ha hb.size⟩,hb⟩
theorem abQ(c:ByteArray)(ind:Nat)(w:World)(hs:c.size≤1000000)(h0:0<c.size)(hi:ind≤3):Calls prog 126 #[.string c,.int .i64 ind] w (lV ((lS c ind).getD {}) w):=by
 have hg:=get_bt c 0 h0;have hsz:=PV (aA c) 1;have htz:=wR c;have HA:Hid (∀W,Calls prog 179 #[.string c,.int .i64 1] W fun e w'=>e=.returned (.string (aT (aA c) 1))∧W=w'):=aen fun W=>GZ c 1 W hs h0;have HR:Hid (lS c ind=if bt c 0=62 then some {kind:=4,off:=ind+c.size - (aT (aA c) 1).size,rest:=aT (aA c) 1} else none):=aen rfl;generalize lS c ind=R at *;generalize aT (aA c) 1=S at *;have hB:Hid (∀x y z,Below w.heap.size w (w.alloc (.cells x y z))):=aen fun _ _ _=>(aer _ w).alloc (aeo _) _;by_cases hq:bt c 0=62
 ·obtain⟨o,ho⟩:∃o,o=ind+c.size - S.size:=⟨_,rfl⟩;have hoi:(ind:Int)+(c.size:Int) - (S.size:Int)=(o:Int):=by omega
  have HF:Hid (R=some {kind:=4,off:=o,rest:=S}):=aen (by rw[HR.out,if_pos hq,ho]);have z1:(((bt c 0:Nat):Int) != 62)=false:=by rw[hq];rfl
  clear HR hq ho;go_enter Tryz.func126,Tryz.ntmps126;go_wp2_with fail;with_reducible refine(HA.out _).mono ?_
  rintro e w0 ⟨rfl,rfl⟩;go_wp2_with fail;exact PU (ae.new w _ _) rfl rfl (rY HF.out rfl (hB.out _ _ _))
 ·have HF:Hid (R=none):=aen (by rw[HR.out,if_neg hq]);have z1:(((bt c 0:Nat):Int) != 62)=true:=by rw[aeB];omega
  clear HR hq;go_enter Tryz.func126,Tryz.ntmps126;go_wp2_with fail;exact PU (ae.new w _ _) rfl rfl (gz HF.out (hB.out _ _ _))
theorem abR(c:ByteArray):jL c=if aI c (· != 36)=2∧¬(ah c 2<c.size) then some {kind:=8} else none:=by
 have hrun:=FO c (· == 36) (· != 36) (fun b=>rfl);have hall:=runF_all c (· == 36) c.size 0 (by omega);have hle:=runF_le c 0 (· == 36);rw[Nat.zero_add] at hall;unfold jL;rw[hrun];have hp:Lib.hasPrefix (bytesL c) [36,36]=true↔2≤c.size∧bt c 0=36∧bt c 1=36:=by
  constructor
  ·intro h;have hl:=wW h;have hl:2≤c.size:=hl;rw[L6 c 36 36 hl] at h;have e:=(Lib.bytes_beq_iff _ _).1 h;have e2:(bytesL c).take 2=[36,36]:=by
    have:=congrArg bytesL e;rw[wC,bytesL_mk'] at this;exact this
   have e3:=bV c 0 (by omega);have e4:=bV c (0+1) (by omega);unfold sfx at e3 e4;rw[List.drop_zero] at e3;rw[e4] at e3;rw[e3] at e2;injection e2 with a1 e2
   injection e2 with a2 _
   exact⟨hl,by unfold bt;rw[a1];rfl,by unfold bt;rw[show (1:Nat)=0+1 from rfl,a2];rfl⟩
  ·rintro ⟨hl,h0,h1⟩;have e3:=bV c 0 (by omega);have e4:=bV c (0+1) (by omega);unfold sfx at e3 e4;rw[List.drop_zero] at e3;rw[e4] at e3;have a0:c.get! 0=36:=(eY c 0 36 (by decide)).2 h0;have a1:c.get! (0+1)=36:=(eY c 1 36 (by decide)).2 h1;rw[e3,a0,a1];rfl
 by_cases h:Lib.hasPrefix (bytesL c) [36,36]=true∧aF (c.extract 2 c.size)=true
 ·rw[if_pos h];obtain⟨h1,h2⟩:=h;obtain⟨hl,b0,b1⟩:=hp.1 h1;rw[GY c 2 hl] at h2;have h2:=of_decide_eq_true h2;have hr:runF c 0 (· == 36)=2:=by
   refine runF_eq c _ 0 2 (by omega) (fun j _ hj=>?_) (fun hj=>?_)
   ·rcases (by omega:j=0∨j=1) with rfl|rfl
    ·rw[beq_iff_eq];exact b0
    ·rw[beq_iff_eq];exact b1
   ·have hsp:=(JS c 2 hl).1 h2;have e5:=bV c 2 (by omega);have:=hsp (c.get! 2) (by rw[e5];exact List.mem_cons_self ..);rw[qR] at this;rw[aes];show bt c 2≠36;omega
  rw[if_pos ⟨hr,by omega⟩]
 ·rw[if_neg h,if_neg];rintro ⟨hr,hn⟩;rw[hr] at hall hle;refine h ⟨hp.2 ⟨by omega,?_,?_⟩,?_⟩
  ·have:=hall.1 0 (by omega) (by omega);rwa [beq_iff_eq] at this
  ·have:=hall.1 1 (by omega) (by omega);rwa [beq_iff_eq] at this
  ·rw[GY c 2 (by omega)];have:=(yu c 2 (by omega)).2;exact aeq (by omega)
theorem abS(c:ByteArray)(w:World)(hs:c.size≤1000000):Calls prog 129 #[.string c] w (lV ((jL c).getD {}) w):=by
 have HRn:Hid (∀W,Calls prog 176 #[.string c,.int .i64 0,.int .u8 36] W fun e w'=>e=.returned (.int .i64 (aI c (· != 36)))∧W=w'):=aen fun W=>AX c 36 W hs (by omega);have hnl:=qf c (· != 36);have HR:=aen (abR c);generalize jL c=R at *;generalize aI c (· != 36)=n at *;have hB:Hid (∀x y z,Below w.heap.size w (w.alloc (.cells x y z))):=aen fun _ _ _=>(aer _ w).alloc (aeo _) _;by_cases h2:n=2
 ·have hl:2≤c.size:=by omega
  have jw:Hid (∀W,Calls prog 123 #[.string c,.int .i64 2] W fun e w'=>e=.returned (.int .i64 (ah c 2))∧W=w'):=aen fun W=>pP c 2 W hs hl;subst h2;generalize ah c 2=j at *;by_cases hj:j<c.size
  ·have HF:Hid (R=none):=aen (by rw[HR.out,if_neg (fun e=>e.2 hj)]);have y1:decide ((j:Int)<(c.size:Int))=true:=aeq (by omega);have y2:decide (j<c.size)=true:=aeq hj;clear HR;go_enter Tryz.func129,Tryz.ntmps129;go_wp2_with fail;with_reducible refine(HRn.out _).mono ?_
   rintro e w0 ⟨rfl,rfl⟩;go_wp2_with fail;with_reducible refine(jw.out _).mono ?_
   rintro e w0 ⟨rfl,rfl⟩;go_wp2_with fail;exact Jw (ae.new w _ _) rfl rfl (gz HF.out (hB.out _ _ _))
  ·have HF:Hid (R=some {kind:=8}):=aen (by rw[HR.out,if_pos ⟨rfl,hj⟩]);have y1:decide ((j:Int)<(c.size:Int))=false:=aep (by omega);have y2:decide (j<c.size)=false:=aep hj;clear HR;go_enter Tryz.func129,Tryz.ntmps129;go_wp2_with fail;with_reducible refine(HRn.out _).mono ?_
   rintro e w0 ⟨rfl,rfl⟩;go_wp2_with fail;with_reducible refine(jw.out _).mono ?_
   rintro e w0 ⟨rfl,rfl⟩;go_wp2_with fail;exact Jw (ae.new w _ _) rfl rfl (rY HF.out rfl (hB.out _ _ _))
 ·have HF:Hid (R=none):=aen (by rw[HR.out,if_neg (fun e=>h2 e.1)]);have y1:((n:Int) != 2)=true:=by rw[aeB];omega
  have y2:(n != 2)=true:=by rw[aeB];exact h2
  clear HR;go_enter Tryz.func129,Tryz.ntmps129;go_wp2_with fail;with_reducible refine(HRn.out _).mono ?_
  rintro e w0 ⟨rfl,rfl⟩;go_wp2_with fail;exact Jw (ae.new w _ _) rfl rfl (gz HF.out (hB.out _ _ _))
theorem Eg(b:Nat)(hb:b<256)(w:World):Calls prog 220 #[.int .u8 (b:Nat)] w fun e w'=>e=.returned (.bool (letterN b))∧w=w':=by
 have HR:Hid (letterN b=((decide (97≤b)&&decide (b≤122))||(decide (65≤b)&&decide (b≤90)))):=aen rfl;generalize letterN b=R at *;have hcase:(decide (97≤(b:Int))=true∧decide (97≤b)=true∧((decide ((b:Int)≤122)=true∧decide (b≤122)=true∧Hid (R=true))∨(decide ((b:Int)≤122)=false∧decide (b≤122)=false∧decide (65≤(b:Int))=true∧decide (65≤b)=true∧decide ((b:Int)≤90)=false∧decide (b≤90)=false∧Hid (R=false)))) ∨
  (decide (97≤(b:Int))=false∧decide (97≤b)=false∧((decide (65≤(b:Int))=false∧decide (65≤b)=false∧Hid (R=false))∨(decide (65≤(b:Int))=true∧decide (65≤b)=true∧((decide ((b:Int)≤90)=true∧decide (b≤90)=true∧Hid (R=true))∨(decide ((b:Int)≤90)=false∧decide (b≤90)=false∧Hid (R=false)))))):=by
  by_cases a1:97≤b
  ·left;refine⟨aeq (by omega),aeq a1,?_⟩;by_cases a2:b≤122
   ·left;exact⟨aeq (by omega),aeq a2,aen (by rw[HR.out,aeq a1,aeq a2];rfl)⟩
   ·right;exact⟨aep (by omega),aep a2,aeq (by omega),aeq (by omega),aep (by omega),aep (by omega),aen (by rw[HR.out,aeq a1,aep a2,aep (show ¬b≤90 by omega)];simp)⟩
  ·right;refine⟨aep (by omega),aep a1,?_⟩;by_cases a3:65≤b
   ·right;refine⟨aeq (by omega),aeq a3,?_⟩;by_cases a4:b≤90
    ·left;exact⟨aeq (by omega),aeq a4,aen (by rw[HR.out,aeq a3,aeq a4];simp)⟩
    ·right;exact⟨aep (by omega),aep a4,aen (by rw[HR.out,aep a1,aep a4];simp)⟩
   ·left;exact⟨aep (by omega),aep a3,aen (by rw[HR.out,aep a1,aep a3];simp)⟩
 clear HR;rcases hcase with ⟨a1,a1',⟨a2,a2',HF⟩|⟨a2,a2',a3,a3',a4,a4',HF⟩⟩|⟨a1,a1',⟨a3,a3',HF⟩|⟨a3,a3',⟨a4,a4',HF⟩|⟨a4,a4',HF⟩⟩⟩;all_goals
  go_enter Tryz.func220,Tryz.ntmps220;go_wp2_with fail;go_ret;exact⟨aJ HF.out.symm,rfl⟩
theorem abT(b:Nat):(letterN b=true∧bf b=true)∨(letterN b=false∧((48≤b∧b≤57∧bf b=true)∨((b<48∨57<b)∧(b=45∨b=95∨b=46∨b=58∨(b≠45∧b≠95∧b≠46∧b≠58∧bf b=false))))):=by
 cases hl:letterN b
 ·right;refine⟨rfl,?_⟩;by_cases h:48≤b∧b≤57
  ·left;exact⟨h.1,h.2,by unfold bf;rw[hl,aeq h.1,aeq h.2];rfl⟩
  ·right;refine⟨by omega,?_⟩;by_cases h45:b=45
   ·exact Or.inl h45
   by_cases h95:b=95
   ·exact Or.inr (Or.inl h95)
   by_cases h46:b=46
   ·exact Or.inr (Or.inr (Or.inl h46))
   by_cases L9:b=58
   ·exact Or.inr (Or.inr (Or.inr (Or.inl L9)))
   ·refine Or.inr (Or.inr (Or.inr (Or.inr ⟨h45,h95,h46,L9,?_⟩)));unfold bf;rw[hl,beq_eq_false_iff_ne.2 h45,beq_eq_false_iff_ne.2 h95,beq_eq_false_iff_ne.2 h46,beq_eq_false_iff_ne.2 L9];have:(decide (48≤b)&&decide (b≤57))=false:=by
     rcases (by omega:¬48≤b∨¬b≤57) with e|e
     ·rw[aep e];rfl
     ·rw[aep e,Bool.and_false]
    rw[this];rfl
 ·left;exact⟨rfl,by unfold bf;rw[hl];rfl⟩
theorem abU(s:ByteArray)(i:Nat)(w:World)(hs:s.size≤1000000)(hi:i≤s.size):Calls prog 181 #[.string s,.int .i64 i] w fun e w'=>e=.returned (.int .i64 (runF s i bf))∧w=w':=by
 have HR:Hid (∀j:Nat,j=0→j+runF s (i+j) bf=runF s i bf):=aen (by intro j hj;rw[hj,Nat.zero_add];rfl);have G4:=aen fun (b:Nat) (hb:b<256) W=>Eg b hb W;have H45:Hid (∀W,Calls prog 220 #[.int .u8 45] W fun e w'=>e=.returned (.bool false)∧W=w'):=aen fun W=>Eg 45 (by omega) W;have H95:Hid (∀W,Calls prog 220 #[.int .u8 95] W fun e w'=>e=.returned (.bool false)∧W=w'):=aen fun W=>Eg 95 (by omega) W;have H46:Hid (∀W,Calls prog 220 #[.int .u8 46] W fun e w'=>e=.returned (.bool false)∧W=w'):=aen fun W=>Eg 46 (by omega) W;have H58:Hid (∀W,Calls prog 220 #[.int .u8 58] W fun e w'=>e=.returned (.bool false)∧W=w'):=aen fun W=>Eg 58 (by omega) W;generalize runF s i bf=R at *;go_enter Tryz.func181,Tryz.ntmps181;go_wp2;go_loop [5] (fun v=>∃k:Nat,i+k≤s.size∧v=.int .i64 k∧Hid (k+runF s (i+k) bf=R)) (fun v=>s.size - (intOf v).toNat);case atStart=>exact⟨0,by omega,rfl,aen (HR.out 0 rfl)⟩
 case round=>
  obtain⟨k,hk,rfl,Hk⟩:=hrel;clear HR;have hci:((i:Int)+(k:Int))=((i+k:Nat):Int):=by omega
  have hcn:((i:Int)+(k:Int)).toNat=i+k:=by omega
  by_cases hlt:i+k<s.size
  ·have hg:=get_bt s (i+k) hlt;have hbl:=aK s (i+k);have y0:decide ((i:Int)+(k:Int)<(s.size:Int))=true:=aeq (by omega);have y0':decide (i+k<s.size)=true:=aeq hlt;have hcase:(Hid (bf (bt s (i+k))=true)∧(
    (Hid (∀W,Calls prog 220 #[.int .u8 (s[i+k].toNat:Nat)] W fun e w'=>e=.returned (.bool true)∧W=w')) ∨
    (Hid (∀W,Calls prog 220 #[.int .u8 (s[i+k].toNat:Nat)] W fun e w'=>e=.returned (.bool false)∧W=w')∧decide (48≤((s[i+k].toNat:Nat):Int))=true∧decide (48≤s[i+k].toNat)=true∧decide (((s[i+k].toNat:Nat):Int)≤57)=true∧decide (s[i+k].toNat≤57)=true) ∨
    (Hid (∀W,Calls prog 220 #[.int .u8 (s[i+k].toNat:Nat)] W fun e w'=>e=.returned (.bool false)∧W=w')∧(((s[i+k].toNat:Nat):Int)==45)=true)∨(Hid (∀W,Calls prog 220 #[.int .u8 (s[i+k].toNat:Nat)] W fun e w'=>e=.returned (.bool false)∧W=w')∧(((s[i+k].toNat:Nat):Int)==95)=true)∨(Hid (∀W,Calls prog 220 #[.int .u8 (s[i+k].toNat:Nat)] W fun e w'=>e=.returned (.bool false)∧W=w')∧(((s[i+k].toNat:Nat):Int)==46)=true)∨(Hid (∀W,Calls prog 220 #[.int .u8 (s[i+k].toNat:Nat)] W fun e w'=>e=.returned (.bool false)∧W=w')∧(((s[i+k].toNat:Nat):Int)==58)=true))) ∨
    (Hid (bf (bt s (i+k))=false)∧Hid (∀W,Calls prog 220 #[.int .u8 (s[i+k].toNat:Nat)] W fun e w'=>e=.returned (.bool false)∧W=w')∧
     ((((s[i+k].toNat:Nat):Int)==45)=false)∧((((s[i+k].toNat:Nat):Int)==95)=false)∧((((s[i+k].toNat:Nat):Int)==46)=false)∧((((s[i+k].toNat:Nat):Int)==58)=false)∧
     ((decide (48≤((s[i+k].toNat:Nat):Int))=false∧decide (48≤s[i+k].toNat)=false)∨(decide (48≤((s[i+k].toNat:Nat):Int))=true∧decide (48≤s[i+k].toNat)=true∧decide (((s[i+k].toNat:Nat):Int)≤57)=false∧decide (s[i+k].toNat≤57)=false))):=by
    rw[hg];generalize bt s (i+k)=b at *;rcases abT b with ⟨h1,h2⟩|⟨h1,⟨h2,h3,h4⟩|⟨hd,h2⟩⟩
    ·exact Or.inl ⟨aen h2,Or.inl (aen fun W=>h1 ▸ G4.out b hbl W)⟩
    ·exact Or.inl ⟨aen h4,Or.inr (Or.inl ⟨aen fun W=>h1 ▸ G4.out b hbl W,aeq (by omega),aeq h2,aeq (by omega),aeq h3⟩)⟩
    ·rcases h2 with h2|h2|h2|h2|⟨n1,n2,n3,n4,h2⟩
     ·subst h2;exact Or.inl ⟨aen (by decide),Or.inr (Or.inr (Or.inl ⟨aen fun W=>H45.out W,rfl⟩))⟩
     ·subst h2;exact Or.inl ⟨aen (by decide),Or.inr (Or.inr (Or.inr (Or.inl ⟨aen fun W=>H95.out W,rfl⟩)))⟩
     ·subst h2;exact Or.inl ⟨aen (by decide),Or.inr (Or.inr (Or.inr (Or.inr (Or.inl ⟨aen fun W=>H46.out W,rfl⟩))))⟩
     ·subst h2;exact Or.inl ⟨aen (by decide),Or.inr (Or.inr (Or.inr (Or.inr (Or.inr ⟨aen fun W=>H58.out W,rfl⟩))))⟩
     ·refine Or.inr ⟨aen h2,aen fun W=>h1 ▸ G4.out b hbl W,beq_eq_false_iff_ne.2 (by omega),beq_eq_false_iff_ne.2 (by omega),beq_eq_false_iff_ne.2 (by omega),beq_eq_false_iff_ne.2 (by omega),?_⟩;by_cases h48:48≤b
      ·exact Or.inr ⟨aeq (by omega),aeq h48,aep (by omega),aep (by omega)⟩
      ·exact Or.inl ⟨aep (by omega),aep h48⟩
   clear G4;rcases hcase with ⟨Hp,hc⟩|⟨Hp,HL,z1,z2,z3,z4,hd⟩
   ·have HF:Hid (k+1+runF s (i+(k+1)) bf=R):=aen (by rw[←Hk.out,FN s (i+k) bf hlt Hp.out];simp only[Nat.add_assoc,Nat.add_comm,Nat.add_left_comm]);clear Hp hg hbl;rcases hc with HL|⟨HL,d1,d2,d3,d4⟩|⟨HL,z⟩|⟨HL,z⟩|⟨HL,z⟩|⟨HL,z⟩;all_goals
     clear hci;go_wp2_with fail;with_reducible refine(HL.out _).mono ?_
     rintro e w0 ⟨rfl,rfl⟩;go_wp2_with fail;all_goals exact⟨⟨k+1,by omega,by go_num,HF⟩,by simp[intOf];omega⟩
   ·have HF:Hid (k=R):=aen (by rw[←Hk.out,CQ s (i+k) bf hlt Hp.out];rfl);clear Hp hg hbl;rcases hd with ⟨d1,d2⟩|⟨d1,d2,d3,d4⟩;all_goals
     clear hci;go_wp2_with fail;with_reducible refine(HL.out _).mono ?_
     rintro e w0 ⟨rfl,rfl⟩;go_wp2_with fail;go_ret;exact⟨iy (by rw[HF.out]),rfl⟩
  ·have HF:Hid (k=R):=aen (by rw[←Hk.out,CP s (i+k) bf (by omega)];rfl);have y0:decide ((i:Int)+(k:Int)<(s.size:Int))=false:=aep (by omega);have y0':decide (i+k<s.size)=false:=aep hlt;clear hci;go_wp2_with fail;go_ret;exact⟨iy (by rw[HF.out]),rfl⟩
end Go.Proofs.YtpoafhgbhnblmaaGreatDoor
