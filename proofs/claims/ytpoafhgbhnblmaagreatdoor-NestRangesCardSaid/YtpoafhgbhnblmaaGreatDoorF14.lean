import Derived.Test.YtpoafhgbhnblmaaGreatDoorF13
import Derived.Laws.EntriesVeiled
set_option linter.unusedVariables false
set_option linter.unusedSimpArgs false
set_option maxRecDepth 100000
set_option maxHeartbeats 20000000
namespace Go.Proofs.YtpoafhgbhnblmaaGreatDoor
open Go.Proofs.Tryz (prog)
open Go.RowKit
def wV(T:ByteArray)(n:Nat):Option ag:=
 if nameB (T.extract 0 (lU T))=true then (jq (T.extract (lU T) T.size)).map fun a=>{kind:=9,n:=n,info:=T.extract 0 (lU T),att:=a} else none
def kK(c:ByteArray):Option ag:=if 3≤aI c (· != 58) then wV (mk (trimS (sfx c (aI c (· != 58))))) (aI c (· != 58)) else none
theorem Qm(s:ByteArray):lU s≤s.size:=qf _ _
theorem YB(c:ByteArray)(ind:Nat)(w:World)(hs:c.size≤1000000)(h0:0<c.size):Calls prog 66 #[.string c,.int .i64 ind] w (oQ (kK c) w):=by
 have hnl:=qf c (· != 58);have HRn:Hid (∀W,Calls prog 102 #[.string c,.int .u8 58] W fun e w'=>e=.returned (.int .i64 (aI c (· != 58)))∧Below W.heap.size W w'):=aen fun W=>BV c 58 (by omega) W hs;have HR:Hid (kK c=if 3≤aI c (· != 58) then wV (mk (trimS (sfx c (aI c (· != 58))))) (aI c (· != 58)) else none):=aen rfl;generalize kK c=R at *;generalize aI c (· != 58)=n at *;by_cases h1:n<3
 ·have HF:Hid (R=none):=aen (by rw[HR.out,if_neg (by omega)]);have d1:decide ((n:Int)<3)=true:=aeq (by omega);have d2:decide (n<3)=true:=aeq h1;clear HR;go_enter Tryz.func66,Tryz.ntmps66;go_wp2_with fail;with_reducible refine(HRn.out _).mono ?_
  rintro e w' ⟨rfl,b1⟩;obtain⟨HZ,HB⟩:=dI b1;obtain⟨k0,k1,k2,k3,k4,k5,k6,k7,k8,k9,k10,y0,y1,y2,y3,y4,y5,y6,y7,y8,y9,aj⟩:=ZM.facts HZ;go_wp2_with fail;exact Jv (ax HZ _ _ _ _ _ _ _ _ _ _ _) rfl rfl rfl (eG HF.out ⟨_,_,_,_,_,_,_,_,_,_,_,_,_,_,_,rfl⟩ (au HB (aeo _) _ _ _ _ _ _ _ _ _ _ _))
 have d1:decide ((n:Int)<3)=false:=aep (by omega);have d2:decide (n<3)=false:=aep h1;have hxs:(c.extract n c.size).size≤1000000:=by rw[aex];omega
 have HX:=aen (extract_drop c n);have dZ:Hid (∀W,Calls prog 105 #[.string (c.extract n c.size)] W fun e w'=>e=.returned (.string (mk (trimS (sfx c n))))∧W=w'):=aen fun W=>by
  have h:=uT (c.extract n c.size) W hxs;rw[HX.out,bytesL_mk',←HX.out] at h;exact h
 have htz:(mk (trimS (sfx c n))).size≤1000000:=by rw[mk_size];have:=pY (sfx c n);rw[sfx_len] at this;omega
 have HR2:Hid (R=wV (mk (trimS (sfx c n))) n):=aen (by rw[HR.out,if_pos (by omega)]);clear HX HR h1;generalize mk (trimS (sfx c n))=T at *;have Qn:=aen fun W=>Yw T W htz;have hkl:=Qm T;have HR3:Hid (R=if nameB (T.extract 0 (lU T))=true then (jq (T.extract (lU T) T.size)).map fun a=>{kind:=9,n:=n,info:=T.extract 0 (lU T),att:=a} else none):=HR2;clear HR2;generalize lU T=k at *;have hNz:(T.extract 0 k).size=k:=by rw[aex];omega
 have hys:(T.extract k T.size).size≤1000000:=by rw[aex];omega
 have Ae:=aen fun W=>Ql (T.extract k T.size) W hys;generalize hN:T.extract 0 k=N at *;have gY:=aen fun W=>name_any N W (by omega);generalize jq (T.extract k T.size)=OR at *;cases hnb:nameB N
 ·have HF:Hid (R=none):=aen (by rw[HR3.out,hnb];rfl);rw[hnb] at gY;clear HR3 hnb;go_enter Tryz.func66,Tryz.ntmps66;go_wp2_with fail;with_reducible refine(HRn.out _).mono ?_
  rintro e w' ⟨rfl,b1⟩;obtain⟨HZ1,HB1⟩:=dI b1;clear b1;go_wp2_with fail;with_reducible refine(dZ.out _).mono ?_
  rintro e w0 ⟨rfl,rfl⟩;go_wp2_with fail;with_reducible refine(Qn.out _).mono ?_
  rintro e w2 ⟨rfl,b2⟩;have HZ:=ZM.below HZ1 b2;have HB:=HB1.trans (b2.mono HB1.size);clear HZ1 HB1 b2;go_wp2_with fail;with_reducible refine(gY.out _).mono ?_
  rintro e w0 ⟨rfl,rfl⟩;obtain⟨k0,k1,k2,k3,k4,k5,k6,k7,k8,k9,k10,y0,y1,y2,y3,y4,y5,y6,y7,y8,y9,aj⟩:=ZM.facts HZ;go_wp2_with fail;exact Jv (ax HZ _ _ _ _ _ _ _ _ _ _ _) rfl rfl rfl (eG HF.out ⟨_,_,_,_,_,_,_,_,_,_,_,_,_,_,_,rfl⟩ (au HB (aeo _) _ _ _ _ _ _ _ _ _ _ _))
 ·have HF:Hid (R=OR.map fun a=>{kind:=9,n:=n,info:=N,att:=a}):=aen (by rw[HR3.out,hnb];rfl);rw[hnb] at gY;clear HR3 hnb;go_enter Tryz.func66,Tryz.ntmps66;go_wp2_with fail;with_reducible refine(HRn.out _).mono ?_
  rintro e w' ⟨rfl,b1⟩;obtain⟨HZ1,HB1⟩:=dI b1;clear b1;go_wp2_with fail;with_reducible refine(dZ.out _).mono ?_
  rintro e w0 ⟨rfl,rfl⟩;go_wp2_with fail;with_reducible refine(Qn.out _).mono ?_
  rintro e w2 ⟨rfl,b2⟩;have HZ2:=ZM.below HZ1 b2;have HB2:=HB1.trans (b2.mono HB1.size);clear HZ1 HB1 b2;go_wp2_with fail;with_reducible refine(gY.out _).mono ?_
  rintro e w0 ⟨rfl,rfl⟩;go_wp2_with fail;with_reducible refine(Ae.out _).mono ?_
  rintro e w3 ⟨⟨ea,vC,vP,b,rfl,hO,hor,-⟩,b3⟩;obtain⟨qA,qc,rfl⟩:=ay hO.cls;obtain⟨qD,qd,rfl⟩:=ay hO.aH;have HF2:Hid (R=if b=true then some {kind:=9,n:=n,info:=N,att:=ea} else none):=aen (by rw[HF.out,hor];cases b <;> rfl);have HZ3:ZM (w3.alloc (.cells #[.string ea.id,.slice qA ea.cl.length qc,.slice qD ea.pr.length qd] 43)) w.heap.size:=ae.alloc (ZM.below HZ2 b3) _;have HB3:=(HB2.trans (b3.mono HB2.size)).alloc (aev HB2.size b3.size) (.cells #[.string ea.id,.slice qA ea.cl.length qc,.slice qD ea.pr.length qd] 43);have yg:Hid (aZ (w3.alloc (.cells #[.string ea.id,.slice qA ea.cl.length qc,.slice qD ea.pr.length qd] 43)) w2.heap.size ea (.slice qA ea.cl.length qc) (.slice qD ea.pr.length qd)):=aen (hO.below ((aer _ _).alloc (aeo _) _));have hlt:=aen (show w.heap.size<w2.heap.size from HZ2.lt);have vw:=ae.new w3 43 #[.string ea.id,.slice qA ea.cl.length qc,.slice qD ea.pr.length qd];have e0:=vw.cell 0;have e1:=vw.cell 1;have e2:=vw.cell 2;clear HZ2 hO b3 vw hor HF;obtain⟨k0,k1,k2,k3,k4,k5,k6,k7,k8,k9,k10,y0,y1,y2,y3,y4,y5,y6,y7,y8,y9,aj⟩:=ZM.facts HZ3;go_wp2_with fail;refine Jv (ax HZ3 _ _ _ _ _ _ _ _ _ _ _) rfl rfl rfl (wQ HF2.out (ql (m:={kind:=9,n:=n,info:=N,att:=ea}) ?_) (au HB3 (aeo _) _ _ _ _ _ _ _ _ _ _ _));exact dN (dR yg.out (aV _ _ _ _ _ _ _ _ _ _ _ _ _) hlt.out) HB2.size
def yj(X:ByteArray):Option ag:=if jB X=true∧nameB (gG X)=true∧Lib.hasPrefix (bytesL (fB X)) [58]=true then some {kind:=10,info:=gG X,off:=4,rest:=aT (aA (fB X)) 1} else none
def jC(c:ByteArray):Option ag:=if Lib.hasPrefix (bytesL c) [91,94]=true then yj (c.extract 2 c.size) else none
theorem wW{s:ByteArray}{p:List UInt8}(h:Lib.hasPrefix (bytesL s) p=true):p.length≤s.size:=by
 have:p <+: bytesL s:=by simpa [Lib.hasPrefix] using h
 have:=this.length_le
 rwa [bytesL_length] at this
theorem Qo(X:ByteArray):(gG X).size≤X.size:=by
 unfold gG;rw[mk_size,List.length_take,bytesL_length];omega
theorem Qp(X:ByteArray):(fB X).size≤X.size:=by
 unfold fB;split
 ·rw[aex];omega
 ·exact Nat.zero_le _
theorem YC(c:ByteArray)(ind:Nat)(w:World)(hs:c.size≤1000000)(h0:0<c.size):Calls prog 67 #[.string c,.int .i64 ind] w (oQ (jC c) w):=by
 have HP:Hid (∀W,Calls prog 108 #[.string c,.string ⟨#[91,94]⟩] W fun e w'=>e=.returned (.bool (Lib.hasPrefix (bytesL c) [91,94]))∧W=w'):=aen fun W=>(Tryz.strings_HasPrefix c ⟨#[91,94]⟩ W).mono fun e w' ⟨h,h'⟩=>⟨h,h'.symm⟩;have HR:Hid (jC c=if Lib.hasPrefix (bytesL c) [91,94]=true then yj (c.extract 2 c.size) else none):=aen rfl;have hl:Lib.hasPrefix (bytesL c) [91,94]=true→2≤c.size:=fun h=>wW h;generalize jC c=R at *;cases hp:Lib.hasPrefix (bytesL c) [91,94]
 ·have HF:Hid (R=none):=aen (by rw[HR.out,hp];rfl);rw[hp] at HP;clear HR hp hl;go_enter Tryz.func67,Tryz.ntmps67;go_wp2_with fail;with_reducible refine(HP.out _).mono ?_
  rintro e w' ⟨rfl,rfl⟩;go_wp2_with fail;exact Cf (ae.new w _ _) rfl rfl rfl (eG HF.out ⟨_,_,_,_,_,_,_,_,_,_,_,_,_,_,_,rfl⟩ ((aer _ w).alloc (aeo _) _))
 have h2:=hl hp;have HR2:Hid (R=yj (c.extract 2 c.size)):=aen (by rw[HR.out,hp];rfl);rw[hp] at HP;clear HR hp hl;have hxs:(c.extract 2 c.size).size≤1000000:=by rw[aex];omega
 generalize hX:c.extract 2 c.size=X at *;have HC:=aen fun W=>Qk X W hxs;have hcz:=Qo X;have hrz:=Qp X;have HR3:Hid (R=if jB X=true∧nameB (gG X)=true∧Lib.hasPrefix (bytesL (fB X)) [58]=true then some {kind:=10,info:=gG X,off:=4,rest:=aT (aA (fB X)) 1} else none):=HR2;clear HR2;unfold yh at HC;generalize jB X=cb at *;generalize gG X=N at *;generalize fB X=Y at *;have gY:=aen fun W=>name_any N W (by omega);have HP2:Hid (∀W,Calls prog 108 #[.string Y,.string ⟨#[58]⟩] W fun e w'=>e=.returned (.bool (Lib.hasPrefix (bytesL Y) [58]))∧W=w'):=aen fun W=>(Tryz.strings_HasPrefix Y ⟨#[58]⟩ W).mono fun e w' ⟨h,h'⟩=>⟨h,h'.symm⟩;have hyl:Lib.hasPrefix (bytesL Y) [58]=true→1≤Y.size:=fun h=>wW h;have hty:=wR Y;have yl:Hid (aA Y=Y.extract 1 Y.size):=aen rfl;have HS:Hid (∀W,Calls prog 107 #[.string (aA Y),.int .i64 1] W fun e w'=>e=.returned (.string (aT (aA Y) 1))∧W=w'):=aen fun W=>Fq (aA Y) 1 W (by omega) (by omega);generalize aT (aA Y) 1=S at *;rw[yl.out] at HS;clear yl hty;generalize Lib.hasPrefix (bytesL Y) [58]=pb at *;cases cb
 ·have HF:Hid (R=none):=aen (by rw[HR3.out];simp);clear HR3;go_enter Tryz.func67,Tryz.ntmps67;go_wp2_with fail;with_reducible refine(HP.out _).mono ?_
  rintro e w' ⟨rfl,rfl⟩;go_wp2_with fail;with_reducible refine(HC.out _).mono ?_
  rintro e w' ⟨rfl,b1⟩;obtain⟨HZ,HB⟩:=dI b1;obtain⟨k0,k1,k2,k3,k4,k5,k6,k7,k8,k9,k10,y0,y1,y2,y3,y4,y5,y6,y7,y8,y9,aj⟩:=ZM.facts HZ;go_wp2_with fail;exact Cf (ax HZ _ _ _ _ _ _ _ _ _ _ _) rfl rfl rfl (eG HF.out ⟨_,_,_,_,_,_,_,_,_,_,_,_,_,_,_,rfl⟩ (au HB (aeo _) _ _ _ _ _ _ _ _ _ _ _))
 cases hnb:nameB N
 ·have HF:Hid (R=none):=aen (by rw[HR3.out,hnb];simp);rw[hnb] at gY;clear HR3 hnb;go_enter Tryz.func67,Tryz.ntmps67;go_wp2_with fail;with_reducible refine(HP.out _).mono ?_
  rintro e w' ⟨rfl,rfl⟩;go_wp2_with fail;with_reducible refine(HC.out _).mono ?_
  rintro e w' ⟨rfl,b1⟩;obtain⟨HZ,HB⟩:=dI b1;clear b1;go_wp2_with fail;with_reducible refine(gY.out _).mono ?_
  rintro e w0 ⟨rfl,rfl⟩;obtain⟨k0,k1,k2,k3,k4,k5,k6,k7,k8,k9,k10,y0,y1,y2,y3,y4,y5,y6,y7,y8,y9,aj⟩:=ZM.facts HZ;go_wp2_with fail;exact Cf (ax HZ _ _ _ _ _ _ _ _ _ _ _) rfl rfl rfl (eG HF.out ⟨_,_,_,_,_,_,_,_,_,_,_,_,_,_,_,rfl⟩ (au HB (aeo _) _ _ _ _ _ _ _ _ _ _ _))
 rw[hnb] at gY;cases pb
 ·have HF:Hid (R=none):=aen (by rw[HR3.out];simp);clear HR3 hnb;go_enter Tryz.func67,Tryz.ntmps67;go_wp2_with fail;with_reducible refine(HP.out _).mono ?_
  rintro e w' ⟨rfl,rfl⟩;go_wp2_with fail;with_reducible refine(HC.out _).mono ?_
  rintro e w' ⟨rfl,b1⟩;obtain⟨HZ,HB⟩:=dI b1;clear b1;go_wp2_with fail;with_reducible refine(gY.out _).mono ?_
  rintro e w0 ⟨rfl,rfl⟩;go_wp2_with fail;with_reducible refine(HP2.out _).mono ?_
  rintro e w0 ⟨rfl,rfl⟩;obtain⟨k0,k1,k2,k3,k4,k5,k6,k7,k8,k9,k10,y0,y1,y2,y3,y4,y5,y6,y7,y8,y9,aj⟩:=ZM.facts HZ;go_wp2_with fail;exact Cf (ax HZ _ _ _ _ _ _ _ _ _ _ _) rfl rfl rfl (eG HF.out ⟨_,_,_,_,_,_,_,_,_,_,_,_,_,_,_,rfl⟩ (au HB (aeo _) _ _ _ _ _ _ _ _ _ _ _))
 ·have HF:Hid (R=some {kind:=10,info:=N,off:=4,rest:=S}):=aen (by rw[HR3.out,hnb];simp);have hy1:=hyl rfl;clear HR3 hnb hyl;go_enter Tryz.func67,Tryz.ntmps67;go_wp2_with fail;with_reducible refine(HP.out _).mono ?_
  rintro e w' ⟨rfl,rfl⟩;go_wp2_with fail;with_reducible refine(HC.out _).mono ?_
  rintro e w' ⟨rfl,b1⟩;obtain⟨HZ,HB⟩:=dI b1;clear b1;go_wp2_with fail;with_reducible refine(gY.out _).mono ?_
  rintro e w0 ⟨rfl,rfl⟩;go_wp2_with fail;with_reducible refine(HP2.out _).mono ?_
  rintro e w0 ⟨rfl,rfl⟩;go_wp2_with fail;with_reducible refine(HS.out _).mono ?_
  rintro e w0 ⟨rfl,rfl⟩;obtain⟨k0,k1,k2,k3,k4,k5,k6,k7,k8,k9,k10,y0,y1,y2,y3,y4,y5,y6,y7,y8,y9,aj⟩:=ZM.facts HZ;go_wp2_with fail;exact Cf (ax HZ _ _ _ _ _ _ _ _ _ _ _) rfl rfl rfl (rd_some HF.out (fE (m:={kind:=10,info:=N,off:=4,rest:=S}) rfl (au HB (aeo _) _ _ _ _ _ _ _ _ _ _ _).size) (au HB (aeo _) _ _ _ _ _ _ _ _ _ _ _))
def yt(l:List UInt8):List UInt8:=Lib.trimLeftB l 32
theorem Qq(c:UInt8)(l:List UInt8):yt (c :: l)=if c=32 then yt l else c :: l:=by
 unfold yt Lib.trimLeftB;by_cases h:c=32 <;> simp[h]
theorem YD(l:List UInt8):(yt l).length≤l.length:=by
 induction l with
 |nil=>simp[yt,Lib.trimLeftB]
 |cons c l ih=>rw[Qq];split <;> simp <;> omega
def cZ(s:ByteArray):ByteArray:=mk (yt (bytesL s))
theorem Qr(s:ByteArray):(cZ s).size≤s.size:=by
 unfold cZ;rw[mk_size,←bytesL_length s];exact YD _
def tY(lab:List UInt8)(r:ByteArray):Option (List UInt8 × List UInt8 × List UInt8):=
 (bI r 0).bind fun d=>
  if (cZ (r.extract d.2 r.size)).size=0 then some (lab,d.1,[])
  else if (cZ (r.extract d.2 r.size)).size=r.size - d.2 then none
  else (dD (cZ (r.extract d.2 r.size)) 0).bind fun t=>
   if (cZ ((cZ (r.extract d.2 r.size)).extract t.2 (cZ (r.extract d.2 r.size)).size)).size=0 then some (lab,d.1,t.1) else none
def FK(s:ByteArray):Option (List UInt8 × List UInt8 × List UInt8):=
 if 3<s.size - (cZ s).size then none else
 (iI (cZ s) 0).bind fun b=>
  if b.2<(cZ s).size∧bt (cZ s) b.2=58 then tY b.1 (cZ ((cZ s).extract (b.2+1) (cZ s).size)) else none
theorem Qs{s:ByteArray}{i:Nat}{r:List UInt8 × Nat}(h:iI s i=some r):i+1<r.2∧r.2≤s.size:=by
 unfold iI at h;split at h
 ·split at h
  ·rename_i h1 h2;simp only[Option.some.injEq] at h;subst h;have:=h2.1;rw[sfx_len] at this;have h3:=h1.1;exact⟨by show i+1<i+brk _+2;omega,by show i+brk _+2≤_;omega⟩
  ·simp at h
 ·simp at h
theorem Qu(s:ByteArray)(w:World):Calls prog 113 #[.string s,.string ⟨#[32]⟩] w fun e w'=>e=.returned (.string (cZ s))∧w=w':=by
 refine(Tryz.strings_TrimLeft_one s 32 (by decide) w).mono ?_;rintro e w' ⟨rfl,rfl⟩;exact⟨rfl,rfl⟩
def vF(L:ByteArray)(d:List UInt8)(A:ByteArray)(m:Nat):Option ag:=
 if A.size=0 then some {kind:=11,info:=L,dest:=mk d} else if A.size=m then none
 else match dD A 0 with
  |none=>none
  |some (t,q)=>if aF (A.extract q A.size)=true then some {kind:=11,info:=L,dest:=mk d,title:=mk t} else none
def vG(L:ByteArray)(r:ByteArray):Option ag:=
 match bI r 0 with
 |none=>none
 |some (d,p)=>vF L d (cZ (r.extract p r.size)) (r.size - p)
def jD(c:ByteArray):Option ag:=
 if bt c 0=91∧jB (aA c)=true∧Lib.hasPrefix (bytesL (fB (aA c))) [58]=true∧dK (bytesL (gG (aA c)))≠[] then vG (mk (dK (bytesL (gG (aA c))))) (cZ (aA (fB (aA c)))) else none
theorem YE(c:ByteArray)(ind:Nat)(w:World)(hs:c.size≤1000000)(h0:0<c.size):Calls prog 68 #[.string c,.int .i64 ind] w (oQ (jD c) w):=by
 have hg:=get_bt c 0 h0;have h1c:1≤c.size:=h0;have HR:Hid (jD c=if bt c 0=91∧jB (aA c)=true∧Lib.hasPrefix (bytesL (fB (aA c))) [58]=true∧dK (bytesL (gG (aA c)))≠[] then vG (mk (dK (bytesL (gG (aA c))))) (cZ (aA (fB (aA c)))) else none):=aen rfl;have hX0:aA c=c.extract 1 c.size:=rfl;have hxz:=wR c;generalize jD c=R at *;by_cases hq:bt c 0=91;case neg=>
  have z1:(((bt c 0:Nat):Int) != 91)=true:=by rw[aeB];omega
  have HF:Hid (R=none):=aen (by rw[HR.out,if_neg (fun h=>hq h.1)]);clear HR hq hX0;go_enter Tryz.func68,Tryz.ntmps68;go_wp2_with fail;exact tH (ae.new w _ _) rfl rfl rfl (eG HF.out ⟨_,_,_,_,_,_,_,_,_,_,_,_,_,_,_,rfl⟩ ((aer _ w).alloc (aeo _) _))
 have z91:(((bt c 0:Nat):Int) != 91)=false:=by rw[hq];rfl
 have HR2:Hid (R=if jB (aA c)=true∧Lib.hasPrefix (bytesL (fB (aA c))) [58]=true∧dK (bytesL (gG (aA c)))≠[] then vG (mk (dK (bytesL (gG (aA c))))) (cZ (aA (fB (aA c)))) else none):=aen (by
  rw[HR.out];by_cases h:jB (aA c)=true∧Lib.hasPrefix (bytesL (fB (aA c))) [58]=true∧dK (bytesL (gG (aA c)))≠[]
  ·rw[if_pos h,if_pos ⟨hq,h⟩]
  ·rw[if_neg h,if_neg (fun e=>h e.2)])
 clear HR hq;have HC:=aen fun W=>Qk (aA c) W (by omega);have hcz:=Qo (aA c);have hrz:=Qp (aA c);unfold yh at HC;generalize jB (aA c)=cb at *;generalize gG (aA c)=N at *;generalize fB (aA c)=Y at *;generalize aA c=X at *;rw[hX0] at HC;clear hX0;have HP2:Hid (∀W,Calls prog 108 #[.string Y,.string ⟨#[58]⟩] W fun e w'=>e=.returned (.bool (Lib.hasPrefix (bytesL Y) [58]))∧W=w'):=aen fun W=>(Tryz.strings_HasPrefix Y ⟨#[58]⟩ W).mono fun e w' ⟨h,h'⟩=>⟨h,h'.symm⟩;have hyl:Lib.hasPrefix (bytesL Y) [58]=true→1≤Y.size:=fun h=>wW h;have hty:=wR Y;have yl:Hid (aA Y=Y.extract 1 Y.size):=aen rfl;have wX:=aen fun W=>XJ N W (by omega);have wY:=aen fun W=>Qu (aA Y) W;have htz:=Qr (aA Y);have HD:=aen fun W=>XP (cZ (aA Y)) W (by omega);rw[yl.out] at wY;rw[←yl.out] at wY;generalize cZ (aA Y)=r at *;have hrs:r.size≤1000000:=by omega
 rw[yl.out] at wY;clear yl hty;generalize Lib.hasPrefix (bytesL Y) [58]=pb at *;cases cb
 ·have HF:Hid (R=none):=aen (by rw[HR2.out];simp);clear HR2;go_enter Tryz.func68,Tryz.ntmps68;go_wp2_with fail;with_reducible refine(HC.out _).mono ?_
  rintro e w1 ⟨rfl,b1⟩;obtain⟨HZ1,HB1⟩:=dI b1;clear b1;obtain⟨k0,k1,k2,k3,k4,k5,k6,k7,k8,k9,k10,y0,y1,y2,y3,y4,y5,y6,y7,y8,y9,aj⟩:=ZM.facts HZ1;go_wp2_with fail;exact tH (ax HZ1 _ _ _ _ _ _ _ _ _ _ _) rfl rfl rfl (eG HF.out ⟨_,_,_,_,_,_,_,_,_,_,_,_,_,_,_,rfl⟩ (au HB1 (aeo _) _ _ _ _ _ _ _ _ _ _ _))
 cases pb
 ·have HF:Hid (R=none):=aen (by rw[HR2.out];simp);clear HR2;go_enter Tryz.func68,Tryz.ntmps68;go_wp2_with fail;with_reducible refine(HC.out _).mono ?_
  rintro e w1 ⟨rfl,b1⟩;obtain⟨HZ1,HB1⟩:=dI b1;clear b1;go_wp2_with fail;with_reducible refine(HP2.out _).mono ?_
  rintro e w0 ⟨rfl,rfl⟩;obtain⟨k0,k1,k2,k3,k4,k5,k6,k7,k8,k9,k10,y0,y1,y2,y3,y4,y5,y6,y7,y8,y9,aj⟩:=ZM.facts HZ1;go_wp2_with fail;exact tH (ax HZ1 _ _ _ _ _ _ _ _ _ _ _) rfl rfl rfl (eG HF.out ⟨_,_,_,_,_,_,_,_,_,_,_,_,_,_,_,rfl⟩ (au HB1 (aeo _) _ _ _ _ _ _ _ _ _ _ _))
 have hy1:=hyl rfl;clear hyl;by_cases hlab:dK (bytesL N)=[]
 ·have HF:Hid (R=none):=aen (by rw[HR2.out,hlab];simp);clear HR2;rw[hlab] at wX;clear hlab;have YF:Hid (∀W,Calls prog 112 #[.string N] W fun e w'=>e=.returned (.string ⟨#[]⟩)∧Below W.heap.size W w'):=wX;clear wX;go_enter Tryz.func68,Tryz.ntmps68;go_wp2_with fail;with_reducible refine(HC.out _).mono ?_
  rintro e w1 ⟨rfl,b1⟩;obtain⟨HZ1,HB1⟩:=dI b1;clear b1;go_wp2_with fail;with_reducible refine(HP2.out _).mono ?_
  rintro e w0 ⟨rfl,rfl⟩;go_wp2_with fail;with_reducible refine(YF.out _).mono ?_
  rintro e w2 ⟨rfl,b2⟩;have HZ2:=ZM.below HZ1 b2;have HB2:=HB1.trans (b2.mono HB1.size);clear HZ1 HB1 b2;obtain⟨k0,k1,k2,k3,k4,k5,k6,k7,k8,k9,k10,y0,y1,y2,y3,y4,y5,y6,y7,y8,y9,aj⟩:=ZM.facts HZ2;go_wp2_with fail;exact tH (ax HZ2 _ _ _ _ _ _ _ _ _ _ _) rfl rfl rfl (eG HF.out ⟨_,_,_,_,_,_,_,_,_,_,_,_,_,_,_,rfl⟩ (au HB2 (aeo _) _ _ _ _ _ _ _ _ _ _ _))
 have HR3:Hid (R=vG (mk (dK (bytesL N))) r):=aen (by rw[HR2.out,if_pos ⟨rfl,rfl,hlab⟩]);obtain⟨l1,l2⟩:=iV (mk (dK (bytesL N))) (by rw[bytesL_mk'];exact hlab);clear HR2 hlab;generalize mk (dK (bytesL N))=L at *;have hdl:∀q,bI r 0=some q→q.2≤r.size:=fun q h=>by have:=IX h;omega
 have HR4:Hid (R=match bI r 0 with | none=>none | some (d,p)=>vF L d (cZ (r.extract p r.size)) (r.size - p)):=HR3;clear HR3;generalize bI r 0=DR at *;cases DR with
 |none=>
  have HF:Hid (R=none):=aen HR4.out;clear HR4 hdl;go_enter Tryz.func68,Tryz.ntmps68;go_wp2_with fail;with_reducible refine(HC.out _).mono ?_
  rintro e w1 ⟨rfl,b1⟩;obtain⟨HZ1,HB1⟩:=dI b1;clear b1;go_wp2_with fail;with_reducible refine(HP2.out _).mono ?_
  rintro e w0 ⟨rfl,rfl⟩;go_wp2_with fail;with_reducible refine(wX.out _).mono ?_
  rintro e w2 ⟨rfl,b2⟩;have HZ2:=ZM.below HZ1 b2;have HB2:=HB1.trans (b2.mono HB1.size);clear HZ1 HB1 b2;go_wp2_with fail;with_reducible refine(wY.out _).mono ?_
  rintro e w0 ⟨rfl,rfl⟩;go_wp2_with fail;with_reducible refine(HD.out _).mono ?_
  rintro e w3 ⟨rfl,b3⟩;have HZ3:=ZM.below HZ2 b3;have HB3:=HB2.trans (b3.mono HB2.size);have mW:=aen (aeA HZ2.lt b3.size);clear HZ2 HB2 b3;obtain⟨k0,k1,k2,k3,k4,k5,k6,k7,k8,k9,k10,y0,y1,y2,y3,y4,y5,y6,y7,y8,y9,aj⟩:=ZM.facts HZ3;go_wp2_with fail;exact tH (ax HZ3 _ _ _ _ _ _ _ _ _ _ _) rfl rfl rfl (eG HF.out ⟨_,_,_,_,_,_,_,_,_,_,_,_,_,_,_,rfl⟩ (au HB3 (aeo _) _ _ _ _ _ _ _ _ _ _ _))
 |some q=>
 obtain⟨d,p⟩:=q;have hpr:=hdl _ rfl;simp only at hpr;have Qv:Hid (R=vF L d (cZ (r.extract p r.size)) (r.size - p)):=aen HR4.out;clear HR4 hdl;have adT:(p:Int)≤(r.size:Int):=by omega
 have hsub:(r.size:Int) - (p:Int)=((r.size - p:Nat):Int):=by omega
 have hez:(r.extract p r.size).size≤1000000:=by rw[aex];omega
 have FM:=aen fun W=>Qu (r.extract p r.size) W;have haz:=Qr (r.extract p r.size);generalize cZ (r.extract p r.size)=A at *;generalize r.size - p=m at *;have tZ:Hid (R=if A.size=0 then some {kind:=11,info:=L,dest:=mk d} else if A.size=m then none else match dD A 0 with | none=>none | some (t,q)=>if aF (A.extract q A.size)=true then some {kind:=11,info:=L,dest:=mk d,title:=mk t} else none):=Qv;clear Qv;by_cases ha0:A.size=0
 ·have HF:Hid (R=some {kind:=11,info:=L,dest:=mk d}):=aen (by rw[tZ.out,if_pos ha0]);have e0:A=⟨#[]⟩:=by rw[←eX A,(size_nil A).1 ha0];rfl
  clear tZ ha0;subst e0;go_enter Tryz.func68,Tryz.ntmps68;go_wp2_with fail;with_reducible refine(HC.out _).mono ?_
  rintro e w1 ⟨rfl,b1⟩;obtain⟨HZ1,HB1⟩:=dI b1;clear b1;go_wp2_with fail;with_reducible refine(HP2.out _).mono ?_
  rintro e w0 ⟨rfl,rfl⟩;go_wp2_with fail;with_reducible refine(wX.out _).mono ?_
  rintro e w2 ⟨rfl,b2⟩;have HZ2:=ZM.below HZ1 b2;have HB2:=HB1.trans (b2.mono HB1.size);clear HZ1 HB1 b2;go_wp2_with fail;with_reducible refine(wY.out _).mono ?_
  rintro e w0 ⟨rfl,rfl⟩;go_wp2_with fail;with_reducible refine(HD.out _).mono ?_
  rintro e w3 ⟨rfl,b3⟩;have HZ3:=ZM.below HZ2 b3;have HB3:=HB2.trans (b3.mono HB2.size);have mW:=aen (aeA HZ2.lt b3.size);clear HZ2 HB2 b3;have gI:ZM (w3.alloc (.cells #[.int .i64 11,.int .i64 0,.string ⟨#[]⟩,.int .i64 0,.string L,.string ⟨#[]⟩,.string (mk d),.string ⟨#[]⟩,.string ⟨#[]⟩,.slice none 0 0,.slice none 0 0] 74)) w.heap.size:=ae.alloc HZ3 _;have HB4:=HB3.alloc HB3.size (.cells #[.int .i64 11,.int .i64 0,.string ⟨#[]⟩,.int .i64 0,.string L,.string ⟨#[]⟩,.string (mk d),.string ⟨#[]⟩,.string ⟨#[]⟩,.slice none 0 0,.slice none 0 0] 74);have uf:=ae.new w3 74 #[.int .i64 11,.int .i64 0,.string ⟨#[]⟩,.int .i64 0,.string L,.string ⟨#[]⟩,.string (mk d),.string ⟨#[]⟩,.string ⟨#[]⟩,.slice none 0 0,.slice none 0 0];clear HZ3 HB3;go_wp2_with fail;with_reducible refine(FM.out _).mono ?_
  rintro e w0 ⟨rfl,rfl⟩;obtain⟨g0,g1,g2,g3,g4,g5,g6,g7,g8,g9,g10,z0,z1,z2,z3,z4,z5,z6,z7,z8,z9,z10⟩:=az uf;obtain⟨k0,k1,k2,k3,k4,k5,k6,k7,k8,k9,k10,y0,y1,y2,y3,y4,y5,y6,y7,y8,y9,aj⟩:=ZM.facts gI;go_wp2_with fail;exact tH (ax gI _ _ _ _ _ _ _ _ _ _ _) rfl rfl rfl (rd_some HF.out (fE (m:={kind:=11,info:=L,dest:=mk d}) rfl (au HB4 (aeo _) _ _ _ _ _ _ _ _ _ _ _).size) (au HB4 (aeo _) _ _ _ _ _ _ _ _ _ _ _))
 rw[if_neg ha0] at tZ;obtain⟨a1,a2⟩:=iV A (fun e=>ha0 ((size_nil A).2 e));clear ha0;by_cases Af:A.size=m
 ·have HF:Hid (R=none):=aen (by rw[tZ.out,if_pos Af]);have d1:(A.size==m)=true:=by rw[beq_iff_eq];exact Af
  have d2:((A.size:Int)==(m:Int))=true:=by rw[beq_iff_eq];omega
  clear tZ Af;go_enter Tryz.func68,Tryz.ntmps68;go_wp2_with fail;with_reducible refine(HC.out _).mono ?_
  rintro e w1 ⟨rfl,b1⟩;obtain⟨HZ1,HB1⟩:=dI b1;clear b1;go_wp2_with fail;with_reducible refine(HP2.out _).mono ?_
  rintro e w0 ⟨rfl,rfl⟩;go_wp2_with fail;with_reducible refine(wX.out _).mono ?_
  rintro e w2 ⟨rfl,b2⟩;have HZ2:=ZM.below HZ1 b2;have HB2:=HB1.trans (b2.mono HB1.size);clear HZ1 HB1 b2;go_wp2_with fail;with_reducible refine(wY.out _).mono ?_
  rintro e w0 ⟨rfl,rfl⟩;go_wp2_with fail;with_reducible refine(HD.out _).mono ?_
  rintro e w3 ⟨rfl,b3⟩;have HZ3:=ZM.below HZ2 b3;have HB3:=HB2.trans (b3.mono HB2.size);have mW:=aen (aeA HZ2.lt b3.size);clear HZ2 HB2 b3;have gI:ZM (w3.alloc (.cells #[.int .i64 11,.int .i64 0,.string ⟨#[]⟩,.int .i64 0,.string L,.string ⟨#[]⟩,.string (mk d),.string ⟨#[]⟩,.string ⟨#[]⟩,.slice none 0 0,.slice none 0 0] 74)) w.heap.size:=ae.alloc HZ3 _;have HB4:=HB3.alloc HB3.size (.cells #[.int .i64 11,.int .i64 0,.string ⟨#[]⟩,.int .i64 0,.string L,.string ⟨#[]⟩,.string (mk d),.string ⟨#[]⟩,.string ⟨#[]⟩,.slice none 0 0,.slice none 0 0] 74);have uf:=ae.new w3 74 #[.int .i64 11,.int .i64 0,.string ⟨#[]⟩,.int .i64 0,.string L,.string ⟨#[]⟩,.string (mk d),.string ⟨#[]⟩,.string ⟨#[]⟩,.slice none 0 0,.slice none 0 0];clear HZ3 HB3;go_wp2_with fail;with_reducible refine(FM.out _).mono ?_
  rintro e w0 ⟨rfl,rfl⟩;obtain⟨k0,k1,k2,k3,k4,k5,k6,k7,k8,k9,k10,y0,y1,y2,y3,y4,y5,y6,y7,y8,y9,aj⟩:=ZM.facts gI;go_wp2_with fail;exact tH (ax gI _ _ _ _ _ _ _ _ _ _ _) rfl rfl rfl (eG HF.out ⟨_,_,_,_,_,_,_,_,_,_,_,_,_,_,_,rfl⟩ (au HB4 (aeo _) _ _ _ _ _ _ _ _ _ _ _))
 rw[if_neg Af] at tZ;have d1:(A.size==m)=false:=by rw[aes];exact Af
 have d2:((A.size:Int)==(m:Int))=false:=by rw[aes];omega
 clear Af;have Qw:=aen fun W=>XM A W (by omega);have htl:∀q,dD A 0=some q→q.2≤A.size:=fun q h=>by have:=IY h;omega
 generalize dD A 0=TR at *;cases TR with
 |none=>
  have HF:Hid (R=none):=aen tZ.out;clear tZ htl;go_enter Tryz.func68,Tryz.ntmps68;go_wp2_with fail;with_reducible refine(HC.out _).mono ?_
  rintro e w1 ⟨rfl,b1⟩;obtain⟨HZ1,HB1⟩:=dI b1;clear b1;go_wp2_with fail;with_reducible refine(HP2.out _).mono ?_
  rintro e w0 ⟨rfl,rfl⟩;go_wp2_with fail;with_reducible refine(wX.out _).mono ?_
  rintro e w2 ⟨rfl,b2⟩;have HZ2:=ZM.below HZ1 b2;have HB2:=HB1.trans (b2.mono HB1.size);clear HZ1 HB1 b2;go_wp2_with fail;with_reducible refine(wY.out _).mono ?_
  rintro e w0 ⟨rfl,rfl⟩;go_wp2_with fail;with_reducible refine(HD.out _).mono ?_
  rintro e w3 ⟨rfl,b3⟩;have HZ3:=ZM.below HZ2 b3;have HB3:=HB2.trans (b3.mono HB2.size);have mW:=aen (aeA HZ2.lt b3.size);clear HZ2 HB2 b3;have gI:ZM (w3.alloc (.cells #[.int .i64 11,.int .i64 0,.string ⟨#[]⟩,.int .i64 0,.string L,.string ⟨#[]⟩,.string (mk d),.string ⟨#[]⟩,.string ⟨#[]⟩,.slice none 0 0,.slice none 0 0] 74)) w.heap.size:=ae.alloc HZ3 _;have HB4:=HB3.alloc HB3.size (.cells #[.int .i64 11,.int .i64 0,.string ⟨#[]⟩,.int .i64 0,.string L,.string ⟨#[]⟩,.string (mk d),.string ⟨#[]⟩,.string ⟨#[]⟩,.slice none 0 0,.slice none 0 0] 74);have uf:=ae.new w3 74 #[.int .i64 11,.int .i64 0,.string ⟨#[]⟩,.int .i64 0,.string L,.string ⟨#[]⟩,.string (mk d),.string ⟨#[]⟩,.string ⟨#[]⟩,.slice none 0 0,.slice none 0 0];clear HZ3 HB3;go_wp2_with fail;with_reducible refine(FM.out _).mono ?_
  rintro e w0 ⟨rfl,rfl⟩;go_wp2_with fail;with_reducible refine(Qw.out _).mono ?_
  rintro e w5 ⟨rfl,b5⟩;have jR:=ZM.below gI b5;have mX:=HB4.trans (b5.mono HB4.size);have CJ:=ae.below uf b5 uf.lt;clear gI HB4 uf b5;obtain⟨g0,g1,g2,g3,g4,g5,g6,g7,g8,g9,g10,z0,z1,z2,z3,z4,z5,z6,z7,z8,z9,z10⟩:=az CJ;have nZ:ZM (w5.setCell ⟨w3.heap.size,7,none⟩ (.string ⟨#[]⟩)) w.heap.size:=ae.far jR (p:=⟨w3.heap.size,7,none⟩) (Nat.ne_of_lt mW.out) _;have qp:=mX.setCell (p:=⟨w3.heap.size,7,none⟩) (aeD mW.out) (.string ⟨#[]⟩);have JQ:ae (w5.setCell ⟨w3.heap.size,7,none⟩ (.string ⟨#[]⟩)) w3.heap.size 74 #[.int .i64 11,.int .i64 0,.string ⟨#[]⟩,.int .i64 0,.string L,.string ⟨#[]⟩,.string (mk d),.string ⟨#[]⟩,.string ⟨#[]⟩,.slice none 0 0,.slice none 0 0]:=ae.bJ CJ 7 (.string ⟨#[]⟩);go_wp2_with fail;clear g0 g1 g2 g3 g4 g5 g6 g7 g8 g9 g10 z0 z1 z2 z3 z4 z5 z6 z7 z8 z9 z10;generalize w5.setCell ⟨w3.heap.size,7,none⟩ (.string ⟨#[]⟩)=w6 at *;obtain⟨g0,g1,g2,g3,g4,g5,g6,g7,g8,g9,g10,z0,z1,z2,z3,z4,z5,z6,z7,z8,z9,z10⟩:=az JQ;obtain⟨k0,k1,k2,k3,k4,k5,k6,k7,k8,k9,k10,y0,y1,y2,y3,y4,y5,y6,y7,y8,y9,aj⟩:=ZM.facts nZ;have hne:¬w.heap.size=w3.heap.size:=Nat.ne_of_lt mW.out;refine wp_region_held_drew (S:=(fun w'=>w'.cell? ⟨w3.heap.size,0,none⟩=some (.int .i64 11)∧w'.cell? ⟨w3.heap.size,1,none⟩=some (.int .i64 0)∧w'.cell? ⟨w3.heap.size,2,none⟩=some (.string ⟨#[]⟩)∧w'.cell? ⟨w3.heap.size,3,none⟩=some (.int .i64 0)∧w'.cell? ⟨w3.heap.size,4,none⟩=some (.string L)∧w'.cell? ⟨w3.heap.size,5,none⟩=some (.string ⟨#[]⟩)∧w'.cell? ⟨w3.heap.size,6,none⟩=some (.string (mk d))∧w'.cell? ⟨w3.heap.size,7,none⟩=some (.string ⟨#[]⟩)∧w'.cell? ⟨w3.heap.size,8,none⟩=some (.string ⟨#[]⟩)∧w'.cell? ⟨w3.heap.size,9,none⟩=some (.slice none 0 0)∧w'.cell? ⟨w3.heap.size,10,none⟩=some (.slice none 0 0))) (by kernel_rfl) ⟨g0,g1,g2,g3,g4,g5,g6,g7,g8,g9,g10⟩ (fun hHeld=>?_);refine tk 0 (.agg #[.int .i64 11,.int .i64 0,.string ⟨#[]⟩,.int .i64 0,.string L,.string ⟨#[]⟩,.string (mk d),.string ⟨#[]⟩,.string ⟨#[]⟩,.slice none 0 0,.slice none 0 0]) rfl hHeld (fun W' hSw=>?_) ?_
  ·obtain⟨h0,h1,h2,h3,h4,h5,h6,h7,h8,h9,h10⟩:=hSw;go_simp
  refine tk 1 (.bool false) rfl hHeld (fun W' hSw=>?_) ?_
  ·go_simp
  refine tk 2 (.bool false) rfl hHeld (fun W' hSw=>?_) ?_
  ·go_simp
  refine wpAnyH_ready (rs:=[3,4]) (by kernel_rfl) (by simp) (AllReadyH.cons rfl (fun K hK=>?_) (AllReadyH.cons rfl (fun K hK=>?_) AllReadyH.nil))
  ·go_simp;refine hK.out _ _ hHeld (fun _=>?_);clear hK K;refine aC 4 rfl (fun K hK=>?_);go_simp;refine hK.out _ _ hHeld (fun _=>?_);clear hK K;refine aC 5 rfl (fun K hK=>?_);go_simp;refine hK.out _ _ hHeld (fun _=>?_);clear hK K;refine aC 6 rfl (fun K hK=>?_);go_simp;refine hK.out _ _ hHeld (fun _=>?_);clear hK K;refine tk 7 (.bool false) rfl hHeld (fun W' hSw=>?_) ?_
   ·go_simp
   refine aC 8 rfl (fun K hK=>?_);go_simp;refine hK.out _ _ (by go_keep) (fun hHeld=>?_);clear hK K;refine aC 9 rfl (fun K hK=>?_);go_simp;refine hK.out _ _ hHeld (fun _=>?_);clear hK K;refine wpAnyH_done (by kernel_rfl) ?_ _;go_wp2_with fail;exact tH (ae.drewN (ax nZ _ _ _ _ _ _ _ _ _ _ _) 1) rfl rfl rfl (eG HF.out ⟨_,_,_,_,_,_,_,_,_,_,_,_,_,_,_,rfl⟩ (below_drewN (au qp (Nat.le_of_eq rfl) _ _ _ _ _ _ _ _ _ _ _) 1))
  ·go_simp;refine hK.out _ _ hHeld (fun _=>?_);clear hK K;refine aC 3 rfl (fun K hK=>?_);go_simp;refine hK.out _ _ hHeld (fun _=>?_);clear hK K;refine aC 5 rfl (fun K hK=>?_);go_simp;refine hK.out _ _ hHeld (fun _=>?_);clear hK K;refine aC 6 rfl (fun K hK=>?_);go_simp;refine hK.out _ _ hHeld (fun _=>?_);clear hK K;refine tk 7 (.bool false) rfl hHeld (fun W' hSw=>?_) ?_
   ·go_simp
   refine aC 8 rfl (fun K hK=>?_);go_simp;refine hK.out _ _ (by go_keep) (fun hHeld=>?_);clear hK K;refine aC 9 rfl (fun K hK=>?_);go_simp;refine hK.out _ _ hHeld (fun _=>?_);clear hK K;refine wpAnyH_done (by kernel_rfl) ?_ _;go_wp2_with fail;exact tH (ae.drewN (ax nZ _ _ _ _ _ _ _ _ _ _ _) 1) rfl rfl rfl (eG HF.out ⟨_,_,_,_,_,_,_,_,_,_,_,_,_,_,_,rfl⟩ (below_drewN (au qp (Nat.le_of_eq rfl) _ _ _ _ _ _ _ _ _ _ _) 1))
 |some q=>
  obtain⟨t,q⟩:=q;have og:=htl _ rfl;simp only at og;have adV:(q:Int)≤(A.size:Int):=by omega
  have dm:=aen fun W=>wS (A.extract q A.size) W (by rw[aex];omega);have HF:Hid (R=if aF (A.extract q A.size)=true then some {kind:=11,info:=L,dest:=mk d,title:=mk t} else none):=aen tZ.out;clear tZ htl;generalize aF (A.extract q A.size)=bb at *;go_enter Tryz.func68,Tryz.ntmps68;go_wp2_with fail;with_reducible refine(HC.out _).mono ?_
  rintro e w1 ⟨rfl,b1⟩;obtain⟨HZ1,HB1⟩:=dI b1;clear b1;go_wp2_with fail;with_reducible refine(HP2.out _).mono ?_
  rintro e w0 ⟨rfl,rfl⟩;go_wp2_with fail;with_reducible refine(wX.out _).mono ?_
  rintro e w2 ⟨rfl,b2⟩;have HZ2:=ZM.below HZ1 b2;have HB2:=HB1.trans (b2.mono HB1.size);clear HZ1 HB1 b2;go_wp2_with fail;with_reducible refine(wY.out _).mono ?_
  rintro e w0 ⟨rfl,rfl⟩;go_wp2_with fail;with_reducible refine(HD.out _).mono ?_
  rintro e w3 ⟨rfl,b3⟩;have HZ3:=ZM.below HZ2 b3;have HB3:=HB2.trans (b3.mono HB2.size);have mW:=aen (aeA HZ2.lt b3.size);clear HZ2 HB2 b3;have gI:ZM (w3.alloc (.cells #[.int .i64 11,.int .i64 0,.string ⟨#[]⟩,.int .i64 0,.string L,.string ⟨#[]⟩,.string (mk d),.string ⟨#[]⟩,.string ⟨#[]⟩,.slice none 0 0,.slice none 0 0] 74)) w.heap.size:=ae.alloc HZ3 _;have HB4:=HB3.alloc HB3.size (.cells #[.int .i64 11,.int .i64 0,.string ⟨#[]⟩,.int .i64 0,.string L,.string ⟨#[]⟩,.string (mk d),.string ⟨#[]⟩,.string ⟨#[]⟩,.slice none 0 0,.slice none 0 0] 74);have uf:=ae.new w3 74 #[.int .i64 11,.int .i64 0,.string ⟨#[]⟩,.int .i64 0,.string L,.string ⟨#[]⟩,.string (mk d),.string ⟨#[]⟩,.string ⟨#[]⟩,.slice none 0 0,.slice none 0 0];clear HZ3 HB3;go_wp2_with fail;with_reducible refine(FM.out _).mono ?_
  rintro e w0 ⟨rfl,rfl⟩;go_wp2_with fail;with_reducible refine(Qw.out _).mono ?_
  rintro e w5 ⟨rfl,b5⟩;have jR:=ZM.below gI b5;have mX:=HB4.trans (b5.mono HB4.size);have CJ:=ae.below uf b5 uf.lt;clear gI HB4 uf b5;obtain⟨g0,g1,g2,g3,g4,g5,g6,g7,g8,g9,g10,z0,z1,z2,z3,z4,z5,z6,z7,z8,z9,z10⟩:=az CJ;have nZ:ZM (w5.setCell ⟨w3.heap.size,7,none⟩ (.string (mk t))) w.heap.size:=ae.far jR (p:=⟨w3.heap.size,7,none⟩) (Nat.ne_of_lt mW.out) _;have qp:=mX.setCell (p:=⟨w3.heap.size,7,none⟩) (aeD mW.out) (.string (mk t));have JQ:ae (w5.setCell ⟨w3.heap.size,7,none⟩ (.string (mk t))) w3.heap.size 74 #[.int .i64 11,.int .i64 0,.string ⟨#[]⟩,.int .i64 0,.string L,.string ⟨#[]⟩,.string (mk d),.string (mk t),.string ⟨#[]⟩,.slice none 0 0,.slice none 0 0]:=ae.bJ CJ 7 (.string (mk t));go_wp2_with fail;clear g0 g1 g2 g3 g4 g5 g6 g7 g8 g9 g10 z0 z1 z2 z3 z4 z5 z6 z7 z8 z9 z10;generalize w5.setCell ⟨w3.heap.size,7,none⟩ (.string (mk t))=w6 at *;obtain⟨g0,g1,g2,g3,g4,g5,g6,g7,g8,g9,g10,z0,z1,z2,z3,z4,z5,z6,z7,z8,z9,z10⟩:=az JQ;obtain⟨k0,k1,k2,k3,k4,k5,k6,k7,k8,k9,k10,y0,y1,y2,y3,y4,y5,y6,y7,y8,y9,aj⟩:=ZM.facts nZ;have hne:¬w.heap.size=w3.heap.size:=Nat.ne_of_lt mW.out;go_region_held3 (fun w'=>w'.cell? ⟨w3.heap.size,0,none⟩=some (.int .i64 11)∧w'.cell? ⟨w3.heap.size,1,none⟩=some (.int .i64 0)∧w'.cell? ⟨w3.heap.size,2,none⟩=some (.string ⟨#[]⟩)∧w'.cell? ⟨w3.heap.size,3,none⟩=some (.int .i64 0)∧w'.cell? ⟨w3.heap.size,4,none⟩=some (.string L)∧w'.cell? ⟨w3.heap.size,5,none⟩=some (.string ⟨#[]⟩)∧w'.cell? ⟨w3.heap.size,6,none⟩=some (.string (mk d))∧w'.cell? ⟨w3.heap.size,7,none⟩=some (.string (mk t))∧w'.cell? ⟨w3.heap.size,8,none⟩=some (.string ⟨#[]⟩)∧w'.cell? ⟨w3.heap.size,9,none⟩=some (.slice none 0 0)∧w'.cell? ⟨w3.heap.size,10,none⟩=some (.slice none 0 0)) (go_keep) ((go_at_call 57;refine(dm.out _).mono ?_;rintro e w' ⟨rfl,rfl⟩));all_goals go_wp2_with fail
  exact tH (ae.drewN (ax nZ _ _ _ _ _ _ _ _ _ _ _) 1) rfl rfl rfl (wQ HF.out (fE (m:={kind:=11,info:=L,dest:=mk d,title:=mk t}) rfl (below_drewN (au qp (Nat.le_of_eq rfl) _ _ _ _ _ _ _ _ _ _ _) 1).size) (below_drewN (au qp (Nat.le_of_eq rfl) _ _ _ _ _ _ _ _ _ _ _) 1))
def jd(c:ByteArray)(ind:Nat):List (Option ag):=[kH c,kJ c,lS c ind,oV c ind,jQ c ind,kG c ind,jL c,kK c,jC c,jD c]
def fH:List (Option ag)→Option ag
 | []=>none
 |some m :: _=>some m
 |none :: l=>fH l
def rq(c:ByteArray)(ind:Nat):ag:=if 3<ind then {rest:=c} else (fH (jd c ind)).getD {rest:=c}
def ai(s:ByteArray):ag:=if aF s=true then {kind:=1} else rq (s.extract (ah s 0) s.size) (ah s 0)
def lV(m:ag)(w:World)(e:Ending)(w':World):Prop:=(∃v,e=.returned v∧xX w' w.heap.size v m)∧Below w.heap.size w w'
theorem CO(s:ByteArray)(w:World)(hs:s.size≤1000000):Calls prog 38 #[.string s] w (lV (ai s) w):=by
 have hil:ah s 0≤s.size:=kC s;have hcz:(s.extract (ah s 0) s.size).size=s.size - ah s 0:=by rw[aex];omega
 have HR:Hid (ai s=if aF s=true then {kind:=1} else rq (s.extract (ah s 0) s.size) (ah s 0)):=aen rfl;have dm:=aen fun W=>wS s W hs;have HI:=aen fun W=>zT s W hs;have hbz:aF s=false→ah s 0≠s.size:=fun h=>by unfold aF at h;simpa using h
 generalize ai s=M at *;generalize aF s=b at *;generalize ah s 0=ind at *;have Qx:(ind:Int)≤(s.size:Int):=by omega
 cases b with
 |true=>
  have HF:Hid (M={kind:=1}):=aen (by rw[HR.out];rfl);clear HR hbz;go_enter Tryz.func38,Tryz.ntmps38;go_wp2_with fail;with_reducible refine(dm.out _).mono ?_
  rintro e w' ⟨rfl,rfl⟩;go_wp2_with fail;exact oU (ae.new w _ _) rfl rfl ⟨⟨_,rfl,by rw[HF.out];exact fE (m:={kind:=1}) rfl ((aer _ w).alloc (aeo _) _).size⟩,(aer _ w).alloc (aeo _) _⟩
 |false=>
  have hne:=hbz rfl;clear hbz;have HR2:Hid (M=if 3<ind then {rest:=s.extract ind s.size} else (fH (jd (s.extract ind s.size) ind)).getD {rest:=s.extract ind s.size}):=aen (by rw[HR.out];rfl);clear HR;generalize hcc:s.extract ind s.size=c at *;have h0:0<c.size:=by omega
  have hcs:c.size≤1000000:=by omega
  by_cases hi:3<ind
  ·have HF:Hid (M={rest:=c}):=aen (by rw[HR2.out,if_pos hi]);have d1:decide (3<(ind:Int))=true:=aeq (by omega);have d2:decide (3<ind)=true:=aeq hi;clear HR2;go_enter Tryz.func38,Tryz.ntmps38;go_wp2_with fail;with_reducible refine(dm.out _).mono ?_
   rintro e w' ⟨rfl,rfl⟩;go_wp2_with fail;with_reducible refine(HI.out _).mono ?_
   rintro e w' ⟨rfl,rfl⟩;go_wp2_with fail;exact oU (ae.new w _ _) rfl rfl ⟨⟨_,rfl,by rw[HF.out];exact fE (m:={rest:=c}) rfl ((aer _ w).alloc (aeo _) _).size⟩,(aer _ w).alloc (aeo _) _⟩
  have d1:decide (3<(ind:Int))=false:=aep (by omega);have d2:decide (3<ind)=false:=aep hi;have HR3:Hid (M=(fH (jd c ind)).getD {rest:=c}):=aen (by rw[HR2.out,if_neg hi]);have hi:ind≤3:=by omega
  clear HR2;have H0:=aen fun W=>Yk c ind W hcs h0;have H1:=aen fun W=>Yp c ind W hcs h0;have H2:=aen fun W=>XH c ind W hcs h0 hi;have H3:=aen fun W=>XQ c ind W hcs h0 hi;have H4:=aen fun W=>Yv c ind W hcs h0 hi;have H5:=aen fun W=>XT c ind W hcs h0 hi;have H6:=aen fun W=>XR c ind W hcs h0;have H7:=aen fun W=>YB c ind W hcs h0;have H8:=aen fun W=>YC c ind W hcs h0;have H9:=aen fun W=>YE c ind W hcs h0;have HL:Hid (jd c ind=[kH c,kJ c,lS c ind,oV c ind,jQ c ind,kG c ind,jL c,kK c,jC c,jD c]):=aen rfl;generalize jd c ind=L at *;generalize kH c=r0 at *;generalize kJ c=r1 at *;generalize lS c ind=r2 at *;generalize oV c ind=r3 at *;generalize jQ c ind=r4 at *;generalize kG c ind=r5 at *;generalize jL c=r6 at *;generalize kK c=r7 at *;generalize jC c=r8 at *;generalize jD c=r9 at *;have HG:Hid (M=(fH [r0,r1,r2,r3,r4,r5,r6,r7,r8,r9]).getD {rest:=c}):=aen (by rw[HR3.out,HL.out]);clear HR3 HL;go_enter Tryz.func38,Tryz.ntmps38;go_wp2_with fail;with_reducible refine(dm.out _).mono ?_
  rintro e w' ⟨rfl,rfl⟩;go_wp2_with fail;with_reducible refine(HI.out _).mono ?_
  rintro e w2 ⟨rfl,hw⟩;have hw':zw w=w2:=hw;have HZ2:ZM w2 w.heap.size:=hw' ▸ Cj w;have HB2:Below w.heap.size w w2:=hw' ▸ qi w;clear hw hw';go_wp2_with fail;go_loopw [24] (fun v wr=>∃k:Nat,v=.int .i64 k∧k≤10∧ZM wr w.heap.size∧Below w.heap.size w wr∧Hid (M=(fH ([r0,r1,r2,r3,r4,r5,r6,r7,r8,r9].drop k)).getD {rest:=c})) (fun v _=>10 - (intOf v).toNat);case atStart=>exact⟨0,rfl,by omega,HZ2.below ((aer _ w2).alloc (aeo _) _),HB2.alloc HB2.size _,HG⟩
  case round=>
   obtain⟨k,rfl,hk,aU,aB,Hk⟩:=hrel;clear HG;have HU:Hid (prog.underlying 88=some (.array 10 87)):=aen (by kernel_rfl);rcases (by omega:k=0∨k=1∨k=2∨k=3∨k=4∨k=5∨k=6∨k=7∨k=8∨k=9∨k=10) with rfl|rfl|rfl|rfl|rfl|rfl|rfl|rfl|rfl|rfl|rfl
   ·clear H1 H2 H3 H4 H5 H6 H7 H8 H9;have hix:∀W,(Instr.index 88 (.agg #[.func (Fn.func 59) #[] #[],.func (Fn.func 60) #[] #[],.func (Fn.func 61) #[] #[],.func (Fn.func 62) #[] #[],.func (Fn.func 63) #[] #[],.func (Fn.func 64) #[] #[],.func (Fn.func 65) #[] #[],.func (Fn.func 66) #[] #[],.func (Fn.func 67) #[] #[],.func (Fn.func 68) #[] #[]]) (.int .i64 0)).run prog W=.ok (.func (Fn.func 59) #[] #[]) W:=fun W=>by simp[Instr.index,run_underlying HU.out,asIntOf,go_sem]
    cases r0 with
    |none=>
     have HF:Hid (M=(fH [r1,r2,r3,r4,r5,r6,r7,r8,r9]).getD {rest:=c}):=aen Hk.out;clear Hk;go_wp2_with fail;with_reducible refine(H0.out _).mono ?_
     rintro e w1 ⟨⟨v,rfl,x0,x1,x2,x3,x4,x5,x6,x7,x8,A9,n9,c9,af,n10,c10,rfl⟩,b1⟩;have HZ:=ZM.below aU b1;have HB:=aB.trans (b1.mono aB.size);clear b1;go_wp2_with fail;go_round;case rel=>exact⟨1,by go_num,by omega,HZ.below ((aer _ w1).alloc (aeo _) _),HB.alloc HB.size _,HF⟩
     case measure=>simp[intOf]
    |some m=>
     have HF:Hid (M=m):=aen Hk.out;clear Hk;go_wp2_with fail;with_reducible refine(H0.out _).mono ?_
     rintro e w1 ⟨⟨v,rfl,vC,vP,rfl,hown⟩,b1⟩;have hlt:w.heap.size<wr.heap.size:=ae.lt aU;have hH:=aen (And.intro hlt hown);clear hlt;obtain⟨AC,cC,rfl⟩:=ay hown.cls;obtain⟨AP,cP,rfl⟩:=ay hown.aH;clear hown;have HZ:=ZM.below aU b1;have HB:=aB.trans (b1.mono aB.size);clear b1;have HZ2:=HZ.below ((aer _ w1).alloc (aeo _) (.cells (m.cells (.slice AC m.att.cl.length cC) (.slice AP m.att.pr.length cP)) 74));obtain⟨k0,k1,k2,k3,k4,k5,k6,k7,k8,k9,k10,y0,y1,y2,y3,y4,y5,y6,y7,y8,y9,aj⟩:=ZM.facts HZ2;unfold ag.cells at *;go_wp2_with fail;refine oU (ax HZ2 _ _ _ _ _ _ _ _ _ _ _) rfl rfl ⟨⟨_,rfl,?_⟩,au (HB.alloc HB.size _) (aeo _) _ _ _ _ _ _ _ _ _ _ _⟩;rw[HF.out];exact ql (dN (dR (dR hH.out.2 (aez _ _ (some w.heap.size)) hH.out.1) (aV _ _ _ _ _ _ _ _ _ _ _ _ _) hH.out.1) (aeD hH.out.1))
   ·clear H0 H2 H3 H4 H5 H6 H7 H8 H9;have hix:∀W,(Instr.index 88 (.agg #[.func (Fn.func 59) #[] #[],.func (Fn.func 60) #[] #[],.func (Fn.func 61) #[] #[],.func (Fn.func 62) #[] #[],.func (Fn.func 63) #[] #[],.func (Fn.func 64) #[] #[],.func (Fn.func 65) #[] #[],.func (Fn.func 66) #[] #[],.func (Fn.func 67) #[] #[],.func (Fn.func 68) #[] #[]]) (.int .i64 1)).run prog W=.ok (.func (Fn.func 60) #[] #[]) W:=fun W=>by simp[Instr.index,run_underlying HU.out,asIntOf,go_sem]
    cases r1 with
    |none=>
     have HF:Hid (M=(fH [r2,r3,r4,r5,r6,r7,r8,r9]).getD {rest:=c}):=aen Hk.out;clear Hk;go_wp2_with fail;with_reducible refine(H1.out _).mono ?_
     rintro e w1 ⟨⟨v,rfl,x0,x1,x2,x3,x4,x5,x6,x7,x8,A9,n9,c9,af,n10,c10,rfl⟩,b1⟩;have HZ:=ZM.below aU b1;have HB:=aB.trans (b1.mono aB.size);clear b1;go_wp2_with fail;go_round;case rel=>exact⟨2,by go_num,by omega,HZ.below ((aer _ w1).alloc (aeo _) _),HB.alloc HB.size _,HF⟩
     case measure=>simp[intOf]
    |some m=>
     have HF:Hid (M=m):=aen Hk.out;clear Hk;go_wp2_with fail;with_reducible refine(H1.out _).mono ?_
     rintro e w1 ⟨⟨v,rfl,vC,vP,rfl,hown⟩,b1⟩;have hlt:w.heap.size<wr.heap.size:=ae.lt aU;have hH:=aen (And.intro hlt hown);clear hlt;obtain⟨AC,cC,rfl⟩:=ay hown.cls;obtain⟨AP,cP,rfl⟩:=ay hown.aH;clear hown;have HZ:=ZM.below aU b1;have HB:=aB.trans (b1.mono aB.size);clear b1;have HZ2:=HZ.below ((aer _ w1).alloc (aeo _) (.cells (m.cells (.slice AC m.att.cl.length cC) (.slice AP m.att.pr.length cP)) 74));obtain⟨k0,k1,k2,k3,k4,k5,k6,k7,k8,k9,k10,y0,y1,y2,y3,y4,y5,y6,y7,y8,y9,aj⟩:=ZM.facts HZ2;unfold ag.cells at *;go_wp2_with fail;refine oU (ax HZ2 _ _ _ _ _ _ _ _ _ _ _) rfl rfl ⟨⟨_,rfl,?_⟩,au (HB.alloc HB.size _) (aeo _) _ _ _ _ _ _ _ _ _ _ _⟩;rw[HF.out];exact ql (dN (dR (dR hH.out.2 (aez _ _ (some w.heap.size)) hH.out.1) (aV _ _ _ _ _ _ _ _ _ _ _ _ _) hH.out.1) (aeD hH.out.1))
   ·clear H0 H1 H3 H4 H5 H6 H7 H8 H9;have hix:∀W,(Instr.index 88 (.agg #[.func (Fn.func 59) #[] #[],.func (Fn.func 60) #[] #[],.func (Fn.func 61) #[] #[],.func (Fn.func 62) #[] #[],.func (Fn.func 63) #[] #[],.func (Fn.func 64) #[] #[],.func (Fn.func 65) #[] #[],.func (Fn.func 66) #[] #[],.func (Fn.func 67) #[] #[],.func (Fn.func 68) #[] #[]]) (.int .i64 2)).run prog W=.ok (.func (Fn.func 61) #[] #[]) W:=fun W=>by simp[Instr.index,run_underlying HU.out,asIntOf,go_sem]
    cases r2 with
    |none=>
     have HF:Hid (M=(fH [r3,r4,r5,r6,r7,r8,r9]).getD {rest:=c}):=aen Hk.out;clear Hk;go_wp2_with fail;with_reducible refine(H2.out _).mono ?_
     rintro e w1 ⟨⟨v,rfl,x0,x1,x2,x3,x4,x5,x6,x7,x8,A9,n9,c9,af,n10,c10,rfl⟩,b1⟩;have HZ:=ZM.below aU b1;have HB:=aB.trans (b1.mono aB.size);clear b1;go_wp2_with fail;go_round;case rel=>exact⟨3,by go_num,by omega,HZ.below ((aer _ w1).alloc (aeo _) _),HB.alloc HB.size _,HF⟩
     case measure=>simp[intOf]
    |some m=>
     have HF:Hid (M=m):=aen Hk.out;clear Hk;go_wp2_with fail;with_reducible refine(H2.out _).mono ?_
     rintro e w1 ⟨⟨v,rfl,vC,vP,rfl,hown⟩,b1⟩;have hlt:w.heap.size<wr.heap.size:=ae.lt aU;have hH:=aen (And.intro hlt hown);clear hlt;obtain⟨AC,cC,rfl⟩:=ay hown.cls;obtain⟨AP,cP,rfl⟩:=ay hown.aH;clear hown;have HZ:=ZM.below aU b1;have HB:=aB.trans (b1.mono aB.size);clear b1;have HZ2:=HZ.below ((aer _ w1).alloc (aeo _) (.cells (m.cells (.slice AC m.att.cl.length cC) (.slice AP m.att.pr.length cP)) 74));obtain⟨k0,k1,k2,k3,k4,k5,k6,k7,k8,k9,k10,y0,y1,y2,y3,y4,y5,y6,y7,y8,y9,aj⟩:=ZM.facts HZ2;unfold ag.cells at *;go_wp2_with fail;refine oU (ax HZ2 _ _ _ _ _ _ _ _ _ _ _) rfl rfl ⟨⟨_,rfl,?_⟩,au (HB.alloc HB.size _) (aeo _) _ _ _ _ _ _ _ _ _ _ _⟩;rw[HF.out];exact ql (dN (dR (dR hH.out.2 (aez _ _ (some w.heap.size)) hH.out.1) (aV _ _ _ _ _ _ _ _ _ _ _ _ _) hH.out.1) (aeD hH.out.1))
   ·clear H0 H1 H2 H4 H5 H6 H7 H8 H9;have hix:∀W,(Instr.index 88 (.agg #[.func (Fn.func 59) #[] #[],.func (Fn.func 60) #[] #[],.func (Fn.func 61) #[] #[],.func (Fn.func 62) #[] #[],.func (Fn.func 63) #[] #[],.func (Fn.func 64) #[] #[],.func (Fn.func 65) #[] #[],.func (Fn.func 66) #[] #[],.func (Fn.func 67) #[] #[],.func (Fn.func 68) #[] #[]]) (.int .i64 3)).run prog W=.ok (.func (Fn.func 62) #[] #[]) W:=fun W=>by simp[Instr.index,run_underlying HU.out,asIntOf,go_sem]
    cases r3 with
    |none=>
     have HF:Hid (M=(fH [r4,r5,r6,r7,r8,r9]).getD {rest:=c}):=aen Hk.out;clear Hk;go_wp2_with fail;with_reducible refine(H3.out _).mono ?_
     rintro e w1 ⟨⟨v,rfl,x0,x1,x2,x3,x4,x5,x6,x7,x8,A9,n9,c9,af,n10,c10,rfl⟩,b1⟩;have HZ:=ZM.below aU b1;have HB:=aB.trans (b1.mono aB.size);clear b1;go_wp2_with fail;go_round;case rel=>exact⟨4,by go_num,by omega,HZ.below ((aer _ w1).alloc (aeo _) _),HB.alloc HB.size _,HF⟩
     case measure=>simp[intOf]
    |some m=>
     have HF:Hid (M=m):=aen Hk.out;clear Hk;go_wp2_with fail;with_reducible refine(H3.out _).mono ?_
     rintro e w1 ⟨⟨v,rfl,vC,vP,rfl,hown⟩,b1⟩;have hlt:w.heap.size<wr.heap.size:=ae.lt aU;have hH:=aen (And.intro hlt hown);clear hlt;obtain⟨AC,cC,rfl⟩:=ay hown.cls;obtain⟨AP,cP,rfl⟩:=ay hown.aH;clear hown;have HZ:=ZM.below aU b1;have HB:=aB.trans (b1.mono aB.size);clear b1;have HZ2:=HZ.below ((aer _ w1).alloc (aeo _) (.cells (m.cells (.slice AC m.att.cl.length cC) (.slice AP m.att.pr.length cP)) 74));obtain⟨k0,k1,k2,k3,k4,k5,k6,k7,k8,k9,k10,y0,y1,y2,y3,y4,y5,y6,y7,y8,y9,aj⟩:=ZM.facts HZ2;unfold ag.cells at *;go_wp2_with fail;refine oU (ax HZ2 _ _ _ _ _ _ _ _ _ _ _) rfl rfl ⟨⟨_,rfl,?_⟩,au (HB.alloc HB.size _) (aeo _) _ _ _ _ _ _ _ _ _ _ _⟩;rw[HF.out];exact ql (dN (dR (dR hH.out.2 (aez _ _ (some w.heap.size)) hH.out.1) (aV _ _ _ _ _ _ _ _ _ _ _ _ _) hH.out.1) (aeD hH.out.1))
   ·clear H0 H1 H2 H3 H5 H6 H7 H8 H9;have hix:∀W,(Instr.index 88 (.agg #[.func (Fn.func 59) #[] #[],.func (Fn.func 60) #[] #[],.func (Fn.func 61) #[] #[],.func (Fn.func 62) #[] #[],.func (Fn.func 63) #[] #[],.func (Fn.func 64) #[] #[],.func (Fn.func 65) #[] #[],.func (Fn.func 66) #[] #[],.func (Fn.func 67) #[] #[],.func (Fn.func 68) #[] #[]]) (.int .i64 4)).run prog W=.ok (.func (Fn.func 63) #[] #[]) W:=fun W=>by simp[Instr.index,run_underlying HU.out,asIntOf,go_sem]
    cases r4 with
    |none=>
     have HF:Hid (M=(fH [r5,r6,r7,r8,r9]).getD {rest:=c}):=aen Hk.out;clear Hk;go_wp2_with fail;with_reducible refine(H4.out _).mono ?_
     rintro e w1 ⟨⟨v,rfl,x0,x1,x2,x3,x4,x5,x6,x7,x8,A9,n9,c9,af,n10,c10,rfl⟩,b1⟩;have HZ:=ZM.below aU b1;have HB:=aB.trans (b1.mono aB.size);clear b1;go_wp2_with fail;go_round;case rel=>exact⟨5,by go_num,by omega,HZ.below ((aer _ w1).alloc (aeo _) _),HB.alloc HB.size _,HF⟩
     case measure=>simp[intOf]
    |some m=>
     have HF:Hid (M=m):=aen Hk.out;clear Hk;go_wp2_with fail;with_reducible refine(H4.out _).mono ?_
     rintro e w1 ⟨⟨v,rfl,vC,vP,rfl,hown⟩,b1⟩;have hlt:w.heap.size<wr.heap.size:=ae.lt aU;have hH:=aen (And.intro hlt hown);clear hlt;obtain⟨AC,cC,rfl⟩:=ay hown.cls;obtain⟨AP,cP,rfl⟩:=ay hown.aH;clear hown;have HZ:=ZM.below aU b1;have HB:=aB.trans (b1.mono aB.size);clear b1;have HZ2:=HZ.below ((aer _ w1).alloc (aeo _) (.cells (m.cells (.slice AC m.att.cl.length cC) (.slice AP m.att.pr.length cP)) 74));obtain⟨k0,k1,k2,k3,k4,k5,k6,k7,k8,k9,k10,y0,y1,y2,y3,y4,y5,y6,y7,y8,y9,aj⟩:=ZM.facts HZ2;unfold ag.cells at *;go_wp2_with fail;refine oU (ax HZ2 _ _ _ _ _ _ _ _ _ _ _) rfl rfl ⟨⟨_,rfl,?_⟩,au (HB.alloc HB.size _) (aeo _) _ _ _ _ _ _ _ _ _ _ _⟩;rw[HF.out];exact ql (dN (dR (dR hH.out.2 (aez _ _ (some w.heap.size)) hH.out.1) (aV _ _ _ _ _ _ _ _ _ _ _ _ _) hH.out.1) (aeD hH.out.1))
   ·clear H0 H1 H2 H3 H4 H6 H7 H8 H9;have hix:∀W,(Instr.index 88 (.agg #[.func (Fn.func 59) #[] #[],.func (Fn.func 60) #[] #[],.func (Fn.func 61) #[] #[],.func (Fn.func 62) #[] #[],.func (Fn.func 63) #[] #[],.func (Fn.func 64) #[] #[],.func (Fn.func 65) #[] #[],.func (Fn.func 66) #[] #[],.func (Fn.func 67) #[] #[],.func (Fn.func 68) #[] #[]]) (.int .i64 5)).run prog W=.ok (.func (Fn.func 64) #[] #[]) W:=fun W=>by simp[Instr.index,run_underlying HU.out,asIntOf,go_sem]
    cases r5 with
    |none=>
     have HF:Hid (M=(fH [r6,r7,r8,r9]).getD {rest:=c}):=aen Hk.out;clear Hk;go_wp2_with fail;with_reducible refine(H5.out _).mono ?_
     rintro e w1 ⟨⟨v,rfl,x0,x1,x2,x3,x4,x5,x6,x7,x8,A9,n9,c9,af,n10,c10,rfl⟩,b1⟩;have HZ:=ZM.below aU b1;have HB:=aB.trans (b1.mono aB.size);clear b1;go_wp2_with fail;go_round;case rel=>exact⟨6,by go_num,by omega,HZ.below ((aer _ w1).alloc (aeo _) _),HB.alloc HB.size _,HF⟩
     case measure=>simp[intOf]
    |some m=>
     have HF:Hid (M=m):=aen Hk.out;clear Hk;go_wp2_with fail;with_reducible refine(H5.out _).mono ?_
     rintro e w1 ⟨⟨v,rfl,vC,vP,rfl,hown⟩,b1⟩;have hlt:w.heap.size<wr.heap.size:=ae.lt aU;have hH:=aen (And.intro hlt hown);clear hlt;obtain⟨AC,cC,rfl⟩:=ay hown.cls;obtain⟨AP,cP,rfl⟩:=ay hown.aH;clear hown;have HZ:=ZM.below aU b1;have HB:=aB.trans (b1.mono aB.size);clear b1;have HZ2:=HZ.below ((aer _ w1).alloc (aeo _) (.cells (m.cells (.slice AC m.att.cl.length cC) (.slice AP m.att.pr.length cP)) 74));obtain⟨k0,k1,k2,k3,k4,k5,k6,k7,k8,k9,k10,y0,y1,y2,y3,y4,y5,y6,y7,y8,y9,aj⟩:=ZM.facts HZ2;unfold ag.cells at *;go_wp2_with fail;refine oU (ax HZ2 _ _ _ _ _ _ _ _ _ _ _) rfl rfl ⟨⟨_,rfl,?_⟩,au (HB.alloc HB.size _) (aeo _) _ _ _ _ _ _ _ _ _ _ _⟩;rw[HF.out];exact ql (dN (dR (dR hH.out.2 (aez _ _ (some w.heap.size)) hH.out.1) (aV _ _ _ _ _ _ _ _ _ _ _ _ _) hH.out.1) (aeD hH.out.1))
   ·clear H0 H1 H2 H3 H4 H5 H7 H8 H9;have hix:∀W,(Instr.index 88 (.agg #[.func (Fn.func 59) #[] #[],.func (Fn.func 60) #[] #[],.func (Fn.func 61) #[] #[],.func (Fn.func 62) #[] #[],.func (Fn.func 63) #[] #[],.func (Fn.func 64) #[] #[],.func (Fn.func 65) #[] #[],.func (Fn.func 66) #[] #[],.func (Fn.func 67) #[] #[],.func (Fn.func 68) #[] #[]]) (.int .i64 6)).run prog W=.ok (.func (Fn.func 65) #[] #[]) W:=fun W=>by simp[Instr.index,run_underlying HU.out,asIntOf,go_sem]
    cases r6 with
    |none=>
     have HF:Hid (M=(fH [r7,r8,r9]).getD {rest:=c}):=aen Hk.out;clear Hk;go_wp2_with fail;with_reducible refine(H6.out _).mono ?_
     rintro e w1 ⟨⟨v,rfl,x0,x1,x2,x3,x4,x5,x6,x7,x8,A9,n9,c9,af,n10,c10,rfl⟩,b1⟩;have HZ:=ZM.below aU b1;have HB:=aB.trans (b1.mono aB.size);clear b1;go_wp2_with fail;go_round;case rel=>exact⟨7,by go_num,by omega,HZ.below ((aer _ w1).alloc (aeo _) _),HB.alloc HB.size _,HF⟩
     case measure=>simp[intOf]
    |some m=>
     have HF:Hid (M=m):=aen Hk.out;clear Hk;go_wp2_with fail;with_reducible refine(H6.out _).mono ?_
     rintro e w1 ⟨⟨v,rfl,vC,vP,rfl,hown⟩,b1⟩;have hlt:w.heap.size<wr.heap.size:=ae.lt aU;have hH:=aen (And.intro hlt hown);clear hlt;obtain⟨AC,cC,rfl⟩:=ay hown.cls;obtain⟨AP,cP,rfl⟩:=ay hown.aH;clear hown;have HZ:=ZM.below aU b1;have HB:=aB.trans (b1.mono aB.size);clear b1;have HZ2:=HZ.below ((aer _ w1).alloc (aeo _) (.cells (m.cells (.slice AC m.att.cl.length cC) (.slice AP m.att.pr.length cP)) 74));obtain⟨k0,k1,k2,k3,k4,k5,k6,k7,k8,k9,k10,y0,y1,y2,y3,y4,y5,y6,y7,y8,y9,aj⟩:=ZM.facts HZ2;unfold ag.cells at *;go_wp2_with fail;refine oU (ax HZ2 _ _ _ _ _ _ _ _ _ _ _) rfl rfl ⟨⟨_,rfl,?_⟩,au (HB.alloc HB.size _) (aeo _) _ _ _ _ _ _ _ _ _ _ _⟩;rw[HF.out];exact ql (dN (dR (dR hH.out.2 (aez _ _ (some w.heap.size)) hH.out.1) (aV _ _ _ _ _ _ _ _ _ _ _ _ _) hH.out.1) (aeD hH.out.1))
   ·clear H0 H1 H2 H3 H4 H5 H6 H8 H9;have hix:∀W,(Instr.index 88 (.agg #[.func (Fn.func 59) #[] #[],.func (Fn.func 60) #[] #[],.func (Fn.func 61) #[] #[],.func (Fn.func 62) #[] #[],.func (Fn.func 63) #[] #[],.func (Fn.func 64) #[] #[],.func (Fn.func 65) #[] #[],.func (Fn.func 66) #[] #[],.func (Fn.func 67) #[] #[],.func (Fn.func 68) #[] #[]]) (.int .i64 7)).run prog W=.ok (.func (Fn.func 66) #[] #[]) W:=fun W=>by simp[Instr.index,run_underlying HU.out,asIntOf,go_sem]
    cases r7 with
    |none=>
     have HF:Hid (M=(fH [r8,r9]).getD {rest:=c}):=aen Hk.out;clear Hk;go_wp2_with fail;with_reducible refine(H7.out _).mono ?_
     rintro e w1 ⟨⟨v,rfl,x0,x1,x2,x3,x4,x5,x6,x7,x8,A9,n9,c9,af,n10,c10,rfl⟩,b1⟩;have HZ:=ZM.below aU b1;have HB:=aB.trans (b1.mono aB.size);clear b1;go_wp2_with fail;go_round;case rel=>exact⟨8,by go_num,by omega,HZ.below ((aer _ w1).alloc (aeo _) _),HB.alloc HB.size _,HF⟩
     case measure=>simp[intOf]
    |some m=>
     have HF:Hid (M=m):=aen Hk.out;clear Hk;go_wp2_with fail;with_reducible refine(H7.out _).mono ?_
     rintro e w1 ⟨⟨v,rfl,vC,vP,rfl,hown⟩,b1⟩;have hlt:w.heap.size<wr.heap.size:=ae.lt aU;have hH:=aen (And.intro hlt hown);clear hlt;obtain⟨AC,cC,rfl⟩:=ay hown.cls;obtain⟨AP,cP,rfl⟩:=ay hown.aH;clear hown;have HZ:=ZM.below aU b1;have HB:=aB.trans (b1.mono aB.size);clear b1;have HZ2:=HZ.below ((aer _ w1).alloc (aeo _) (.cells (m.cells (.slice AC m.att.cl.length cC) (.slice AP m.att.pr.length cP)) 74));obtain⟨k0,k1,k2,k3,k4,k5,k6,k7,k8,k9,k10,y0,y1,y2,y3,y4,y5,y6,y7,y8,y9,aj⟩:=ZM.facts HZ2;unfold ag.cells at *;go_wp2_with fail;refine oU (ax HZ2 _ _ _ _ _ _ _ _ _ _ _) rfl rfl ⟨⟨_,rfl,?_⟩,au (HB.alloc HB.size _) (aeo _) _ _ _ _ _ _ _ _ _ _ _⟩;rw[HF.out];exact ql (dN (dR (dR hH.out.2 (aez _ _ (some w.heap.size)) hH.out.1) (aV _ _ _ _ _ _ _ _ _ _ _ _ _) hH.out.1) (aeD hH.out.1))
   ·clear H0 H1 H2 H3 H4 H5 H6 H7 H9;have hix:∀W,(Instr.index 88 (.agg #[.func (Fn.func 59) #[] #[],.func (Fn.func 60) #[] #[],.func (Fn.func 61) #[] #[],.func (Fn.func 62) #[] #[],.func (Fn.func 63) #[] #[],.func (Fn.func 64) #[] #[],.func (Fn.func 65) #[] #[],.func (Fn.func 66) #[] #[],.func (Fn.func 67) #[] #[],.func (Fn.func 68) #[] #[]]) (.int .i64 8)).run prog W=.ok (.func (Fn.func 67) #[] #[]) W:=fun W=>by simp[Instr.index,run_underlying HU.out,asIntOf,go_sem]
    cases r8 with
    |none=>
     have HF:Hid (M=(fH [r9]).getD {rest:=c}):=aen Hk.out;clear Hk;go_wp2_with fail;with_reducible refine(H8.out _).mono ?_
     rintro e w1 ⟨⟨v,rfl,x0,x1,x2,x3,x4,x5,x6,x7,x8,A9,n9,c9,af,n10,c10,rfl⟩,b1⟩;have HZ:=ZM.below aU b1;have HB:=aB.trans (b1.mono aB.size);clear b1;go_wp2_with fail;go_round;case rel=>exact⟨9,by go_num,by omega,HZ.below ((aer _ w1).alloc (aeo _) _),HB.alloc HB.size _,HF⟩
     case measure=>simp[intOf]
    |some m=>
     have HF:Hid (M=m):=aen Hk.out;clear Hk;go_wp2_with fail;with_reducible refine(H8.out _).mono ?_
     rintro e w1 ⟨⟨v,rfl,vC,vP,rfl,hown⟩,b1⟩;have hlt:w.heap.size<wr.heap.size:=ae.lt aU;have hH:=aen (And.intro hlt hown);clear hlt;obtain⟨AC,cC,rfl⟩:=ay hown.cls;obtain⟨AP,cP,rfl⟩:=ay hown.aH;clear hown;have HZ:=ZM.below aU b1;have HB:=aB.trans (b1.mono aB.size);clear b1;have HZ2:=HZ.below ((aer _ w1).alloc (aeo _) (.cells (m.cells (.slice AC m.att.cl.length cC) (.slice AP m.att.pr.length cP)) 74));obtain⟨k0,k1,k2,k3,k4,k5,k6,k7,k8,k9,k10,y0,y1,y2,y3,y4,y5,y6,y7,y8,y9,aj⟩:=ZM.facts HZ2;unfold ag.cells at *;go_wp2_with fail;refine oU (ax HZ2 _ _ _ _ _ _ _ _ _ _ _) rfl rfl ⟨⟨_,rfl,?_⟩,au (HB.alloc HB.size _) (aeo _) _ _ _ _ _ _ _ _ _ _ _⟩;rw[HF.out];exact ql (dN (dR (dR hH.out.2 (aez _ _ (some w.heap.size)) hH.out.1) (aV _ _ _ _ _ _ _ _ _ _ _ _ _) hH.out.1) (aeD hH.out.1))
   ·clear H0 H1 H2 H3 H4 H5 H6 H7 H8;have hix:∀W,(Instr.index 88 (.agg #[.func (Fn.func 59) #[] #[],.func (Fn.func 60) #[] #[],.func (Fn.func 61) #[] #[],.func (Fn.func 62) #[] #[],.func (Fn.func 63) #[] #[],.func (Fn.func 64) #[] #[],.func (Fn.func 65) #[] #[],.func (Fn.func 66) #[] #[],.func (Fn.func 67) #[] #[],.func (Fn.func 68) #[] #[]]) (.int .i64 9)).run prog W=.ok (.func (Fn.func 68) #[] #[]) W:=fun W=>by simp[Instr.index,run_underlying HU.out,asIntOf,go_sem]
    cases r9 with
    |none=>
     have HF:Hid (M=(fH []).getD {rest:=c}):=aen Hk.out;clear Hk;go_wp2_with fail;with_reducible refine(H9.out _).mono ?_
     rintro e w1 ⟨⟨v,rfl,x0,x1,x2,x3,x4,x5,x6,x7,x8,A9,n9,c9,af,n10,c10,rfl⟩,b1⟩;have HZ:=ZM.below aU b1;have HB:=aB.trans (b1.mono aB.size);clear b1;go_wp2_with fail;go_round;case rel=>exact⟨10,by go_num,by omega,HZ.below ((aer _ w1).alloc (aeo _) _),HB.alloc HB.size _,HF⟩
     case measure=>simp[intOf]
    |some m=>
     have HF:Hid (M=m):=aen Hk.out;clear Hk;go_wp2_with fail;with_reducible refine(H9.out _).mono ?_
     rintro e w1 ⟨⟨v,rfl,vC,vP,rfl,hown⟩,b1⟩;have hlt:w.heap.size<wr.heap.size:=ae.lt aU;have hH:=aen (And.intro hlt hown);clear hlt;obtain⟨AC,cC,rfl⟩:=ay hown.cls;obtain⟨AP,cP,rfl⟩:=ay hown.aH;clear hown;have HZ:=ZM.below aU b1;have HB:=aB.trans (b1.mono aB.size);clear b1;have HZ2:=HZ.below ((aer _ w1).alloc (aeo _) (.cells (m.cells (.slice AC m.att.cl.length cC) (.slice AP m.att.pr.length cP)) 74));obtain⟨k0,k1,k2,k3,k4,k5,k6,k7,k8,k9,k10,y0,y1,y2,y3,y4,y5,y6,y7,y8,y9,aj⟩:=ZM.facts HZ2;unfold ag.cells at *;go_wp2_with fail;refine oU (ax HZ2 _ _ _ _ _ _ _ _ _ _ _) rfl rfl ⟨⟨_,rfl,?_⟩,au (HB.alloc HB.size _) (aeo _) _ _ _ _ _ _ _ _ _ _ _⟩;rw[HF.out];exact ql (dN (dR (dR hH.out.2 (aez _ _ (some w.heap.size)) hH.out.1) (aV _ _ _ _ _ _ _ _ _ _ _ _ _) hH.out.1) (aeD hH.out.1))
   ·have HF:Hid (M={rest:=c}):=aen Hk.out;obtain⟨k0,k1,k2,k3,k4,k5,k6,k7,k8,k9,k10,y0,y1,y2,y3,y4,y5,y6,y7,y8,y9,aj⟩:=ZM.facts aU;go_wp2_with fail;exact oU (ax aU _ _ _ _ _ _ _ _ _ _ _) rfl rfl ⟨⟨_,rfl,by rw[HF.out];exact fE (m:={rest:=c}) rfl (au aB (aeo _) _ _ _ _ _ _ _ _ _ _ _).size⟩,au aB (aeo _) _ _ _ _ _ _ _ _ _ _ _⟩
def cntW(p:Nat→Bool):List UInt8→Nat
 | []=>0
 |c :: l=>if p c.toNat=true then cntW p l+1 else 0
def runF(s:ByteArray)(i:Nat)(p:Nat→Bool):Nat:=cntW p (sfx s i)
theorem CP(s:ByteArray)(i:Nat)(p:Nat→Bool)(h:s.size≤i):runF s i p=0:=by unfold runF;rw[kU s i h];rfl
theorem FN(s:ByteArray)(i:Nat)(p:Nat→Bool)(h:i<s.size)(hp:p (bt s i)=true):runF s i p=runF s (i+1) p+1:=by
 unfold runF;rw[bV s i h];show (if p (bt s i)=true then _ else _)=_;rw[if_pos hp]
theorem CQ(s:ByteArray)(i:Nat)(p:Nat→Bool)(h:i<s.size)(hp:p (bt s i)=false):runF s i p=0:=by
 unfold runF;rw[bV s i h];show (if p (bt s i)=true then _ else _)=_;rw[if_neg (by rw[hp];exact Bool.false_ne_true)]
theorem cntW_le(p:Nat→Bool):∀l:List UInt8,cntW p l≤l.length
 | []=>aeo _
 |c :: l=>by unfold cntW;have:=cntW_le p l;split <;> simp <;> omega
theorem runF_le(s:ByteArray)(i:Nat)(p:Nat→Bool):runF s i p≤s.size - i:=by
 unfold runF;have:=cntW_le p (sfx s i);rwa [sfx_len] at this
theorem runF_all(s:ByteArray)(p:Nat→Bool):∀(n i:Nat),s.size - i≤n→(∀j,i≤j→j<i+runF s i p→p (bt s j)=true)∧(i+runF s i p<s.size→p (bt s (i+runF s i p))=false)
 |0,i,h=>by
  rw[CP s i p (by omega)];exact⟨fun j h1 h2=>by omega,fun h1=>by omega⟩
 |n+1,i,h=>by
  by_cases hi:i<s.size
  ·cases hp:p (bt s i)
   ·rw[CQ s i p hi hp];exact⟨fun j h1 h2=>by omega,fun _=>hp⟩
   ·have ih:=runF_all s p n (i+1) (by omega);rw[FN s i p hi hp];rw[show i+(runF s (i+1) p+1)=i+1+runF s (i+1) p by omega];refine⟨fun j h1 h2=>?_,ih.2⟩;by_cases hj:j=i
    ·subst hj;exact hp
    ·exact ih.1 j (by omega) h2
  ·rw[CP s i p (by omega)];exact⟨fun j h1 h2=>by omega,fun h1=>by omega⟩
theorem FO(s:ByteArray)(p q:Nat→Bool)(hpq:∀b,q b=!p b):aI s q=runF s 0 p:=by
 have h:=runF_all s p s.size 0 (by omega);have hl:=runF_le s 0 p;rw[Nat.zero_add] at h;refine xG s q _ (by omega) (fun j hj=>?_) (fun hj=>?_)
 ·rw[hpq,h.1 j (Nat.zero_le _) hj];rfl
 ·rw[hpq,h.2 hj];rfl
theorem runF_eq(s:ByteArray)(p:Nat→Bool)(i n:Nat)(h:i+n≤s.size)(h1:∀j,i≤j→j<i+n→p (bt s j)=true)(h2:i+n<s.size→p (bt s (i+n))=false):runF s i p=n:=by
 have k:=runF_all s p s.size i (by omega);have hl:=runF_le s i p;rcases Nat.lt_trichotomy (runF s i p) n with h3|h3|h3
 ·have e1:=k.2 (by omega);rw[h1 _ (by omega) (by omega)] at e1;cases e1
 ·exact h3
 ·have e1:=k.1 (i+n) (by omega) (by omega);rw[h2 (by omega)] at e1;cases e1
theorem Qy:∀l:List UInt8,pX l=cntW (· == 32) l
 | []=>rfl
 |c :: l=>by
  unfold pX cntW;rw[Qy l];by_cases h:c=32
  ·subst h;rfl
  ·rw[if_neg h,if_neg];intro e;rw[beq_iff_eq] at e;exact h ((IA c 32 (by decide)).2 e)
theorem JR(s:ByteArray)(i:Nat):ah s i=i+runF s i (· == 32):=by unfold ah runF;rw[Qy]
theorem yu(s:ByteArray)(i:Nat)(h:i≤s.size):i≤ah s i∧ah s i≤s.size:=by
 rw[JR];have:=runF_le s i (· == 32);omega
theorem JS(s:ByteArray)(i:Nat)(h:i≤s.size):ah s i=s.size↔∀b∈sfx s i,b=32:=by
 have k:=runF_all s (· == 32) s.size i (by omega);have hl:=runF_le s i (· == 32);rw[JR];constructor
 ·intro e b hb;obtain⟨j,hj,rfl⟩:=List.mem_iff_getElem.1 hb;rw[sfx_len] at hj;have e1:=k.1 (i+j) (by omega) (by omega);rw[beq_iff_eq] at e1;have e2:(sfx s i)[j]?=some (s.get! (i+j)):=by
   unfold sfx;rw[List.getElem?_drop];exact BP s (i+j) (by omega)
  rw[List.getElem?_eq_getElem (by rw[sfx_len];exact hj)] at e2;injection e2 with e2
  rw[e2];exact(qR s _).2 e1
 ·intro hb;rcases Nat.lt_or_ge (i+runF s i (· == 32)) s.size with h1|h1
  ·have e1:=k.2 h1;rw[aes] at e1;refine absurd ((qR s _).1 (hb _ ?_)) e1;refine List.mem_iff_getElem?.2 ⟨runF s i (· == 32),?_⟩;unfold sfx;rw[List.getElem?_drop];exact BP s _ h1
  ·omega
theorem Qz:∀l:List UInt8,(∀b∈l,b=32)→trimF l=[]
 | [],_=>rfl
 |c :: l,h=>by
  rw[h c (List.mem_cons_self ..),wH];exact Qz l fun b hb=>h b (List.mem_cons_of_mem _ hb)
theorem QA:∀l:List UInt8,∃r,l=r++trimF l∧∀b∈r,b=32
 | []=>⟨[],rfl,fun b h=>by cases h⟩
 |c :: l=>by
  by_cases h:c=32
  ·subst h;obtain⟨r,h1,h2⟩:=QA l;refine⟨32 :: r,by rw[wH];exact congrArg (32 :: ·) h1,fun b hb=>?_⟩;rcases List.mem_cons.1 hb with rfl|hb
   ·rfl
   ·exact h2 b hb
  ·exact⟨[],by rw[zN _ _ h];rfl,fun b h=>by cases h⟩
theorem JU(l:List UInt8):∃r,l=dF l++r∧∀b∈r,b=32:=by
 obtain⟨r,h1,h2⟩:=QA l.reverse;refine⟨r.reverse,?_,fun b hb=>h2 b (List.mem_reverse.1 hb)⟩;unfold dF;have:=congrArg List.reverse h1;rw[List.reverse_reverse,List.reverse_append] at this;exact this
theorem QB:∀(r p:List UInt8),(∀b∈r,b=32)→p.getLast?≠some 32→dF (p++r)=p:=by
 intro r p hr hp;unfold dF;rw[List.reverse_append];have e:∀(a b:List UInt8),(∀x∈a,x=32)→b.head?≠some 32→(a++b).dropWhile (· == 32)=b:=by
  intro a;induction a with
  |nil=>
   intro b _ hb;cases b with
   |nil=>rfl
   |cons c b=>exact List.dropWhile_cons_of_neg (by simpa using hb)
  |cons c a ih=>
   intro b ha hb;rw[ha c (List.mem_cons_self ..)];show ((32:UInt8) :: (a++b)).dropWhile _=_;rw[List.dropWhile_cons_of_pos (by decide)];exact ih b (fun x hx=>ha x (List.mem_cons_of_mem _ hx)) hb
 rw[e _ _ (fun x hx=>hr x (List.mem_reverse.1 hx)) (by rw[List.head?_reverse];exact hp),List.reverse_reverse]
theorem JV(s:ByteArray)(k:Nat):trimF (sfx s k)=sfx s (ah s k):=by
 rw[BD];unfold ah sfx;rw[List.drop_drop]
theorem JW(s:ByteArray)(k:Nat):trimS (sfx s k)=dF (sfx s (ah s k)):=by unfold trimS;rw[JV]
def qw(c:ByteArray)(k:Nat):Option AttrL:=
 if ah c k=c.size then some ak else if (aN c (ah c k)).2.2=0∧¬(ah c (aN c (ah c k)).2.1<c.size) then some (aN c (ah c k)).1 else none
theorem YG(s:ByteArray)(i t:Nat)(h1:i<t)(h2:t≤s.size):(sub s i t).getLast?=some (s.get! (t - 1)):=by
 have:=xF s i (t - 1) (by omega) (by omega);rw[show t - 1+1=t by omega] at this;rw[this,List.getLast?_concat]
theorem YH(s:ByteArray)(i t:Nat)(h1:i≤t):sfx s i=sub s i t++sfx s t:=by
 have:=List.take_append_drop (t - i) (sfx s i);unfold sub;rw[←B5] at this;rw[show i+(t - i)=t by omega] at this;exact this.symm
theorem YI(s:ByteArray)(i t:Nat)(h1:i≤t)(h2:t≤s.size):(sub s i t).length=t - i:=by
 unfold sub;rw[List.length_take,List.length_drop,bytesL_length];omega
theorem JX{s:ByteArray}{i t:Nat}(h:(aN s i).2.2=0)(ht:(aN s i).2.1=t):aN s i=((aN s i).1,t,0):=by rw[←h,←ht]
theorem QC(c:ByteArray)(k:Nat)(hk:k≤c.size):jq (c.extract k c.size)=qw c k:=by
 have hb:=yu c k hk;have hX:bytesL (c.extract k c.size)=sfx c k:=by rw[extract_drop,bytesL_mk']
 unfold jq qw;rw[hX,JW];generalize hi:ah c k=i at *;obtain⟨r,hr,CS⟩:=JU (sfx c i);have hhd:(sfx c i).head?≠some 32:=by
  have:=Ol (sfx c k)
  rwa [JV,hi] at this
 generalize hT:dF (sfx c i)=T at *;have JY:(mk T).size=T.length:=mk_size T;have hlen:=congrArg List.length hr;rw[sfx_len,aey] at hlen;have hiff:(mk T).size=0↔i=c.size:=by
  rw[JY];constructor
  ·intro h0;have:T=[]:=List.length_eq_zero_iff.1 h0;subst this;cases r with
   |nil=>simp at hlen;omega
   |cons x r=>
    rw[hr] at hhd;refine absurd ?_ hhd;show some x=some 32;rw[CS x (List.mem_cons_self ..)]
  ·intro h0;omega
 by_cases h0:i=c.size
 ·rw[if_pos (hiff.2 h0),if_pos h0]
 ·rw[if_neg (fun h=>h0 (hiff.1 h)),if_neg h0];have ha:fM c i (mk T) 0 T.length:=⟨T,r,[],hr,by unfold sfx;rw[bytesL_mk'];simp,rfl⟩;by_cases h1:(aN (mk T) 0).2.2=0∧(aN (mk T) 0).2.1=(mk T).size
  ·have hp:=Fe ha.symm (A:=(aN (mk T) 0).1) (by
    show aN (mk T) 0=_;rw[Nat.zero_add,←JY];exact JX (s:=mk T) (i:=0) h1.1 h1.2)
   rw[if_pos h1,hp,if_pos];refine⟨rfl,?_⟩;have e:i+T.length≤c.size:=by omega
   have:ah c (i+T.length)=c.size:=(JS c _ e).2 fun b hb=>CS b (by
    rwa [Vj hr] at hb)
   show ¬(ah c (i+T.length)<c.size);omega
  ·rw[if_neg h1,if_neg];rintro ⟨g1,g2⟩;apply h1;have hp:=JX g1 rfl;generalize (aN c i).1=A at *;generalize (aN c i).2.1=t at *;obtain⟨p1,p2,p3,p4,p5⟩:=Jr hp;have hbt:=yu c t p2;have hall:=(JS c t p2).1 (by omega);have hT2:T=sub c i t:=by
    rw[←hT,YH c i t (by omega)];refine QB _ _ hall ?_;rw[YG c i t p1 p2];intro e;injection e with e
    rw[qR] at e;omega
   have hTl:T.length=t - i:=by rw[hT2];exact YI c i t (by omega) p2
   have hm:=Fe ha (A:=A) (by rw[hp];congr 2;omega);rw[show ((0:Nat):Int)=0 from rfl] at hm;rw[hm];exact⟨rfl,by rw[JY];exact Nat.zero_add _⟩
end Go.Proofs.YtpoafhgbhnblmaaGreatDoor
