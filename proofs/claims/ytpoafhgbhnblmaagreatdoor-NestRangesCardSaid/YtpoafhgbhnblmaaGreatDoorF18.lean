import Derived.Test.YtpoafhgbhnblmaaGreatDoorF17
import Derived.Test.YtpoafhgbhnblmaaGreatDoorF15
set_option linter.unusedVariables false
set_option linter.unusedSimpArgs false
set_option maxRecDepth 100000
set_option maxHeartbeats 20000000
namespace Go.Proofs.YtpoafhgbhnblmaaGreatDoor
open Go.RowKit
theorem aaa(s:ByteArray):jS s.size (ja s).2:=by
 unfold ja;split
 ·exact QG s _
 ·exact mY _
theorem Ky(s:ByteArray)(k:Nat):(mk (trimS (sfx s k))).size≤s.size:=by
 rw[mk_size];have h1:=pY (sfx s k);rw[sfx_len] at h1;omega
theorem aab{c:ByteArray}{m:ag}(h:kH c=some m):jS c.size m.att∧m.off=0:=by
 unfold kH at h;generalize aI c (· != 35)=n at h;by_cases h1:1≤n∧n≤6
 ·rw[if_pos h1] at h;by_cases h2:fF (c.extract n c.size)=true
  ·rw[if_pos h2] at h;injection h with h
   subst h;exact⟨FW (aaa _) (Ky c n),rfl⟩
  ·rw[if_neg h2] at h;cases h
 ·rw[if_neg h1] at h;cases h
theorem aac{c:ByteArray}{m:ag}(h:kK c=some m):jS c.size m.att∧m.off=0:=by
 unfold kK at h;generalize aI c (· != 58)=n at h;by_cases h1:3≤n
 ·rw[if_pos h1] at h;have hz:=Ky c n;generalize mk (trimS (sfx c n))=T at h hz;unfold wV at h;by_cases h2:nameB (T.extract 0 (lU T))=true
  ·rw[if_pos h2] at h;cases ho:jq (T.extract (lU T) T.size) with
   |none=>rw[ho] at h;cases h
   |some a=>
    rw[ho] at h;injection h with h
    subst h;exact⟨FW (Y1 _ _ ho) (aev (yC _ _ _) hz),rfl⟩
  ·rw[if_neg h2] at h;cases h
 ·rw[if_neg h1] at h;cases h
theorem aad{c:ByteArray}{m:ag}(h:kJ c=some m):m.att=ak∧m.off=0:=by
 unfold kJ at h;split at h
 ·split at h
  ·injection h with h;subst h;exact⟨rfl,rfl⟩
  ·cases h
 ·cases h
theorem Q8{c:ByteArray}{ind:Nat}{m:ag}(h:kG c ind=some m):m.att=ak∧m.off=ind:=by
 unfold kG at h;split at h
 ·split at h
  ·injection h with h;subst h;exact⟨rfl,rfl⟩
  ·cases h
 ·cases h
theorem aae{c:ByteArray}{m:ag}(h:jL c=some m):m.att=ak∧m.off=0:=by
 unfold jL at h;split at h
 ·injection h with h;subst h;exact⟨rfl,rfl⟩
 ·cases h
theorem aaf{L:ByteArray}{d:List UInt8}{A:ByteArray}{n:Nat}{m:ag}(h:vF L d A n=some m):m.att=ak∧m.off=0:=by
 unfold vF at h;by_cases h1:A.size=0
 ·rw[if_pos h1] at h;injection h with h;subst h;exact⟨rfl,rfl⟩
 rw[if_neg h1] at h;by_cases h2:A.size=n
 ·rw[if_pos h2] at h;cases h
 rw[if_neg h2] at h;generalize dD A 0=o at h;cases o with
 |none=>cases h
 |some p=>
  obtain⟨t,q⟩:=p;simp only at h;by_cases h3:aF (A.extract q A.size)=true
  ·rw[if_pos h3] at h;injection h with h;subst h;exact⟨rfl,rfl⟩
  ·rw[if_neg h3] at h;cases h
theorem aag{c:ByteArray}{m:ag}(h:jD c=some m):m.att=ak∧m.off=0:=by
 unfold jD at h;by_cases h1:bt c 0=91∧jB (aA c)=true∧Lib.hasPrefix (bytesL (fB (aA c))) [58]=true∧dK (bytesL (gG (aA c)))≠[]
 ·rw[if_pos h1] at h;unfold vG at h;generalize bI _ 0=o at h;cases o with
  |none=>cases h
  |some p=>exact aaf h
 ·rw[if_neg h1] at h;cases h
theorem aah{c:ByteArray}{ind:Nat}{m:ag}(h:jQ c ind=some m):m.att=ak∧m.off≤ind+11:=by
 unfold jQ nY at h;generalize qo c=k at h;generalize jP c k=v at h;by_cases h1:(1≤k∧k≤9∧k<c.size)∧(bt c k=46∨bt c k=41)
 ·rw[if_pos h1] at h;by_cases h2:fF (c.extract (k+1) c.size)=true
  ·rw[if_pos h2] at h;injection h with h
   subst h;exact⟨rfl,by show ind+k+2≤_;omega⟩
  ·rw[if_neg h2] at h;cases h
 ·rw[if_neg h1] at h;cases h
theorem aai(c:ByteArray)(ind:Nat)(hi:ind≤3)(m:ag)(h:some m∈jd c ind):jS c.size m.att∧m.off≤c.size+14:=by
 have E:∀{n:Nat},m.att=ak→jS n m.att:=fun e=>by rw[e];exact mY _
 unfold jd at h;simp only[List.mem_cons,List.not_mem_nil,or_false] at h;rcases h with h|h|h|h|h|h|h|h|h|h
 ·obtain⟨h1,h2⟩:=aab h.symm;exact⟨h1,by omega⟩
 ·obtain⟨h1,h2⟩:=aad h.symm;exact⟨E h1,by omega⟩
 ·obtain⟨_,rfl⟩:=Ah h.symm;exact⟨mY _,by show ind+c.size - _≤_;omega⟩
 ·have:=Dc h.symm;subst this;exact⟨mY _,by show ind+2≤_;omega⟩
 ·obtain⟨h1,h2⟩:=aah h.symm;exact⟨E h1,by omega⟩
 ·obtain⟨h1,h2⟩:=Q8 h.symm;exact⟨E h1,by omega⟩
 ·obtain⟨h1,h2⟩:=aae h.symm;exact⟨E h1,by omega⟩
 ·obtain⟨h1,h2⟩:=aac h.symm;exact⟨h1,by omega⟩
 ·obtain⟨_,rfl⟩:=Ai h.symm;exact⟨mY _,by show 4≤_;omega⟩
 ·obtain⟨h1,h2⟩:=aag h.symm;exact⟨E h1,by omega⟩
theorem Dj(s:ByteArray):jS s.size (ai s).att∧(ai s).off≤s.size+14:=by
 unfold ai;by_cases hb:aF s=true
 ·rw[if_pos hb];exact⟨mY _,Nat.zero_le _⟩
 rw[if_neg hb];unfold rq;by_cases h3:3<ah s 0
 ·rw[if_pos h3];exact⟨mY _,Nat.zero_le _⟩
 rw[if_neg h3];cases hf:fH (jd (s.extract (ah s 0) s.size) (ah s 0)) with
 |none=>exact⟨mY _,Nat.zero_le _⟩
 |some m=>
  obtain⟨h1,h2⟩:=aai _ _ (by omega) m (Aj _ _ hf);have hz:=yC s (ah s 0) s.size;exact⟨FW h1 hz,by show m.off≤_;omega⟩
theorem aaj{c:ByteArray}{ind:Nat}{m:ag}(h:jQ c ind=some m):m.info.size≤c.size:=by
 unfold jQ nY at h;generalize qo c=k at h;generalize jP c k=v at h;by_cases h1:(1≤k∧k≤9∧k<c.size)∧(bt c k=46∨bt c k=41)
 ·rw[if_pos h1] at h;by_cases h2:fF (c.extract (k+1) c.size)=true
  ·rw[if_pos h2] at h;injection h with h
   subst h;show (c.extract 0 k).size≤c.size;rw[aex];omega
  ·rw[if_neg h2] at h;cases h
 ·rw[if_neg h1] at h;cases h
theorem aak(c:ByteArray)(ind:Nat)(m:ag)(h:some m∈jd c ind)(h6:m.kind=6):m.info.size≤c.size:=by
 unfold jd at h;simp only[List.mem_cons,List.not_mem_nil,or_false] at h;rcases h with h|h|h|h|h|h|h|h|h|h
 ·have:=CY h.symm;omega
 ·have:=CZ h.symm;omega
 ·obtain⟨_,rfl⟩:=Ah h.symm;exact absurd h6 (by decide:(4:Nat)≠6)
 ·have:=Dc h.symm;subst this;exact absurd h6 (by decide:(5:Nat)≠6)
 ·exact aaj h.symm
 ·have:=Gf h.symm;omega
 ·have:=Df h.symm;omega
 ·have:=Dh h.symm;omega
 ·obtain⟨_,rfl⟩:=Ai h.symm;exact absurd h6 (by decide:(10:Nat)≠6)
 ·have:=Di h.symm;omega
theorem KD(s:ByteArray)(h6:(ai s).kind=6):(ai s).info.size≤s.size:=by
 unfold ai at h6 ⊢;by_cases hb:aF s=true
 ·rw[if_pos hb] at h6;exact absurd h6 (by decide:(1:Nat)≠6)
 rw[if_neg hb] at h6 ⊢;unfold rq at h6 ⊢;by_cases h3:3<ah s 0
 ·rw[if_pos h3] at h6;exact absurd h6 (by decide:(0:Nat)≠6)
 rw[if_neg h3] at h6 ⊢;cases hf:fH (jd (s.extract (ah s 0) s.size) (ah s 0)) with
 |none=>rw[hf] at h6;exact absurd h6 (by decide:(0:Nat)≠6)
 |some m=>
  rw[hf] at h6;exact aev (aak _ _ m (Aj _ _ hf) h6) (yC s (ah s 0) s.size)
theorem yE{m:ag}{w w':World}{e:Ending}(h:lV m w e w'):∃A c D d,e=.returned (.agg (m.cells (.slice A m.att.cl.length c) (.slice D m.att.pr.length d)))∧Below w.heap.size w w':=by
 obtain⟨⟨_,rfl,C,P,rfl,o⟩,b⟩:=h;obtain⟨A,c,rfl⟩:=ay o.cls;obtain⟨D,d,rfl⟩:=ay o.aH;exact⟨A,c,D,d,rfl,b⟩
theorem Q9{c:ByteArray}{ind:Nat}{m:ag}(h:jQ c ind=some m):m.kind=6:=by
 unfold jQ nY at h;generalize qo c=k at h;generalize jP c k=v at h;by_cases h1:(1≤k∧k≤9∧k<c.size)∧(bt c k=46∨bt c k=41)
 ·rw[if_pos h1] at h;by_cases h2:fF (c.extract (k+1) c.size)=true
  ·rw[if_pos h2] at h;injection h with h
   subst h;rfl
  ·rw[if_neg h2] at h;cases h
 ·rw[if_neg h1] at h;cases h
theorem aal(c:ByteArray)(ind:Nat)(m:ag)(h:some m∈jd c ind):2≤m.kind∧m.kind≤11:=by
 unfold jd at h;simp only[List.mem_cons,List.not_mem_nil,or_false] at h;rcases h with h|h|h|h|h|h|h|h|h|h
 ·have:=CY h.symm;omega
 ·have:=CZ h.symm;omega
 ·obtain⟨_,rfl⟩:=Ah h.symm;exact(by decide:2≤(4:Nat)∧(4:Nat)≤11)
 ·have:=Dc h.symm;subst this;exact(by decide:2≤(5:Nat)∧(5:Nat)≤11)
 ·have:=Q9 h.symm;omega
 ·have:=Gf h.symm;omega
 ·have:=Df h.symm;omega
 ·have:=Dh h.symm;omega
 ·obtain⟨_,rfl⟩:=Ai h.symm;exact(by decide:2≤(10:Nat)∧(10:Nat)≤11)
 ·have:=Di h.symm;omega
theorem KE(s:ByteArray):(aF s=true→(ai s).kind=1)∧(aF s=false→(ai s).kind=0∨2≤(ai s).kind∧(ai s).kind≤11):=by
 unfold ai;refine⟨fun h=>by rw[if_pos h],fun h=>?_⟩;rw[if_neg (by rw[h];exact Bool.false_ne_true)];unfold rq;by_cases h3:3<ah s 0
 ·rw[if_pos h3];exact .inl rfl
 rw[if_neg h3];cases hf:fH (jd (s.extract (ah s 0) s.size) (ah s 0)) with
 |none=>exact .inl rfl
 |some m=>exact .inr (aal _ _ m (Aj _ _ hf))
theorem aam(s:ByteArray)(h7:(ai s).kind=7):(ai s).off=ah s 0:=by
 unfold ai at h7 ⊢;by_cases hb:aF s=true
 ·rw[if_pos hb] at h7;exact absurd h7 (by decide:(1:Nat)≠7)
 rw[if_neg hb] at h7 ⊢;unfold rq at h7 ⊢;by_cases h3:3<ah s 0
 ·rw[if_pos h3] at h7;exact absurd h7 (by decide:(0:Nat)≠7)
 rw[if_neg h3] at h7 ⊢;cases hf:fH (jd (s.extract (ah s 0) s.size) (ah s 0)) with
 |none=>rw[hf] at h7;exact absurd h7 (by decide:(0:Nat)≠7)
 |some m=>
  rw[hf] at h7;have h:=Aj _ _ hf;have h7:m.kind=7:=h7;unfold jd at h;simp only[List.mem_cons,List.not_mem_nil,or_false] at h;rcases h with h|h|h|h|h|h|h|h|h|h
  ·have:=CY h.symm;omega
  ·have:=CZ h.symm;omega
  ·obtain⟨_,rfl⟩:=Ah h.symm;exact absurd h7 (by decide:(4:Nat)≠7)
  ·have:=Dc h.symm;subst this;exact absurd h7 (by decide:(5:Nat)≠7)
  ·have:=Q9 h.symm;omega
  ·exact(Q8 h.symm).2
  ·have:=Df h.symm;omega
  ·have:=Dh h.symm;omega
  ·obtain⟨_,rfl⟩:=Ai h.symm;exact absurd h7 (by decide:(10:Nat)≠7)
  ·have:=Di h.symm;omega
inductive BkT where
 |mk (kind level:Nat) (info text dest title:ByteArray) (att:AttrL) (line:ByteArray) (kids:List BkT)
def fe(kind:Nat)(kids:List BkT):BkT:=.mk kind 0 ⟨#[]⟩ ⟨#[]⟩ ⟨#[]⟩ ⟨#[]⟩ ak ⟨#[]⟩ kids
def jV(kind:Nat)(line:ByteArray):BkT:=.mk kind 0 ⟨#[]⟩ ⟨#[]⟩ ⟨#[]⟩ ⟨#[]⟩ ak line []
def ln(zs:List ByteArray)(i:Nat):ByteArray:=zs.getD i ⟨#[]⟩
theorem yF(zs:List ByteArray)(i:Nat)(h:i<zs.length):zs[i]=ln zs i:=by
 unfold ln;rw[List.getD_eq_getElem?_getD,List.getElem?_eq_getElem h];rfl
def xm(p:Nat→Bool):Nat→Nat→Nat
 |0,i=>i
 |d+1,i=>if p i=true then i else xm p d (i+1)
def jr(p:Nat→Bool)(n i:Nat):Nat:=xm p (n - i) i
theorem Rf(p:Nat→Bool):∀(d i:Nat),i≤xm p d i∧xm p d i≤i+d∧(∀j,i≤j→j<xm p d i→p j=false)∧(xm p d i<i+d→p (xm p d i)=true)
 |0,i=>⟨aeo _,aeo _,fun j h1 h2=>absurd h2 (by show ¬j<i;omega),fun h=>absurd h (by show ¬i<i+0;omega)⟩
 |d+1,i=>by
  unfold xm;by_cases h:p i=true
  ·rw[if_pos h];exact⟨aeo _,by omega,fun j h1 h2=>absurd h2 (by omega),fun _=>h⟩
  ·rw[if_neg h];obtain⟨h1,h2,h3,h4⟩:=Rf p d (i+1);refine⟨by omega,by omega,fun j hj1 hj2=>?_,fun hlt=>h4 (by omega)⟩;by_cases e:j=i
   ·subst e;simpa using h
   ·exact h3 j (by omega) hj2
theorem mZ(p:Nat→Bool)(n i:Nat)(hi:i≤n):i≤jr p n i∧jr p n i≤n∧(∀j,i≤j→j<jr p n i→p j=false)∧(jr p n i<n→p (jr p n i)=true):=by
 obtain⟨h1,h2,h3,h4⟩:=Rf p (n - i) i;exact⟨h1,by unfold jr;omega,h3,fun h=>h4 (by unfold jr at h;omega)⟩
theorem rC(p:Nat→Bool)(n i k:Nat)(hi:i≤k)(hk:k≤n)(hno:∀j,i≤j→j<k→p j=false)(hit:k<n→p k=true):jr p n i=k:=by
 obtain⟨h1,h2,h3,h4⟩:=mZ p n i (by omega);rcases Nat.lt_trichotomy (jr p n i) k with h|h|h
 ·have a:=h4 (by omega);rw[hno _ h1 h] at a;cases a
 ·exact h
 ·have a:=hit (by omega);rw[h3 k hi h] at a;cases a
def iD(q:Nat→Bool)(i:Nat):Nat→Nat
 |0=>i
 |d+1=>if q (i+d)=true then i+d+1 else iD q i d
theorem Rh(q:Nat→Bool)(i:Nat):∀d,i≤iD q i d∧iD q i d≤i+d
 |0=>⟨aeo _,aeo _⟩
 |d+1=>by
  unfold iD;have:=Rh q i d;by_cases h:q (i+d)=true
  ·rw[if_pos h];omega
  ·rw[if_neg h];omega
def bz(zs:List ByteArray)(i k:Nat):List ByteArray:=(zs.drop i).take (k - i)
theorem jE(zs:List ByteArray)(i k:Nat)(h:i≤k)(hk:k≤zs.length):(bz zs i k).length=k - i:=by
 unfold bz;rw[List.length_take,List.length_drop];omega
theorem Gh(zs:List ByteArray)(i k j:Nat)(hj:i+j<k):ln (bz zs i k) j=ln zs (i+j):=by
 unfold ln bz;rw[List.getD_eq_getElem?_getD,List.getD_eq_getElem?_getD,List.getElem?_take,if_pos (by omega),List.getElem?_drop]
def kindOf(zs:List ByteArray)(i:Nat):Nat:=(ai (ln zs i)).kind
def fC(zs:List ByteArray):List UInt8:=zs.flatMap fun z=>bytesL z++[10]
def qB(zs:List ByteArray)(m:ag)(j:Nat):Bool:=(fP (ln zs j) m.kind m.n m.ch).2
def bD(zs:List ByteArray)(m:ag)(i:Nat):Nat:=jr (qB zs m) zs.length i
def qC(zs:List ByteArray)(m:ag)(i:Nat):AttrL:=if bD zs m i<zs.length then (fP (ln zs (bD zs m i)) m.kind m.n m.ch).1 else ak
def pq(zs:List ByteArray)(m:ag)(j:Nat):Bool:=!aF (ln zs j)&&decide (ah (ln zs j) 0<m.off)
def gy(zs:List ByteArray)(i:Nat)(m:ag):Nat:=iD (fun j=>!aF (ln zs j)) (i+1) (jr (pq zs m) zs.length (i+1) - (i+1))
def uh(zs:List ByteArray)(i:Nat)(m:ag):Bool:=aF m.rest&&(decide (zs.length≤i+1)||aF (ln zs (i+1)))
def aQ(zs:List ByteArray)(i:Nat)(m:ag):List ByteArray × Nat:=
 if uh zs i m=true then ([],i+1) else (m.rest :: (bz zs (i+1) (gy zs i m)).map fun z=>aT z m.off,gy zs i m)
def lu(zs:List ByteArray)(i:Nat):Nat:=jr (fun j=>!decide (kindOf zs j=4)) zs.length i
def je(zs:List ByteArray)(i:Nat):List ByteArray:=(bz zs i (lu zs i)).map fun z=>(ai z).rest
def gZ(zs:List ByteArray)(i:Nat):Bool:=decide (i+1<zs.length)&&headB (bytesL (ln zs i)) (bytesL (ln zs (i+1)))
def rowT(z:ByteArray)(n:Nat):BkT:=fe 11 ((gu (cellsB (bytesL z)) n).map (jV 12))
def eu(zs:List ByteArray)(i:Nat):Nat:=jr (fun j=>!decide (kindOf zs j=0)) zs.length (i+2)
def ou(zs:List ByteArray)(i:Nat)(r:List UInt8):BkT:=.mk 10 0 (mk r) ⟨#[]⟩ ⟨#[]⟩ ⟨#[]⟩ ak ⟨#[]⟩ (rowT (ln zs i) r.length :: (bz zs (i+2) (eu zs i)).map fun z=>rowT z r.length)
def ig(zs:List ByteArray)(i:Nat):Nat:=jr (fun j=>!decide (kindOf zs j=0)||gZ zs j) zs.length (i+1)
def qE(zs:List ByteArray)(i:Nat):BkT:=jV 1 (mk (joinL ⟨#[10]⟩ ((bz zs i (ig zs i)).map fun z=>mk (trimS (bytesL z)))))
def dS(zs:List ByteArray)(i:Nat):Nat:=jr (fun j=>!aF (ln zs j)) zs.length i
def uj(rec:List ByteArray→Option (List BkT))(zs:List ByteArray):Nat→Nat→ag→Option (List BkT × Nat)
 |0,_,_=>none
 |f+1,i,m=>
  match rec (aQ zs i m).1 with
  |none=>none
  |some kids=>
   if dS zs (aQ zs i m).2<zs.length∧iL m (ai (ln zs (dS zs (aQ zs i m).2)))=true then
    (uj rec zs f (dS zs (aQ zs i m).2) (ai (ln zs (dS zs (aQ zs i m).2)))).map fun r=>(fe 9 kids :: r.1,r.2)
   else some ([fe 9 kids],(aQ zs i m).2)
def lW(m:ag)(kids:List BkT):BkT:=.mk (if m.kind=6 then 8 else 7) (if m.kind=6 then m.n else 0) ⟨#[]⟩ ⟨#[]⟩ ⟨#[]⟩ ⟨#[]⟩ ak ⟨#[]⟩ kids
def iM(jv ng:List ByteArray→Option (List BkT))(d2 d3:Bool)(zs:List ByteArray)(i:Nat)(m:ag):Option (BkT × Nat):=
 if m.kind=2 then some (.mk 2 m.n ⟨#[]⟩ ⟨#[]⟩ ⟨#[]⟩ ⟨#[]⟩ m.att m.rest [],i+1)
 else if m.kind=3 then some (fe 5 [],i+1)
 else if m.kind=11 then some (.mk 15 0 m.info ⟨#[]⟩ m.dest m.title ak ⟨#[]⟩ [],i+1)
 else if m.kind=4 then (jv (je zs i)).map fun k=>(fe 6 k,lu zs i)
 else if m.kind=7 then some (.mk 3 0 m.info (mk (fC ((bz zs (i+1) (bD zs m (i+1))).map fun z=>aT z m.off))) ⟨#[]⟩ ⟨#[]⟩ ak ⟨#[]⟩ [],min (bD zs m (i+1)+1) zs.length)
 else if m.kind=8 then some (.mk 4 0 ⟨#[]⟩ (mk (fC (bz zs (i+1) (bD zs m (i+1))))) ⟨#[]⟩ ⟨#[]⟩ (qC zs m (i+1)) ⟨#[]⟩ [],min (bD zs m (i+1)+1) zs.length)
 else if m.kind=9 then (jv (bz zs (i+1) (bD zs m (i+1)))).map fun k=>(.mk 13 0 m.info ⟨#[]⟩ ⟨#[]⟩ ⟨#[]⟩ m.att ⟨#[]⟩ k,min (bD zs m (i+1)+1) zs.length)
 else if m.kind=10 then (jv (aQ zs i m).1).map fun k=>(.mk 14 0 m.info ⟨#[]⟩ ⟨#[]⟩ ⟨#[]⟩ ak ⟨#[]⟩ k,(aQ zs i m).2)
 else if m.kind=5∨m.kind=6 then (if d2=true then (uj ng zs (zs.length - i) i m).map fun r=>(lW m r.1,r.2) else none)
 else if gZ zs i=true then (if d3=true then some (ou zs i ((gJ (bytesL (ln zs (i+1)))).getD []),eu zs i) else none)
 else some (qE zs i,ig zs i)
def pz(at_:Nat→ag→Option (BkT × Nat))(zs:List ByteArray):Nat→Nat→Option (List BkT × List (Nat × Nat))
 |0,_=>some ([],[])
 |f+1,i=>
  if zs.length≤i then some ([],[])
  else if aF (ln zs i)=true then pz at_ zs f (i+1)
  else match at_ i (ai (ln zs i)) with
   |none=>none
   |some (b,tq)=>(pz at_ zs f tq).map fun r=>(b :: r.1,(i,tq) :: r.2)
def bg:Nat→List ByteArray→Option (List BkT × List (Nat × Nat))
 |0,zs=>pz (fun _ _=>none) zs zs.length 0
 |1,zs=>pz (iM (fun l=>(bg 0 l).map (·.1)) (fun _=>none) false false zs) zs zs.length 0
 |n+2,zs=>pz (iM (fun l=>(bg (n+1) l).map (·.1)) (fun l=>(bg n l).map (·.1)) true (decide (1≤n)) zs) zs zs.length 0
def ReadsS(w:World)(S:Nat→Prop)(size:Nat)(A:Option Addr)(n:Nat)(xs:List Value):Prop:=
 (xs.length=n * size∧n≤maxLen)∧(0<n→∃ad,A=some ad∧S ad.block∧∀j u,xs[j]?=some u→w.cell? (ad.add j)=some u)
section
variable {w w':World} {S S':Nat→Prop} {size n B:Nat} {A:Option Addr} {xs:List Value}
theorem ReadsS.none_:ReadsS w S size A 0 []:=⟨⟨by simp,Nat.zero_le _⟩,fun h=>absurd h (by omega)⟩
theorem ReadsS.keep(h:ReadsS w S size A n xs)(hk:∀g,S g→w'.heap[g]?=w.heap[g]?)(hS:∀g,S g→S' g):ReadsS w' S' size A n xs:=
 ⟨h.1,fun hn=>by
  obtain⟨ad,e,hb,hc⟩:=h.2 hn;exact⟨ad,e,hS _ hb,fun j u hu=>(World.cell?_of_block (hk _ (by rw[block_of_add];exact hb))).trans (hc j u hu)⟩⟩
theorem ReadsS.row(h:ReadsS w S size A n xs)(hn:0<n)(hs:0<size):∃b off,A=some ⟨b,off,none⟩∧S b∧∀j u,xs[j]?=some u→w.cell? ⟨b,off+j,none⟩=some u:=by
 obtain⟨ad,e,hb,hc⟩:=h.2 hn;obtain⟨b,off,sp⟩:=ad;have hl:0<xs.length:=by rw[h.1.1];exact Nat.mul_pos hn hs
 have h0:=hc 0 _ (List.getElem?_eq_getElem hl);obtain rfl:sp=none:=by simpa [Addr.add] using World.cell?_spot h0
 refine⟨b,off,e,hb,fun j u hu=>?_⟩;have:=hc j u hu;unfold Addr.add at this;by_cases hj:j=0
 ·subst hj;simpa using this
 ·simpa [hj] using this
theorem ReadsS.block{g:Nat}{t:TypeId}{cs:Array Value}(h:w.heap[g]?=some (.cells cs t (0,0)))(hS:S g)(hl:cs.size=n * size)(hn:n≤maxLen):ReadsS w S size (some ⟨g,0,none⟩) n cs.toList:=by
 refine⟨⟨by rw[Array.length_toList];exact hl,hn⟩,fun _=>⟨_,rfl,hS,fun j u hj=>?_⟩⟩;have:=cell_of_row w g j _ t (0,0) h;unfold Addr.add;by_cases h0:j=0
 ·subst h0;rw[if_pos rfl,this];simpa using hj
 ·rw[if_neg h0];show w.cell? ⟨g,0+j,none⟩=_;rw[Nat.zero_add,this];simpa using hj
theorem ReadsS.of_own{base c:Nat}{e:TypeId}(h:w.ownsRow base e size (.slice A n c) n xs):ReadsS w (fun g=>base≤g∧g<w.heap.size) size A n xs:=by
 refine⟨⟨h.1,?_⟩,fun hn=>?_⟩
 ·rcases h.2 with ⟨_,h0⟩|⟨g,cap,cur,_,_,_,h1,h2,_⟩
  ·omega
  ·exact aev h1 h2
 obtain⟨g,cap,hv,hg1,hlt⟩:=h.form hn;have hA:A=some ⟨g,0,none⟩:=by injection hv
 subst hA;exact⟨_,rfl,⟨hg1,hlt⟩,h.cells (g:=g) rfl⟩
end
def Ak(s:ByteArray):List Value:=[.int .i64 1,.string s,.string ⟨#[]⟩,.string ⟨#[]⟩,.string ⟨#[]⟩,.slice none 0 0,.slice none 0 0,.slice none 0 0,.slice none 0 0,.slice none 0 0]
def ik(w:World)(S:Nat→Prop)(v:Value)(s:ByteArray):Prop:=if s.size=0 then v=.slice none 0 0 else ∃A c,v=.slice A 1 c∧ReadsS w S 10 A 1 (Ak s)
theorem ik.keep{w w':World}{S S':Nat→Prop}{v:Value}{s:ByteArray}(h:ik w S v s)(hk:∀g,S g→w'.heap[g]?=w.heap[g]?)(hS:∀g,S g→S' g):ik w' S' v s:=by
 unfold ik at h ⊢;by_cases hz:s.size=0
 ·rw[if_pos hz] at h ⊢;exact h
 ·rw[if_neg hz] at h ⊢;obtain⟨A,c,e,hr⟩:=h;exact⟨A,c,e,hr.keep hk hS⟩
structure aW(w:World)(S:Nat→Prop)(a:AttrL)(A1 A2:Option Addr):Prop where
 cls:ReadsS w S 1 A1 a.cl.length (strs a.cl)
 aH:ReadsS w S 2 A2 a.pr.length (aH a.pr)
 c32:a.cl.length≤32
 p32:a.pr.length≤32
theorem aW.keep{w w':World}{S S':Nat→Prop}{a:AttrL}{A1 A2:Option Addr}(h:aW w S a A1 A2)(hk:∀g,S g→w'.heap[g]?=w.heap[g]?)(hS:∀g,S g→S' g):aW w' S' a A1 A2:=
 ⟨h.cls.keep hk hS,h.aH.keep hk hS,h.c32,h.p32⟩
theorem aW.empty(w:World)(S:Nat→Prop)(A1 A2:Option Addr):aW w S ak A1 A2:=⟨ReadsS.none_,ReadsS.none_,by decide,by decide⟩
mutual
inductive dw(w:World)(S:Nat→Prop):Array Value→BkT→Prop
 |mk (kind level:Nat) (info text dest title:ByteArray) (att:AttrL) (line:ByteArray) (kids:List BkT) (A1 A2 A4:Option Addr) (c1 c2 c4:Nat) (vL:Value) (vs:List (Array Value)) :
  aW w S att A1 A2→ik w S vL line→jF w S vs kids→ReadsS w S 11 A4 kids.length (vs.flatMap Array.toList)→
  dw w S #[.int .i64 kind,.int .i64 level,.string info,.string text,.string dest,.string title,.string att.id,.slice A1 att.cl.length c1,.slice A2 att.pr.length c2,vL,.slice A4 kids.length c4] (.mk kind level info text dest title att line kids)
inductive jF(w:World)(S:Nat→Prop):List (Array Value)→List BkT→Prop
 |nil:jF w S [] []
 |cons (v:Array Value) (b:BkT) (vs:List (Array Value)) (bs:List BkT):dw w S v b→jF w S vs bs→jF w S (v :: vs) (b :: bs)
end
mutual
theorem dw.keep{w w':World}{S S':Nat→Prop}(hk:∀g,S g→w'.heap[g]?=w.heap[g]?)(hS:∀g,S g→S' g):∀{v:Array Value} {b:BkT},dw w S v b→dw w' S' v b
 |_,_,.mk kind level info text dest title att line kids A1 A2 A4 c1 c2 c4 vL vs ha hl hr hc=>
  .mk kind level info text dest title att line kids A1 A2 A4 c1 c2 c4 vL vs (ha.keep hk hS) (hl.keep hk hS) (jF.keep hk hS hr) (hc.keep hk hS)
theorem jF.keep{w w':World}{S S':Nat→Prop}(hk:∀g,S g→w'.heap[g]?=w.heap[g]?)(hS:∀g,S g→S' g):∀{vs:List (Array Value)} {bs:List BkT},jF w S vs bs→jF w' S' vs bs
 |_,_,.nil=>.nil
 |_,_,.cons v b vs bs h1 h2=>.cons v b vs bs (dw.keep hk hS h1) (jF.keep hk hS h2)
end
theorem jF.snoc{w:World}{S:Nat→Prop}{vs:List (Array Value)}{bs:List BkT}{v:Array Value}{b:BkT}(h:jF w S vs bs)(hb:dw w S v b):jF w S (vs++[v]) (bs++[b]):=by
 induction bs generalizing vs with
 |nil=>cases h;exact .cons _ _ _ _ hb .nil
 |cons b' bs ih=>
  cases h with
  |cons v' b' vs bs h1 h2=>exact .cons _ _ _ _ h1 (ih h2)
theorem dw.size{w:World}{S:Nat→Prop}{v:Array Value}{b:BkT}(h:dw w S v b):v.size=11:=by
 cases h;rfl
theorem jF.at_{w:World}{S:Nat→Prop}:∀{vs:List (Array Value)} {bs:List BkT},jF w S vs bs→∀(k:Nat) (hk:k<bs.length),∃(v:Array Value),dw w S v bs[k]∧∀i,i<11→(vs.flatMap Array.toList)[k * 11+i]?=v[i]?
 |_,_,.nil,k,hk=>absurd hk (by simp)
 |_,_,.cons v b vs bs h1 h2,0,hk=>⟨v,h1,fun i hi=>by
  have hl:v.toList.length=11:=by rw[Array.length_toList];exact h1.size
  rw[List.flatMap_cons,List.getElem?_append_left (by omega),Nat.zero_mul,Nat.zero_add,Array.getElem?_toList]⟩
 |_,_,.cons v b vs bs h1 h2,k+1,hk=>by
  obtain⟨u,hu,hc⟩:=jF.at_ h2 k (by simpa using hk);refine⟨u,hu,fun i hi=>?_⟩;have hl:v.toList.length=11:=by rw[Array.length_toList];exact h1.size
  rw[List.flatMap_cons,List.getElem?_append_right (by omega),hl,show (k+1) * 11+i - 11=k * 11+i by omega];exact hc i hi
def bP(w:World)(S:Nat→Prop)(v:Value)(bs:List BkT):Prop:=∃A c vs,v=.slice A bs.length c∧jF w S vs bs∧ReadsS w S 11 A bs.length (vs.flatMap Array.toList)
theorem bP.keep{w w':World}{S S':Nat→Prop}{v:Value}{bs:List BkT}(h:bP w S v bs)(hk:∀g,S g→w'.heap[g]?=w.heap[g]?)(hS:∀g,S g→S' g):bP w' S' v bs:=by
 obtain⟨A,c,vs,e,h1,h2⟩:=h;exact⟨A,c,vs,e,jF.keep hk hS h1,h2.keep hk hS⟩
theorem bP.none_(w:World)(S:Nat→Prop):bP w S (.slice none 0 0) []:=⟨none,0,[],rfl,.nil,ReadsS.none_⟩
def Rg(B:Nat)(w':World)(g:Nat):Prop:=B≤g∧g<w'.heap.size
def qF(rs:List (Nat × Nat)):List Value:=rs.flatMap fun r=>[.int .i64 r.1,.int .i64 r.2]
def qG:Value:=.tuple #[.slice none 0 0,.slice none 0 0,.int .i64 11]
def kL(v:Array Value):Prop:=∃(i0 i1:Int) (s2 s3 s4 s5 s6:ByteArray) (A7:Option Addr) (n7 c7:Nat) (A8:Option Addr) (n8 c8:Nat) (A9:Option Addr) (n9 c9:Nat) (af:Option Addr) (n10 c10:Nat),
 v=#[.int .i64 i0,.int .i64 i1,.string s2,.string s3,.string s4,.string s5,.string s6,.slice A7 n7 c7,.slice A8 n8 c8,.slice A9 n9 c9,.slice af n10 c10]
def iE(B:Nat)(r:Option (BkT × Nat))(w:World)(e:Ending)(w':World):Prop:=
 Below w.heap.size w w'∧match r with
 |none=>∃(v:Array Value) (u:Int),kL v∧e=.returned (.tuple #[.agg v,.int .i64 u,.int .i64 11])
 |some p=>∃v,e=.returned (.tuple #[.agg v,.int .i64 p.2,.int .i64 0])∧dw w' (Rg B w') v p.1
theorem dw.form{w:World}{S:Nat→Prop}{v:Array Value}{b:BkT}(h:dw w S v b):kL v:=by
 cases h with
 |mk kind level info text dest title att line kids A1 A2 A4 c1 c2 c4 vL vs ha hl hr hc=>
  unfold ik at hl;by_cases hz:line.size=0
  ·rw[if_pos hz] at hl;subst hl;exact⟨_,_,_,_,_,_,_,_,_,_,_,_,_,_,_,_,_,_,_,rfl⟩
  ·rw[if_neg hz] at hl;obtain⟨A,c,rfl,hl⟩:=hl;exact⟨_,_,_,_,_,_,_,_,_,_,_,_,_,_,_,_,_,_,_,rfl⟩
theorem kL.len{v:Array Value}(h:kL v):v.toList.length=1 * 11:=by
 obtain⟨i0,i1,s2,s3,s4,s5,s6,A7,n7,c7,A8,n8,c8,A9,n9,c9,af,n10,c10,rfl⟩:=h;rfl
theorem kL.one{v:Array Value}(h:kL v):∀u∈v.toList,u.oneCell'=true:=by
 obtain⟨i0,i1,s2,s3,s4,s5,s6,A7,n7,c7,A8,n8,c8,A9,n9,c9,af,n10,c10,rfl⟩:=h;intro u hu;simp only[List.mem_cons,List.not_mem_nil,or_false] at hu;rcases hu with rfl|rfl|rfl|rfl|rfl|rfl|rfl|rfl|rfl|rfl|rfl <;> rfl
def aX(w:World)(base:Nat)(E:Nat→Prop)(v:Value)(bs:List BkT):Prop:=
 ∃(S:Nat→Prop) (vs:List (Array Value)),(∀g,S g→base≤g∧g<w.heap.size∧v.ownBlock≠some g∧¬E g)∧jF w S vs bs∧w.ownsRow base 46 11 v bs.length (vs.flatMap Array.toList)
section
variable {w w':World} {base:Nat} {E E':Nat→Prop} {v:Value} {bs:List BkT}
theorem aX.nil(w:World)(base:Nat)(E:Nat→Prop):aX w base E (.slice none 0 0) []:=⟨fun _=>False,[],fun _ h=>h.elim,.nil,World.ownsRow_nil _ _ _ _⟩
theorem aX.below(h:aX w base E v bs)(hb:Below w.heap.size w w'):aX w' base E v bs:=by
 obtain⟨S,vs,hS,hk,ho⟩:=h;exact⟨S,vs,fun g hg=>⟨(hS g hg).1,aeA (hS g hg).2.1 hb.size,(hS g hg).2.2⟩,hk.keep (fun g hg=>hb.block g (hS g hg).2.1) fun _ h=>h,own_below ho hb⟩
theorem aX.kept{g2 H:Nat}{v2:Value}(h:aX w base (fun g=>v2.ownBlock=some g) v bs)(hg:w.grownBy w' v2.ownBlock)(hne:v.ownBlock=none∨v.ownBlock≠v2.ownBlock)(hlies:v2.ownBlock=some g2∨g2=H)(hH:w.heap.size≤H):aX w' base (fun g=>some g2=some g) v bs:=by
 obtain⟨S,vs,hS,hk,ho⟩:=h;refine⟨S,vs,fun g hs=>⟨(hS g hs).1,aeA (hS g hs).2.1 hg.size,(hS g hs).2.2.1,fun e=>?_⟩,hk.keep (fun g hs=>hg.block g (hS g hs).2.1 fun e=>(hS g hs).2.2.2 e.symm) fun _ h=>h,ho.kept hg hne⟩;injection e with e
 rcases hlies with hl|hl
 ·exact(hS g hs).2.2.2 (by rw[hl,e])
 ·have:=(hS g hs).2.1;omega
theorem aX.push{S:Nat→Prop}{vs:List (Array Value)}{W1 w2:World}{vb:Array Value}{b:BkT}{g cap H B:Nat}{tmp:Obj}(hS:∀g,S g→base≤g∧g<w.heap.size∧v.ownBlock≠some g∧¬E g)(hk:jF w S vs bs)(hbl:Below w.heap.size w W1)
 (hv:∀k,v.ownBlock=some k→k<B) (hE:∀k,E k→k<B) (hB:base≤B) (hBw:B≤W1.heap.size)
 (hb:dw W1 (Rg B W1) vb b) (hown:w2.ownsRow base 46 11 (.slice (some ⟨g,0,none⟩) (bs.length+1) cap) (bs.length+1) (vs.flatMap Array.toList++vb.toList))
 (hgrow:(W1.alloc tmp).grownBy w2 v.ownBlock) (hlies:v.ownBlock=some g∨g=H) (hH:W1.heap.size≤H) :
 aX w2 base E (.slice (some ⟨g,0,none⟩) (bs.length+1) cap) (bs++[b]):=by
 have hsz:=hgrow.size;have hkeep:∀k,k<W1.heap.size→v.ownBlock≠some k→w2.heap[k]?=W1.heap[k]?:=fun k hk hne=>
  (hgrow.block k (by simp;omega) fun e=>hne e.symm).trans (Below.heap_alloc W1 tmp k hk)
 refine⟨fun x=>S x∨Rg B W1 x,vs++[vb],?_,?_,?_⟩
 ·rintro x (hx|hx)
  ·have h1:=hS x hx;have h2:=hbl.size;refine⟨h1.1,by simp at hsz;omega,?_,h1.2.2.2⟩;intro e;have:g=x:=by simpa [Value.ownBlock] using e
   subst this;rcases hlies with hl|hl
   ·exact h1.2.2.1 hl
   ·omega
  ·obtain⟨h1,h2⟩:=hx;refine⟨by omega,by simp at hsz;omega,?_,fun e=>by have:=hE x e;omega⟩;intro e;have:g=x:=by simpa [Value.ownBlock] using e
   subst this;rcases hlies with hl|hl
   ·have:=hv _ hl;omega
   ·omega
 ·refine jF.snoc (hk.keep (fun x hx=>?_) fun _ h=>.inl h) (hb.keep (fun x hx=>hkeep x hx.2 fun e=>?_) fun _ h=>.inr h)
  ·have h1:=hS x hx;have h2:=hbl.size;exact(hkeep x (by omega) h1.2.2.1).trans (hbl.block x h1.2.1)
  ·have:=hv _ e;have:=hx.1;omega
 ·rw[List.flatMap_append,aey];simpa using hown
theorem aX.kids(h:aX w base E v bs):bP w (Rg base w) v bs:=by
 obtain⟨S,vs,hS,hk,ho⟩:=h;obtain⟨A,c,rfl⟩:=ay ho;exact⟨A,c,vs,rfl,hk.keep (fun _ _=>rfl) fun g hg=>⟨(hS g hg).1,(hS g hg).2.1⟩,ReadsS.of_own ho⟩
end
theorem bP.get{w:World}{S:Nat→Prop}{v:Value}{bs:List BkT}(h:bP w S v bs)(hn:0<bs.length):∃g off c,v=.slice (some ⟨g,off,none⟩) bs.length c∧S g∧∀k (hk:k<bs.length),∃vb,dw w S vb bs[k]∧∀i,i<11→w.cell? ⟨g,off+(k * 11+i),none⟩=vb[i]?:=by
 obtain⟨A,c,vs,rfl,hk,hr⟩:=h;obtain⟨g,off,rfl,hg,hc⟩:=hr.row hn (by decide);refine⟨g,off,c,rfl,hg,fun k hlt=>?_⟩;obtain⟨vb,h1,h2⟩:=hk.at_ k hlt;refine⟨vb,h1,fun i hi=>?_⟩;have hs:=h1.size;rw[Array.getElem?_eq_getElem (by omega)];exact hc _ _ (by rw[h2 i hi,Array.getElem?_eq_getElem (by omega)])
theorem bP.below{w w':World}{B:Nat}{v:Value}{bs:List BkT}(h:bP w (Rg B w) v bs)(hb:Below w.heap.size w w'):bP w' (Rg B w') v bs:=
 h.keep (fun g hg=>hb.block g hg.2) fun g hg=>⟨hg.1,aeA hg.2 hb.size⟩
theorem dw.low{w w':World}{B:Nat}{v:Array Value}{b:BkT}(h:dw w (Rg B w) v b)(hb:Below w.heap.size w w'):dw w' (Rg B w') v b:=
 h.keep (fun g hg=>hb.block g hg.2) fun g hg=>⟨hg.1,aeA hg.2 hb.size⟩
theorem aW.of_own{w:World}{B:Nat}{a:AttrL}{vC vP:Value}(h:aZ w B a vC vP):∃A1 c1 A2 c2,vC=.slice A1 a.cl.length c1∧vP=.slice A2 a.pr.length c2∧aW w (Rg B w) a A1 A2:=by
 obtain⟨A1,c1,rfl⟩:=ay h.cls;obtain⟨A2,c2,rfl⟩:=ay h.aH;exact⟨A1,c1,A2,c2,rfl,rfl,ReadsS.of_own h.cls,ReadsS.of_own h.aH,h.c32,h.p32⟩
theorem aW.below{w w':World}{B:Nat}{a:AttrL}{A1 A2:Option Addr}(h:aW w (Rg B w) a A1 A2)(hb:Below w.heap.size w w'):aW w' (Rg B w') a A1 A2:=
 h.keep (fun g hg=>hb.block g hg.2) fun g hg=>⟨hg.1,aeA hg.2 hb.size⟩
structure aG(w:World)(A:Option Addr)(zs:List ByteArray)(m:Int):Prop where
 rd:Reads w w.heap.size 1 A zs.length (strs zs)
 len:zs.length≤10000
 sz:∀z∈zs,z.size≤100000
 cell:w.cell? ⟨0,0,none⟩=some (.int .i64 m)
theorem aG.below{w w':World}{A:Option Addr}{zs:List ByteArray}{m:Int}(h:aG w A zs m)(hb:Below w.heap.size w w'):aG w' A zs m:=
 ⟨(h.rd.below hb).more hb.size,h.len,h.sz,(hb.cell (p:=⟨0,0,none⟩) (World.block_lt_of_cell? _ _ h.cell)).trans h.cell⟩
theorem aG.pos{w:World}{A:Option Addr}{zs:List ByteArray}{m:Int}(h:aG w A zs m):0<w.heap.size:=World.block_lt_of_cell? _ _ h.cell
theorem aG.get{w:World}{A:Option Addr}{zs:List ByteArray}{m:Int}(h:aG w A zs m)(hn:0<zs.length):∃b off,A=some ⟨b,off,none⟩∧b<w.heap.size∧∀k,k<zs.length→w.cell? ⟨b,off+k,none⟩=some (.string (ln zs k)):=by
 obtain⟨b,off,e,hb,hc⟩:=ve h.rd hn;exact⟨b,off,e,hb,fun k hk=>by rw[hc k hk,yF zs k hk]⟩
theorem aG.cut{w:World}{b off:Nat}{zs:List ByteArray}{m:Int}(h:aG w (some ⟨b,off,none⟩) zs m)(i k:Nat)(hi:i≤k)(hk:k≤zs.length):aG w (some ⟨b,off+i,none⟩) (bz zs i k) m:=by
 have hl:=jE zs i k hi hk;refine⟨⟨by rw[qg];omega,fun hn=>?_⟩,by have:=h.len;omega,fun z hz=>h.sz z (List.mem_of_mem_drop (List.mem_of_mem_take hz)),h.cell⟩;obtain⟨b',off',e,hb,hc⟩:=h.get (by omega);obtain⟨rfl,rfl⟩:b=b'∧off=off':=by injection e with e;injection e with e1 e2;exact⟨e1,e2⟩
 refine⟨_,rfl,hb,fun j u hu=>?_⟩;have hj:j<(bz zs i k).length:=by rw[←qg];exact(List.getElem?_eq_some_iff.1 hu).1
 rw[sW _ j hj] at hu;cases hu;rw[yF _ j hj,Gh zs i k j (by omega)];have:=hc (i+j) (by omega);unfold Addr.add;by_cases h0:j=0
 ·subst h0;rw[if_pos rfl];simpa using this
 ·rw[if_neg h0];rw[←Nat.add_assoc] at this;exact this
theorem aG.xn{w:World}{b off:Nat}{zs:List ByteArray}{m:Int}(h:aG w (some ⟨b,off,none⟩) zs m)(i k:Nat)(hi:i≤k)(hk:k≤zs.length)(A':Option Addr)(hA:A'=some ⟨b,off+i,none⟩∨k=i):aG w A' (bz zs i k) m:=by
 rcases hA with rfl|rfl
 ·exact h.cut i k hi hk
 ·have e:bz zs k k=[]:=by unfold bz;simp
  rw[e];exact⟨Reads.none_,by decide,fun z hz=>absurd hz (by simp),h.cell⟩
theorem dh{zs:List ByteArray}{n:Nat}(h:∀z∈zs,z.size≤n)(k:Nat):(ln zs k).size≤n:=by
 rcases Nat.lt_or_ge k zs.length with hk|hk
 ·rw[←yF zs k hk];exact h _ (List.getElem_mem hk)
 ·unfold ln;rw[List.getD_eq_getElem?_getD,List.getElem?_eq_none hk];exact Nat.zero_le _
end Go.Proofs.YtpoafhgbhnblmaaGreatDoor
