import Derived.Test.YtpoafhgbhnblmaaGreatDoorF28
set_option linter.unusedVariables false
set_option linter.unusedSimpArgs false
set_option maxRecDepth 100000
set_option maxHeartbeats 20000000
namespace Go.Proofs.YtpoafhgbhnblmaaGreatDoor
open Go.Proofs.Tryz (prog)
open Go.RowKit
def vZ(c:ByteArray)(ind n v:Nat):Option ag:=
 if n≤9∧n<c.size∧¬(n+1<c.size∧bt c (n+1)≠32)∧((n=0∧(bt c 0=45∨bt c 0=43∨bt c 0=42))∨(0<n∧(bt c n=46∨bt c n=41)))
 then some {kind:=if n=0 then 5 else 6,n:=v,ch:=c.extract n (n+1),info:=c.extract 0 n,off:=ind+n+2,rest:=aT (c.extract (n+1) c.size) 1} else none
def nN(c:ByteArray)(ind:Nat):Option ag:=vZ c ind (runF c 0 cu) (jP c (runF c 0 cu))
theorem TM(c:ByteArray)(k:Nat)(hk:k≤c.size)(h:¬(k<c.size∧bt c k≠32)):aA (c.extract k c.size)=aT (c.extract k c.size) 1:=by
 rw[TF c k hk];unfold aA;by_cases hl:k<c.size
 ·have h32:bt c k=32:=by
   by_cases e:bt c k=32
   ·exact e
   ·exact absurd ⟨hl,e⟩ h
  rw[if_pos ⟨hl,h32⟩,ext_eq,ext_eq,ext_eq,zh]
 ·obtain rfl:k=c.size:=by omega
  rw[if_neg (fun e=>hl e.1)];have hz:(c.extract c.size c.size).size=0:=by rw[aex];omega
  rw[hz,ext_eq,←eX ((ext c c.size).extract 1 0),bytesL_sub];unfold sub ext;rw[kU c _ (aeo _)];rfl
theorem TN(c:ByteArray):qo c=runF c 0 cu:=FO c cu _ (fun b=>rfl)
theorem aci(c:ByteArray)(ind:Nat)(h0:0<c.size)(h:runF c 0 cu=0):oV c ind=nN c ind∧jQ c ind=none:=by
 constructor
 ·unfold oV nN vZ;rw[h];have hs:=Me c 1 (by omega);have ht:aA c=c.extract 1 c.size:=rfl;rw[ht];by_cases hb:bt c 0=45∨bt c 0=43∨bt c 0=42
  ·rw[if_pos hb];by_cases hsp:fF (c.extract 1 c.size)=true
   ·have hn:=hs.1 hsp;rw[if_pos hsp,if_pos ⟨by omega,h0,hn,Or.inl ⟨rfl,hb⟩⟩,TM c 1 (by omega) hn];have e0:c.extract 0 0=⟨#[]⟩:=by
     rw[←eX (c.extract 0 0),bytesL_sub];rfl
    rw[e0];rfl
   ·rw[if_neg hsp,if_neg (fun e=>hsp (hs.2 e.2.2.1))]
  ·rw[if_neg hb,if_neg];rintro ⟨_,_,_,⟨_,e⟩|⟨e,_⟩⟩
   ·exact hb e
   ·omega
 ·unfold jQ nY;rw[TN,h,if_neg (fun e=>by have:=e.1.1;omega)]
theorem acj(c:ByteArray)(ind:Nat)(h0:0<c.size)(h:runF c 0 cu≠0):oV c ind=none∧jQ c ind=nN c ind:=by
 have hd:cu (bt c 0)=true:=by
  cases e:cu (bt c 0)
  ·exact absurd (CQ c 0 cu h0 e) h
  ·rfl
 have hd2:=(tV _).1 hd;constructor
 ·unfold oV;rw[if_neg (by omega)]
 ·unfold jQ nY nN vZ;rw[TN];generalize runF c 0 cu=n at *;generalize jP c n=v;by_cases hk:(1≤n∧n≤9∧n<c.size)∧(bt c n=46∨bt c n=41)
  ·have hs:=Me c (n+1) (by omega);rw[if_pos hk];by_cases hsp:fF (c.extract (n+1) c.size)=true
   ·have hn:=hs.1 hsp;rw[if_pos hsp,if_pos ⟨hk.1.2.1,hk.1.2.2,hn,Or.inr ⟨by omega,hk.2⟩⟩,TM c (n+1) (by omega) hn,if_neg h]
   ·rw[if_neg hsp,if_neg (fun e=>hsp (hs.2 e.2.2.1))]
  ·rw[if_neg hk,if_neg];rintro ⟨e1,e2,_,⟨e,_⟩|⟨e3,e4⟩⟩
   ·exact h e
   ·exact hk ⟨⟨by omega,e1,e2⟩,e4⟩
theorem ack(c:ByteArray)(ind:Nat)(h0:0<c.size)(l:List (Option ag)):fH (oV c ind :: jQ c ind :: l)=fH (nN c ind :: l):=by
 by_cases h:runF c 0 cu=0
 ·obtain⟨e1,e2⟩:=aci c ind h0 h;rw[e1,e2];cases nN c ind <;> rfl
 ·obtain⟨e1,e2⟩:=acj c ind h0 h;rw[e1,e2];rfl
theorem acm(c:ByteArray)(ind:Nat)(h0:0<c.size):fH (jd c ind)=fH [kH c,kJ c,lS c ind,nN c ind,kG c ind,jL c,kK c,jC c,jD c]:=by
 unfold jd;have h:=ack c ind h0 [kG c ind,jL c,kK c,jC c,jD c];cases kH c with
 |some m=>rfl
 |none=>
  cases kJ c with
  |some m=>rfl
  |none=>
   cases lS c ind with
   |some m=>rfl
   |none=>exact h
theorem Eh(c:ByteArray)(n:Nat)(hn:n<c.size)(x:UInt8):c.extract n (n+1)=⟨#[x]⟩↔bt c n=x.toNat:=by
 have h:c.extract n (n+1)=⟨#[c.get! n]⟩:=by
  rw[←eX (c.extract n (n+1)),bytesL_sub,xF c n n (aeo _) hn,sub_self];rfl
 rw[h];constructor
 ·intro e;have:=congrArg (fun s:ByteArray=>bytesL s) e;have h2:[c.get! n]=[x]:=this;injection h2 with h3
  unfold bt;rw[h3]
 ·intro e;have:c.get! n=x:=UInt8.toNat_inj.1 e;rw[this]
theorem Ei(X:ByteArray)(x:UInt8)(e:(⟨#[x]⟩:ByteArray).toList=[x])(h:X≠⟨#[x]⟩):(X.toList==[x])=false:=by
 rw[←e];exact(Lib.bytes_beq_false_iff _ _).2 h
theorem MC(c:ByteArray)(k:Nat):jP c (k+1)=10 * jP c k+(bt c k - 48):=by
 unfold jP;rw[List.range_succ,List.foldl_append];rfl
theorem ME(c:ByteArray):∀k:Nat,(∀j,j<k→cu (bt c j)=true)→jP c k<10 ^ k
 |0,_=>by show 0<10 ^ 0;decide
 |k+1,h=>by
  have ih:=ME c k fun j hj=>h j (by omega);have hx:=(tV _).1 (h k (by omega));rw[MC,Nat.pow_succ];omega
theorem acn(w:World)(cs:Array Value):ZM ((zw w).alloc (.cells cs 74)) w.heap.size:=ae.alloc (Cj w) _
theorem aco(w:World)(cs:Array Value):Below w.heap.size w ((zw w).alloc (.cells cs 74)):=(qi w).alloc (qi w).size _
theorem acp(c:ByteArray)(ind:Nat)(w:World)(hs:c.size≤1000000)(h0:0<c.size)(hi:ind≤3):Calls prog 127 #[.string c,.int .i64 ind] w (lV ((nN c ind).getD {}) w):=by
 have HD:Hid (∀W,Calls prog 180 #[.string c,.int .i64 0] W fun e w'=>e=.returned (.int .i64 (runF c 0 cu))∧W=w'):=aen fun W=>abZ c 0 W hs (Nat.zero_le _);have HR:Hid (nN c ind=vZ c ind (runF c 0 cu) (jP c (runF c 0 cu))):=aen rfl;have hnl:=runF_le c 0 cu;generalize nN c ind=R at *;have HN:Hid (∀j,j<runF c 0 cu→cu (bt c j)=true):=aen fun j hj=>(runF_all c cu c.size 0 (by omega)).1 j (Nat.zero_le _) (by omega);generalize runF c 0 cu=n at *;have lG:=aen fun cs=>acn w cs;have jb:=aen fun cs=>aco w cs;unfold zw at lG jb;have hcase:((n=0∧decide (0<(n:Int))=false∧decide (0<n)=false)∨(0<n∧decide (0<(n:Int))=true∧decide (0<n)=true)):=by
  by_cases h:0<n
  ·right;exact⟨h,aeq (by omega),aeq h⟩
  ·left;exact⟨by omega,aep (by omega),aep h⟩
 by_cases h9:9<n
 ·have HF:Hid (R=none):=aen (by rw[HR.out];unfold vZ;rw[if_neg (fun e=>by have:=e.1;omega)]);have d1:decide (9<(n:Int))=true:=aeq (by omega);have d2:decide (9<n)=true:=aeq h9;have p0:0<n:=by omega
  have p1:decide (0<(n:Int))=true:=aeq (by omega);have p2:decide (0<n)=true:=aeq p0;clear HR hcase;go_enter Tryz.func127,Tryz.ntmps127;go_wp2_with fail;with_reducible refine(HD.out _).mono ?_
  rintro e w0 ⟨rfl,rfl⟩;go_wp2_with fail;exact rf (lG.out _) rfl rfl (gz HF.out (jb.out _))
 have d1:decide (9<(n:Int))=false:=aep (by omega);have d2:decide (9<n)=false:=aep h9;have hbad:((decide ((c.size:Int)≤(n:Int))=true∧decide (c.size≤n)=true)∧Hid (R=none))∨((decide ((c.size:Int)≤(n:Int))=false∧decide (c.size≤n)=false)∧n<c.size∧((∃h:n+1<c.size,(decide ((n:Int)<(c.size:Int) - 1)=true∧(((c[n+1].toNat:Nat):Int) != 32)=true)∧Hid (R=none)) ∨
  ((decide ((n:Int)<(c.size:Int) - 1)=false∨∃h:n+1<c.size,decide ((n:Int)<(c.size:Int) - 1)=true∧(((c[n+1].toNat:Nat):Int) != 32)=false)∧Hid (¬(n+1<c.size∧bt c (n+1)≠32))))):=by
  by_cases h:n<c.size
  ·right;refine⟨⟨aep (by omega),aep (by omega)⟩,h,?_⟩;by_cases h2:n+1<c.size
   ·by_cases h3:bt c (n+1)=32
    ·right;exact⟨Or.inr ⟨h2,aeq (by omega),by rw[get_bt c _ h2,h3];rfl⟩,aen (fun e=>e.2 h3)⟩
    ·left;exact⟨h2,⟨aeq (by omega),by rw[get_bt c _ h2,aeB];omega⟩,aen (by rw[HR.out];unfold vZ;rw[if_neg (fun e=>e.2.2.1 ⟨h2,h3⟩)])⟩
   ·right;exact⟨Or.inl (aep (by omega)),aen (fun e=>h2 e.1)⟩
  ·left;exact⟨⟨aeq (by omega),aeq (by omega)⟩,aen (by rw[HR.out];unfold vZ;rw[if_neg (fun e=>by have:=e.2.1;omega)])⟩
 rcases hbad with ⟨⟨t1,t2⟩,HF⟩|⟨⟨t1,t2⟩,hlt,⟨h2,⟨t3,t4⟩,HF⟩|⟨hsp,HS⟩⟩
 ·clear HR;rcases hcase with ⟨p0,p1,p2⟩|⟨p0,p1,p2⟩
  ·exfalso;have:=of_decide_eq_true t2;omega
  ·go_enter Tryz.func127,Tryz.ntmps127;go_wp2_with fail;with_reducible refine(HD.out _).mono ?_
   rintro e w0 ⟨rfl,rfl⟩;go_wp2_with fail;exact rf (lG.out _) rfl rfl (gz HF.out (jb.out _))
 ·clear HR;rcases hcase with ⟨p0,p1,p2⟩|⟨p0,p1,p2⟩
  ·clear p0;go_enter Tryz.func127,Tryz.ntmps127;go_wp2_with fail;with_reducible refine(HD.out _).mono ?_
   rintro e w0 ⟨rfl,rfl⟩;go_wp2_with fail;exact rf (lG.out _) rfl rfl (gz HF.out (jb.out _))
  ·go_enter Tryz.func127,Tryz.ntmps127;go_wp2_with fail;with_reducible refine(HD.out _).mono ?_
   rintro e w0 ⟨rfl,rfl⟩;go_wp2_with fail;exact rf (lG.out _) rfl rfl (gz HF.out (jb.out _))
 have hni:(n:Int)+1≤(c.size:Int):=by omega
 have hnn:((n:Int)+1).toNat=n+1:=by omega
 have hn1:n+1≤c.size:=hlt;have hn2:(n:Int)≤(n:Int)+1:=by omega
 have e45:=Eh c n hlt 45;have e43:=Eh c n hlt 43;have e42:=Eh c n hlt 42;have e46:=Eh c n hlt 46;have e41:=Eh c n hlt 41;have l45:(⟨#[45]⟩:ByteArray).toList=[45]:=by decide +kernel
 have Ej:(⟨#[43]⟩:ByteArray).toList=[43]:=by decide +kernel
 have Em:(⟨#[42]⟩:ByteArray).toList=[42]:=by decide +kernel
 have l46:(⟨#[46]⟩:ByteArray).toList=[46]:=by decide +kernel
 have En:(⟨#[41]⟩:ByteArray).toList=[41]:=by decide +kernel
 have HR2:Hid (R=if ((n=0∧(bt c 0=45∨bt c 0=43∨bt c 0=42))∨(0<n∧(bt c n=46∨bt c n=41))) then some {kind:=if n=0 then 5 else 6,n:=jP c n,ch:=c.extract n (n+1),info:=c.extract 0 n,off:=ind+n+2,rest:=aT (c.extract (n+1) c.size) 1} else none):=aen (by
  rw[HR.out];unfold vZ;by_cases h:((n=0∧(bt c 0=45∨bt c 0=43∨bt c 0=42))∨(0<n∧(bt c n=46∨bt c n=41)))
  ·rw[if_pos h,if_pos ⟨by omega,hlt,HS.out,h⟩]
  ·rw[if_neg h,if_neg (fun e=>h e.2.2.2)])
 clear HR HS;generalize hX:c.extract n (n+1)=X at *;rcases hcase with ⟨p0,p1,p2⟩|⟨p0,p1,p2⟩
 ·have zq:=aen p0;have mV:Hid (∀W,Calls prog 179 #[.string c,.int .i64 ((n:Int)+1)] W fun e w'=>e=.returned (.string (aT (c.extract (n+1) c.size) 1))∧W=w'):=aen fun W=>GZ c (n+1) W hs hn1;by_cases hb:bt c n=45∨bt c n=43∨bt c n=42
  ·have HF:Hid (R=some {kind:=5,n:=0,ch:=X,info:=c.extract 0 n,off:=ind+n+2,rest:=aT (c.extract (n+1) c.size) 1}):=aen (by
    rw[HR2.out,if_pos (Or.inl ⟨zq.out,by rw[zq.out] at hb;exact hb⟩),if_pos zq.out,zq.out];rfl)
   have hx:X=⟨#[45]⟩∨X=⟨#[43]⟩∨X=⟨#[42]⟩:=by
    rcases hb with h|h|h
    ·exact Or.inl (e45.2 h)
    ·exact Or.inr (Or.inl (e43.2 h))
    ·exact Or.inr (Or.inr (e42.2 h))
   clear HR2 hb e45 e43 e42 e46 e41 l45 Ej Em l46 En p0;generalize aT (c.extract (n+1) c.size) 1=S at *;have y0:((n:Int)==0)=true:=by rw[zq.out];rfl
   have AY:Hid ((ind:Int)+(n:Int)+2=((ind+n+2:Nat):Int)):=aen (by omega);have hne':Hid (w.heap.size≠w.heap.size+1):=aen (by omega);have hge':Hid (w.heap.size≤w.heap.size+1):=aen (by omega);have pR:=aen fun X:ByteArray=>(by
    have h:=ae.new (zw w) 74 #[.int .i64 5,.int .i64 0,.string X,.int .i64 0,.string ⟨#[]⟩,.string ⟨#[]⟩,.string ⟨#[]⟩,.string ⟨#[]⟩,.string ⟨#[]⟩,.slice none 0 0,.slice none 0 0];rw[qj] at h;exact h:ae ((zw w).alloc (.cells #[.int .i64 5,.int .i64 0,.string X,.int .i64 0,.string ⟨#[]⟩,.string ⟨#[]⟩,.string ⟨#[]⟩,.string ⟨#[]⟩,.string ⟨#[]⟩,.slice none 0 0,.slice none 0 0] 74)) (w.heap.size+1) 74 #[.int .i64 5,.int .i64 0,.string X,.int .i64 0,.string ⟨#[]⟩,.string ⟨#[]⟩,.string ⟨#[]⟩,.string ⟨#[]⟩,.string ⟨#[]⟩,.slice none 0 0,.slice none 0 0])
   unfold zw at pR;rcases hx with rfl|rfl|rfl
   ·rcases hsp with t3|⟨h2,t3,t4⟩;all_goals
     go_enter Tryz.func127,Tryz.ntmps127;go_wp2_with fail;with_reducible refine(HD.out _).mono ?_
     rintro e w0 ⟨rfl,rfl⟩;go_wp2_with fail;go_loopw [7] (fun v wr=>v=.int .i64 0∧Hid (ZM wr w.heap.size)∧Hid (ae wr (w.heap.size+1) 74 #[.int .i64 5,.int .i64 0,.string ⟨#[45]⟩,.int .i64 0,.string ⟨#[]⟩,.string ⟨#[]⟩,.string ⟨#[]⟩,.string ⟨#[]⟩,.string ⟨#[]⟩,.slice none 0 0,.slice none 0 0])∧Hid (Below w.heap.size w wr)) (fun _ _=>0);case atStart=>exact⟨rfl,aen (lG.out _),aen (pR.out _),aen (jb.out _)⟩
     case round=>
      obtain⟨rfl,iG,rZ,jZ⟩:=hrel;obtain⟨k0,k1,k2,k3,k4,k5,k6,k7,k8,k9,k10,v0,v1,v2,v3,v4,v5,v6,v7,v8,v9,v10⟩:=ZM.facts iG.out;obtain⟨a0,a1,a2,a3,a4,a5,a6,a7,a8,a9,a10,a11,a12,G7,G8,G9,a16,a17,He,Hf,a20,a21⟩:=az rZ.out;clear lG jb pR;go_wp2_with fail;with_reducible refine(mV.out _).mono ?_
      rintro e w0 ⟨rfl,rfl⟩;go_wp2_with fail;have hoff:=AY.out;have hne:=hne'.out;have hge:=hge'.out;rw[hoff];exact rf (ax (ae.far (ae.far (ae.far iG.out hne _) hne _) hne _) _ _ _ _ _ _ _ _ _ _ _) rfl rfl (rY (m:={kind:=5,n:=0,ch:=⟨#[45]⟩,info:=c.extract 0 n,off:=ind+n+2,rest:=S}) HF.out rfl (au (((jZ.out.setCell hge _).setCell hge _).setCell hge _) (aeo _) _ _ _ _ _ _ _ _ _ _ _))
   ·rcases hsp with t3|⟨h2,t3,t4⟩;all_goals
     go_enter Tryz.func127,Tryz.ntmps127;go_wp2_with fail;with_reducible refine(HD.out _).mono ?_
     rintro e w0 ⟨rfl,rfl⟩;go_wp2_with fail;go_loopw [7] (fun v wr=>v=.int .i64 0∧Hid (ZM wr w.heap.size)∧Hid (ae wr (w.heap.size+1) 74 #[.int .i64 5,.int .i64 0,.string ⟨#[43]⟩,.int .i64 0,.string ⟨#[]⟩,.string ⟨#[]⟩,.string ⟨#[]⟩,.string ⟨#[]⟩,.string ⟨#[]⟩,.slice none 0 0,.slice none 0 0])∧Hid (Below w.heap.size w wr)) (fun _ _=>0);case atStart=>exact⟨rfl,aen (lG.out _),aen (pR.out _),aen (jb.out _)⟩
     case round=>
      obtain⟨rfl,iG,rZ,jZ⟩:=hrel;obtain⟨k0,k1,k2,k3,k4,k5,k6,k7,k8,k9,k10,v0,v1,v2,v3,v4,v5,v6,v7,v8,v9,v10⟩:=ZM.facts iG.out;obtain⟨a0,a1,a2,a3,a4,a5,a6,a7,a8,a9,a10,a11,a12,G7,G8,G9,a16,a17,He,Hf,a20,a21⟩:=az rZ.out;clear lG jb pR;go_wp2_with fail;with_reducible refine(mV.out _).mono ?_
      rintro e w0 ⟨rfl,rfl⟩;go_wp2_with fail;have hoff:=AY.out;have hne:=hne'.out;have hge:=hge'.out;rw[hoff];exact rf (ax (ae.far (ae.far (ae.far iG.out hne _) hne _) hne _) _ _ _ _ _ _ _ _ _ _ _) rfl rfl (rY (m:={kind:=5,n:=0,ch:=⟨#[43]⟩,info:=c.extract 0 n,off:=ind+n+2,rest:=S}) HF.out rfl (au (((jZ.out.setCell hge _).setCell hge _).setCell hge _) (aeo _) _ _ _ _ _ _ _ _ _ _ _))
   ·rcases hsp with t3|⟨h2,t3,t4⟩;all_goals
     go_enter Tryz.func127,Tryz.ntmps127;go_wp2_with fail;with_reducible refine(HD.out _).mono ?_
     rintro e w0 ⟨rfl,rfl⟩;go_wp2_with fail;go_loopw [7] (fun v wr=>v=.int .i64 0∧Hid (ZM wr w.heap.size)∧Hid (ae wr (w.heap.size+1) 74 #[.int .i64 5,.int .i64 0,.string ⟨#[42]⟩,.int .i64 0,.string ⟨#[]⟩,.string ⟨#[]⟩,.string ⟨#[]⟩,.string ⟨#[]⟩,.string ⟨#[]⟩,.slice none 0 0,.slice none 0 0])∧Hid (Below w.heap.size w wr)) (fun _ _=>0);case atStart=>exact⟨rfl,aen (lG.out _),aen (pR.out _),aen (jb.out _)⟩
     case round=>
      obtain⟨rfl,iG,rZ,jZ⟩:=hrel;obtain⟨k0,k1,k2,k3,k4,k5,k6,k7,k8,k9,k10,v0,v1,v2,v3,v4,v5,v6,v7,v8,v9,v10⟩:=ZM.facts iG.out;obtain⟨a0,a1,a2,a3,a4,a5,a6,a7,a8,a9,a10,a11,a12,G7,G8,G9,a16,a17,He,Hf,a20,a21⟩:=az rZ.out;clear lG jb pR;go_wp2_with fail;with_reducible refine(mV.out _).mono ?_
      rintro e w0 ⟨rfl,rfl⟩;go_wp2_with fail;have hoff:=AY.out;have hne:=hne'.out;have hge:=hge'.out;rw[hoff];exact rf (ax (ae.far (ae.far (ae.far iG.out hne _) hne _) hne _) _ _ _ _ _ _ _ _ _ _ _) rfl rfl (rY (m:={kind:=5,n:=0,ch:=⟨#[42]⟩,info:=c.extract 0 n,off:=ind+n+2,rest:=S}) HF.out rfl (au (((jZ.out.setCell hge _).setCell hge _).setCell hge _) (aeo _) _ _ _ _ _ _ _ _ _ _ _))
  ·have HF:Hid (R=none):=aen (by
    rw[HR2.out,if_neg];rintro (⟨_,e⟩|⟨e,_⟩)
    ·rw[zq.out] at hb;exact hb e
    ·omega)
   have x1:=Ei X 45 l45 (fun e=>hb (Or.inl (e45.1 e)));have x2:=Ei X 43 Ej (fun e=>hb (Or.inr (Or.inl (e43.1 e))));have x3:=Ei X 42 Em (fun e=>hb (Or.inr (Or.inr (e42.1 e))));clear HR2 hb e45 e43 e42 e46 e41 l45 Ej Em l46 En p0;have y0:((n:Int)==0)=true:=by rw[zq.out];rfl
   rcases hsp with t3|⟨h2,t3,t4⟩;all_goals
    go_enter Tryz.func127,Tryz.ntmps127;go_wp2_with fail;with_reducible refine(HD.out _).mono ?_
    rintro e w0 ⟨rfl,rfl⟩;go_wp2_with fail;exact rf (lG.out _) rfl rfl (gz HF.out (jb.out _))
 ·by_cases hb:bt c n=46∨bt c n=41
  ·have HF:Hid (R=some {kind:=6,n:=jP c n,ch:=X,info:=c.extract 0 n,off:=ind+n+2,rest:=aT (c.extract (n+1) c.size) 1}):=aen (by
    rw[HR2.out,if_pos (Or.inr ⟨p0,hb⟩),if_neg (by omega)])
   have mV:Hid (∀W,Calls prog 179 #[.string c,.int .i64 ((n:Int)+1)] W fun e w'=>e=.returned (.string (aT (c.extract (n+1) c.size) 1))∧W=w'):=aen fun W=>GZ c (n+1) W hs hn1;have hx:X=⟨#[46]⟩∨X=⟨#[41]⟩:=by
    rcases hb with h|h
    ·exact Or.inl (e46.2 h)
    ·exact Or.inr (e41.2 h)
   clear HR2 hb e45 e43 e42 e46 e41 l45 Ej Em l46 En;generalize aT (c.extract (n+1) c.size) 1=S at *;have y0:((n:Int)==0)=false:=by rw[aes];omega
   have AY:Hid ((ind:Int)+(n:Int)+2=((ind+n+2:Nat):Int)):=aen (by omega);have hne':Hid (w.heap.size≠w.heap.size+1):=aen (by omega);have hge':Hid (w.heap.size≤w.heap.size+1):=aen (by omega);have pR:=aen fun X:ByteArray=>(by
    have h:=ae.new (zw w) 74 #[.int .i64 6,.int .i64 0,.string X,.int .i64 0,.string ⟨#[]⟩,.string ⟨#[]⟩,.string ⟨#[]⟩,.string ⟨#[]⟩,.string ⟨#[]⟩,.slice none 0 0,.slice none 0 0];rw[qj] at h;exact h:ae ((zw w).alloc (.cells #[.int .i64 6,.int .i64 0,.string X,.int .i64 0,.string ⟨#[]⟩,.string ⟨#[]⟩,.string ⟨#[]⟩,.string ⟨#[]⟩,.string ⟨#[]⟩,.slice none 0 0,.slice none 0 0] 74)) (w.heap.size+1) 74 #[.int .i64 6,.int .i64 0,.string X,.int .i64 0,.string ⟨#[]⟩,.string ⟨#[]⟩,.string ⟨#[]⟩,.string ⟨#[]⟩,.string ⟨#[]⟩,.slice none 0 0,.slice none 0 0])
   unfold zw at pR;rcases hx with rfl|rfl
   ·rcases hsp with t3|⟨h2,t3,t4⟩;all_goals
     go_enter Tryz.func127,Tryz.ntmps127;go_wp2_with fail;with_reducible refine(HD.out _).mono ?_
     rintro e w0 ⟨rfl,rfl⟩;go_wp2_with fail;go_loopw [7] (fun v wr=>∃k q:Nat,v=.int .i64 k∧k≤n∧Hid (q=jP c k)∧Hid (ZM wr w.heap.size)∧Hid (ae wr (w.heap.size+1) 74 #[.int .i64 6,.int .i64 q,.string ⟨#[46]⟩,.int .i64 0,.string ⟨#[]⟩,.string ⟨#[]⟩,.string ⟨#[]⟩,.string ⟨#[]⟩,.string ⟨#[]⟩,.slice none 0 0,.slice none 0 0])∧Hid (Below w.heap.size w wr)) (fun v _=>n - (intOf v).toNat);case atStart=>exact⟨0,0,rfl,Nat.zero_le _,aen rfl,aen (lG.out _),aen (pR.out _),aen (jb.out _)⟩
     case round=>
      obtain⟨k,q,rfl,hkn,Hq,iG,rZ,jZ⟩:=hrel;obtain⟨k0,k1,k2,k3,k4,k5,k6,k7,k8,k9,k10,v0,v1,v2,v3,v4,v5,v6,v7,v8,v9,v10⟩:=ZM.facts iG.out;obtain⟨a0,a1,a2,a3,a4,a5,a6,a7,a8,a9,a10,a11,a12,G7,G8,G9,a16,a17,He,Hf,a20,a21⟩:=az rZ.out;clear lG jb pR;by_cases hk:k<n
      ·have hkc:k<c.size:=by omega
       have hdg:=(tV _).1 (HN.out k hk);have og:q<10000000000:=by
        rw[Hq.out];exact CB (ME c k fun j hj=>HN.out j (by omega)) (by omega)
       have hgk:=get_bt c k hkc;obtain⟨d,hd⟩:∃d,bt c k=d+48:=⟨bt c k - 48,by omega⟩;have gQ:Hid (q * 10+d=jP c (k+1)):=aen (by rw[MC,←Hq.out,hd];omega);have hd9:d≤9:=by omega
       have hki:(k:Int)<(c.size:Int):=by omega
       have hdi:((c[k].toNat:Nat):Int) - 48=(d:Int):=by rw[hgk];omega
       have hdw:IntKind.u8.wrap (d:Int)=(d:Int):=IntWalk.u8_in (d:Int) (by omega);have hw1:IntKind.i64.wrap (d:Int)=(d:Int):=by rw[IntKind.wrap_i64];omega
       have hw2:IntKind.i64.wrap ((q:Int) * 10)=(q:Int) * 10:=by rw[IntKind.wrap_i64];omega
       have hw3:IntKind.i64.wrap ((q:Int) * 10+(d:Int))=(q:Int) * 10+(d:Int):=by rw[IntKind.wrap_i64];omega
       clear hgk hd hdg;go_wp2_with fail;refine wp_region_still_tail 10 (by kernel_rfl) (by kernel_rfl) ?_;simp only[List.take_succ_cons,List.take_zero,List.drop_succ_cons,List.drop_zero];repeat still_step
       refine wpStill_nil ?_;go_wp2_with fail;have hcast:(q:Int) * 10+(d:Int)=((q * 10+d:Nat):Int):=by omega
       rw[hcast];have MF:Hid (ae (wr.setCell ⟨w.heap.size+1,1,none⟩ (.int .i64 ((q * 10+d:Nat):Int))) (w.heap.size+1) 74 #[.int .i64 6,.int .i64 ((q * 10+d:Nat):Int),.string ⟨#[46]⟩,.int .i64 0,.string ⟨#[]⟩,.string ⟨#[]⟩,.string ⟨#[]⟩,.string ⟨#[]⟩,.string ⟨#[]⟩,.slice none 0 0,.slice none 0 0]):=aen (ae.bJ rZ.out 1 (.int .i64 ((q * 10+d:Nat):Int)));exact⟨⟨k+1,q * 10+d,by go_num,by omega,gQ,aen (ae.drew (ae.far iG.out hne'.out _)),aen (ae.drew MF.out),aen (below_drewN (jZ.out.setCell hge'.out _) 1)⟩,by simp[intOf];omega⟩
      ·obtain rfl:k=n:=by omega
       have HF2:Hid (R=some {kind:=6,n:=q,ch:=⟨#[46]⟩,info:=c.extract 0 k,off:=ind+k+2,rest:=S}):=aen (by rw[HF.out,←Hq.out]);go_wp2_with fail;with_reducible refine(mV.out _).mono ?_
       rintro e w0 ⟨rfl,rfl⟩;go_wp2_with fail;have hoff:=AY.out;have hne:=hne'.out;have hge:=hge'.out;rw[hoff];exact rf (ax (ae.far (ae.far (ae.far iG.out hne _) hne _) hne _) _ _ _ _ _ _ _ _ _ _ _) rfl rfl (rY (m:={kind:=6,n:=q,ch:=⟨#[46]⟩,info:=c.extract 0 k,off:=ind+k+2,rest:=S}) HF2.out rfl (au (((jZ.out.setCell hge _).setCell hge _).setCell hge _) (aeo _) _ _ _ _ _ _ _ _ _ _ _))
   ·rcases hsp with t3|⟨h2,t3,t4⟩;all_goals
     go_enter Tryz.func127,Tryz.ntmps127;go_wp2_with fail;with_reducible refine(HD.out _).mono ?_
     rintro e w0 ⟨rfl,rfl⟩;go_wp2_with fail;go_loopw [7] (fun v wr=>∃k q:Nat,v=.int .i64 k∧k≤n∧Hid (q=jP c k)∧Hid (ZM wr w.heap.size)∧Hid (ae wr (w.heap.size+1) 74 #[.int .i64 6,.int .i64 q,.string ⟨#[41]⟩,.int .i64 0,.string ⟨#[]⟩,.string ⟨#[]⟩,.string ⟨#[]⟩,.string ⟨#[]⟩,.string ⟨#[]⟩,.slice none 0 0,.slice none 0 0])∧Hid (Below w.heap.size w wr)) (fun v _=>n - (intOf v).toNat);case atStart=>exact⟨0,0,rfl,Nat.zero_le _,aen rfl,aen (lG.out _),aen (pR.out _),aen (jb.out _)⟩
     case round=>
      obtain⟨k,q,rfl,hkn,Hq,iG,rZ,jZ⟩:=hrel;obtain⟨k0,k1,k2,k3,k4,k5,k6,k7,k8,k9,k10,v0,v1,v2,v3,v4,v5,v6,v7,v8,v9,v10⟩:=ZM.facts iG.out;obtain⟨a0,a1,a2,a3,a4,a5,a6,a7,a8,a9,a10,a11,a12,G7,G8,G9,a16,a17,He,Hf,a20,a21⟩:=az rZ.out;clear lG jb pR;by_cases hk:k<n
      ·have hkc:k<c.size:=by omega
       have hdg:=(tV _).1 (HN.out k hk);have og:q<10000000000:=by
        rw[Hq.out];exact CB (ME c k fun j hj=>HN.out j (by omega)) (by omega)
       have hgk:=get_bt c k hkc;obtain⟨d,hd⟩:∃d,bt c k=d+48:=⟨bt c k - 48,by omega⟩;have gQ:Hid (q * 10+d=jP c (k+1)):=aen (by rw[MC,←Hq.out,hd];omega);have hd9:d≤9:=by omega
       have hki:(k:Int)<(c.size:Int):=by omega
       have hdi:((c[k].toNat:Nat):Int) - 48=(d:Int):=by rw[hgk];omega
       have hdw:IntKind.u8.wrap (d:Int)=(d:Int):=IntWalk.u8_in (d:Int) (by omega);have hw1:IntKind.i64.wrap (d:Int)=(d:Int):=by rw[IntKind.wrap_i64];omega
       have hw2:IntKind.i64.wrap ((q:Int) * 10)=(q:Int) * 10:=by rw[IntKind.wrap_i64];omega
       have hw3:IntKind.i64.wrap ((q:Int) * 10+(d:Int))=(q:Int) * 10+(d:Int):=by rw[IntKind.wrap_i64];omega
       clear hgk hd hdg;go_wp2_with fail;refine wp_region_still_tail 10 (by kernel_rfl) (by kernel_rfl) ?_;simp only[List.take_succ_cons,List.take_zero,List.drop_succ_cons,List.drop_zero];repeat still_step
       refine wpStill_nil ?_;go_wp2_with fail;have hcast:(q:Int) * 10+(d:Int)=((q * 10+d:Nat):Int):=by omega
       rw[hcast];have MF:Hid (ae (wr.setCell ⟨w.heap.size+1,1,none⟩ (.int .i64 ((q * 10+d:Nat):Int))) (w.heap.size+1) 74 #[.int .i64 6,.int .i64 ((q * 10+d:Nat):Int),.string ⟨#[41]⟩,.int .i64 0,.string ⟨#[]⟩,.string ⟨#[]⟩,.string ⟨#[]⟩,.string ⟨#[]⟩,.string ⟨#[]⟩,.slice none 0 0,.slice none 0 0]):=aen (ae.bJ rZ.out 1 (.int .i64 ((q * 10+d:Nat):Int)));exact⟨⟨k+1,q * 10+d,by go_num,by omega,gQ,aen (ae.drew (ae.far iG.out hne'.out _)),aen (ae.drew MF.out),aen (below_drewN (jZ.out.setCell hge'.out _) 1)⟩,by simp[intOf];omega⟩
      ·obtain rfl:k=n:=by omega
       have HF2:Hid (R=some {kind:=6,n:=q,ch:=⟨#[41]⟩,info:=c.extract 0 k,off:=ind+k+2,rest:=S}):=aen (by rw[HF.out,←Hq.out]);go_wp2_with fail;with_reducible refine(mV.out _).mono ?_
       rintro e w0 ⟨rfl,rfl⟩;go_wp2_with fail;have hoff:=AY.out;have hne:=hne'.out;have hge:=hge'.out;rw[hoff];exact rf (ax (ae.far (ae.far (ae.far iG.out hne _) hne _) hne _) _ _ _ _ _ _ _ _ _ _ _) rfl rfl (rY (m:={kind:=6,n:=q,ch:=⟨#[41]⟩,info:=c.extract 0 k,off:=ind+k+2,rest:=S}) HF2.out rfl (au (((jZ.out.setCell hge _).setCell hge _).setCell hge _) (aeo _) _ _ _ _ _ _ _ _ _ _ _))
  ·have HF:Hid (R=none):=aen (by
    rw[HR2.out,if_neg];rintro (⟨e,_⟩|⟨_,e⟩)
    ·omega
    ·exact hb e)
   have x1:=Ei X 46 l46 (fun e=>hb (Or.inl (e46.1 e)));have x2:=Ei X 41 En (fun e=>hb (Or.inr (e41.1 e)));clear HR2 hb e45 e43 e42 e46 e41 l45 Ej Em l46 En;have y0:((n:Int)==0)=false:=by rw[aes];omega
   rcases hsp with t3|⟨h2,t3,t4⟩;all_goals
    go_enter Tryz.func127,Tryz.ntmps127;go_wp2_with fail;with_reducible refine(HD.out _).mono ?_
    rintro e w0 ⟨rfl,rfl⟩;go_wp2_with fail;exact rf (lG.out _) rfl rfl (gz HF.out (jb.out _))
theorem TP(r:Option (List UInt8 × Nat)):∃x y z,iZ r=.agg #[.string x,.int .i64 y,.bool z]:=by
 cases r with
 |none=>exact⟨_,_,_,rfl⟩
 |some p=>exact⟨_,_,_,rfl⟩
theorem acr(s:ByteArray)(t:Nat)(W:World)(hs:s.size≤1000000)(ht:t+1≤s.size):Calls prog 123 #[.string s,.int .i64 ((t:Int)+1)] W fun e w'=>e=.returned (.int .i64 (ah s (t+1)))∧W=w':=by
 have h:=pP s (t+1) W hs ht;rw[wL] at h;exact h
theorem acs(s:ByteArray)(w:World)(hs:s.size≤1000000):Calls prog 132 #[.string s] w (lV ((uA (zo s)).getD {}) w):=by
 have hil:=kC s;have uB:Hid (∀W,Calls prog 123 #[.string s,.int .i64 0] W fun e w'=>e=.returned (.int .i64 (ah s 0))∧W=w'):=aen fun W=>pP s 0 W hs (Nat.zero_le _);have HL:=aen fun W=>aby s (ah s 0) W hs hil;have HR:Hid (zo s=if 3<ah s 0 then none else match iI s (ah s 0) with | none=>none | some b=>if b.2<s.size∧bt s b.2=58 then Ef s b.1 b.2 else none):=aen rfl;have hbl:∀r,iI s (ah s 0)=some r→r.2≤s.size:=fun r h=>(Qs h).2;generalize zo s=R at *;obtain⟨M,hM⟩:∃M,M=(uA R).getD {}:=⟨_,rfl⟩;rw[←hM];have HM:=aen hM;clear hM;generalize ah s 0=i at *;generalize iI s i=BR at *;by_cases h3:3<i
 ·have HF:Hid (M={}):=aen (by rw[HM.out,HR.out,if_pos h3];rfl);have d1:decide (3<(i:Int))=true:=aeq (by omega);have d2:decide (3<i)=true:=aeq h3;obtain⟨x,y,z,hv⟩:=TP BR;unfold jO at HL;rw[hv] at HL;clear HM HR hbl hv;go_enter Tryz.func132,Tryz.ntmps132;go_wp2_with fail;with_reducible refine(uB.out _).mono ?_
  rintro e w0 ⟨rfl,rfl⟩;go_wp2_with fail;with_reducible refine(HL.out _).mono ?_
  rintro e w1 ⟨he,b1⟩;subst he;obtain⟨HZ1,HB1⟩:=dI b1;have HZ:=ae.alloc HZ1 (.cells #[.string x,.int .i64 y,.bool z] 179);have HB:=HB1.alloc HB1.size (.cells #[.string x,.int .i64 y,.bool z] 179);clear b1 HZ1 HB1;obtain⟨k0,k1,k2,k3,k4,k5,k6,k7,k8,k9,k10,y0,y1,y2,y3,y4,y5,y6,y7,y8,y9,aj⟩:=ZM.facts HZ;go_wp2_with fail;exact tJ (ax HZ _ _ _ _ _ _ _ _ _ _ _) rfl rfl ⟨⟨_,rfl,by rw[HF.out];exact fE (m:={}) rfl (au HB (aeo _) _ _ _ _ _ _ _ _ _ _ _).size⟩,au HB (aeo _) _ _ _ _ _ _ _ _ _ _ _⟩
 have d1:decide (3<(i:Int))=false:=aep (by omega);have d2:decide (3<i)=false:=aep h3;rw[if_neg h3] at HR;unfold jO at HL;cases BR with
 |none=>
  have HF:Hid (M={}):=aen (by rw[HM.out,HR.out];rfl);clear HM HR hbl;go_enter Tryz.func132,Tryz.ntmps132;go_wp2_with fail;with_reducible refine(uB.out _).mono ?_
  rintro e w0 ⟨rfl,rfl⟩;go_wp2_with fail;with_reducible refine(HL.out _).mono ?_
  rintro e w1 ⟨he,b1⟩;dsimp only [iZ] at he;subst he;obtain⟨HZ1,HB1⟩:=dI b1;have HZ:=ae.alloc HZ1 (.cells #[.string ⟨#[]⟩,.int .i64 0,.bool false] 179);have HB:=HB1.alloc HB1.size (.cells #[.string ⟨#[]⟩,.int .i64 0,.bool false] 179);clear b1 HZ1 HB1;obtain⟨k0,k1,k2,k3,k4,k5,k6,k7,k8,k9,k10,y0,y1,y2,y3,y4,y5,y6,y7,y8,y9,aj⟩:=ZM.facts HZ;go_wp2_with fail;exact tJ (ax HZ _ _ _ _ _ _ _ _ _ _ _) rfl rfl ⟨⟨_,rfl,by rw[HF.out];exact fE (m:={}) rfl (au HB (aeo _) _ _ _ _ _ _ _ _ _ _ _).size⟩,au HB (aeo _) _ _ _ _ _ _ _ _ _ _ _⟩
 |some b=>
  obtain⟨l,t⟩:=b;have htl:t≤s.size:=hbl _ rfl;simp only at HR;clear hbl;by_cases h4:t<s.size;case neg=>
   have HF:Hid (M={}):=aen (by rw[HM.out,HR.out,if_neg (fun h=>h4 h.1)];rfl);have d3:decide ((s.size:Int)≤(t:Int))=true:=aeq (by omega);have d4:decide (s.size≤t)=true:=aeq (by omega);clear HM HR;go_enter Tryz.func132,Tryz.ntmps132;go_wp2_with fail;with_reducible refine(uB.out _).mono ?_
   rintro e w0 ⟨rfl,rfl⟩;go_wp2_with fail;with_reducible refine(HL.out _).mono ?_
   rintro e w1 ⟨he,b1⟩;dsimp only [iZ] at he;subst he;obtain⟨HZ1,HB1⟩:=dI b1;have HZ:=ae.alloc HZ1 (.cells #[.string (mk l),.int .i64 (t:Nat),.bool true] 179);have HB:=HB1.alloc HB1.size (.cells #[.string (mk l),.int .i64 (t:Nat),.bool true] 179);clear b1 HZ1 HB1;obtain⟨k0,k1,k2,k3,k4,k5,k6,k7,k8,k9,k10,y0,y1,y2,y3,y4,y5,y6,y7,y8,y9,aj⟩:=ZM.facts HZ;go_wp2_with fail;exact tJ (ax HZ _ _ _ _ _ _ _ _ _ _ _) rfl rfl ⟨⟨_,rfl,by rw[HF.out];exact fE (m:={}) rfl (au HB (aeo _) _ _ _ _ _ _ _ _ _ _ _).size⟩,au HB (aeo _) _ _ _ _ _ _ _ _ _ _ _⟩
  have d3:decide ((s.size:Int)≤(t:Int))=false:=aep (by omega);have d4:decide (s.size≤t)=false:=aep (by omega);have hg:=get_bt s t h4;by_cases h5:bt s t=58;case neg=>
   have HF:Hid (M={}):=aen (by rw[HM.out,HR.out,if_neg (fun h=>h5 h.2)];rfl);have z1:(((bt s t:Nat):Int) != 58)=true:=by rw[aeB];omega
   clear HM HR;go_enter Tryz.func132,Tryz.ntmps132;go_wp2_with fail;with_reducible refine(uB.out _).mono ?_
   rintro e w0 ⟨rfl,rfl⟩;go_wp2_with fail;with_reducible refine(HL.out _).mono ?_
   rintro e w1 ⟨he,b1⟩;dsimp only [iZ] at he;subst he;obtain⟨HZ1,HB1⟩:=dI b1;have HZ:=ae.alloc HZ1 (.cells #[.string (mk l),.int .i64 (t:Nat),.bool true] 179);have HB:=HB1.alloc HB1.size (.cells #[.string (mk l),.int .i64 (t:Nat),.bool true] 179);clear b1 HZ1 HB1;obtain⟨k0,k1,k2,k3,k4,k5,k6,k7,k8,k9,k10,y0,y1,y2,y3,y4,y5,y6,y7,y8,y9,aj⟩:=ZM.facts HZ;go_wp2_with fail;exact tJ (ax HZ _ _ _ _ _ _ _ _ _ _ _) rfl rfl ⟨⟨_,rfl,by rw[HF.out];exact fE (m:={}) rfl (au HB (aeo _) _ _ _ _ _ _ _ _ _ _ _).size⟩,au HB (aeo _) _ _ _ _ _ _ _ _ _ _ _⟩
  have z1:(((bt s t:Nat):Int) != 58)=false:=by rw[h5];rfl
  have HR2:Hid (R=match bI s (ah s (t+1):Nat) with | none=>none | some d=>GV s l d.1 d.2):=aen (by rw[HR.out,if_pos ⟨h4,h5⟩];rfl);clear HR;have AZ:=aen fun W=>acr s t W hs h4;have HD:=aen fun W=>abm s (ah s (t+1):Nat) W hs;have hdl:∀r,bI s (ah s (t+1):Nat)=some r→r.2≤s.size:=fun r h=>(IX h).2.1;generalize ah s (t+1)=j at *;generalize bI s (j:Nat)=DR at *;unfold jO at HD;cases DR with
  |none=>
   have HF:Hid (M={}):=aen (by rw[HM.out,HR2.out];rfl);clear HM HR2 hdl;go_enter Tryz.func132,Tryz.ntmps132;go_wp2_with fail;with_reducible refine(uB.out _).mono ?_
   rintro e w0 ⟨rfl,rfl⟩;go_wp2_with fail;with_reducible refine(HL.out _).mono ?_
   rintro e w1 ⟨he,b1⟩;dsimp only [iZ] at he;subst he;obtain⟨HZ1,HB1⟩:=dI b1;have iR:=ae.alloc HZ1 (.cells #[.string (mk l),.int .i64 (t:Nat),.bool true] 179);have iT:=HB1.alloc HB1.size (.cells #[.string (mk l),.int .i64 (t:Nat),.bool true] 179);have iU:=ae.new w1 179 #[.string (mk l),.int .i64 (t:Nat),.bool true];clear b1 HZ1 HB1;go_wp2_with fail;with_reducible refine(AZ.out _).mono ?_
   rintro e w0 ⟨rfl,rfl⟩;go_wp2_with fail;with_reducible refine(HD.out _).mono ?_
   rintro e w2 ⟨he2,b2⟩;dsimp only [iZ] at he2;subst he2;have lH:=ae.below iR b2 iR.lt;have dH:=iT.trans (b2.mono iT.size);have hw2:=dH.size;have mD:=ae.below iU b2 iU.lt;clear b2 iR iT iU;have HZ:=ae.alloc lH (.cells #[.string ⟨#[]⟩,.int .i64 0,.bool false] 179);have HB:=dH.alloc dH.size (.cells #[.string ⟨#[]⟩,.int .i64 0,.bool false] 179);clear lH dH mD;obtain⟨k0,k1,k2,k3,k4,k5,k6,k7,k8,k9,k10,y0,y1,y2,y3,y4,y5,y6,y7,y8,y9,aj⟩:=ZM.facts HZ;go_wp2_with fail;exact tJ (ax HZ _ _ _ _ _ _ _ _ _ _ _) rfl rfl ⟨⟨_,rfl,by rw[HF.out];exact fE (m:={}) rfl (au HB (aeo _) _ _ _ _ _ _ _ _ _ _ _).size⟩,au HB (aeo _) _ _ _ _ _ _ _ _ _ _ _⟩
  |some d=>
   obtain⟨d,e0⟩:=d;have hel:e0≤s.size:=hdl _ rfl;simp only at HR2;clear hdl;have Eo:=aen fun W=>pP s e0 W hs hel;have HR3:Hid (R=if ah s e0=s.size then some (l,d,[]) else if ah s e0=e0 then none else match dD s (ah s e0:Nat) with | none=>none | some t=>if ah s t.2<s.size then none else some (l,d,t.1)):=HR2;clear HR2;have HT:=aen fun W=>abg s (ah s e0:Nat) W hs;have Ep:∀r,dD s (ah s e0:Nat)=some r→r.2≤s.size:=fun r h=>(IY h).2.1;generalize ah s e0=k at *;generalize dD s (k:Nat)=TR at *;unfold jO at HT;by_cases h6:k=s.size
   ·have HF:Hid (M={kind:=11,info:=mk l,dest:=mk d}):=aen (by rw[HM.out,HR3.out,if_pos h6];rfl);have z2:((k:Int)==(s.size:Int))=true:=by rw[beq_iff_eq];omega
    have z3:(k==s.size)=true:=by rw[beq_iff_eq];exact h6
    clear HM HR3 Ep HT;go_enter Tryz.func132,Tryz.ntmps132;go_wp2_with fail;with_reducible refine(uB.out _).mono ?_
    rintro e w0 ⟨rfl,rfl⟩;go_wp2_with fail;with_reducible refine(HL.out _).mono ?_
    rintro e w1 ⟨he,b1⟩;dsimp only [iZ] at he;subst he;obtain⟨HZ1,HB1⟩:=dI b1;have iR:=ae.alloc HZ1 (.cells #[.string (mk l),.int .i64 (t:Nat),.bool true] 179);have iT:=HB1.alloc HB1.size (.cells #[.string (mk l),.int .i64 (t:Nat),.bool true] 179);have iU:=ae.new w1 179 #[.string (mk l),.int .i64 (t:Nat),.bool true];clear b1 HZ1 HB1;go_wp2_with fail;with_reducible refine(AZ.out _).mono ?_
    rintro e w0 ⟨rfl,rfl⟩;go_wp2_with fail;with_reducible refine(HD.out _).mono ?_
    rintro e w2 ⟨he2,b2⟩;dsimp only [iZ] at he2;subst he2;have lH:=ae.below iR b2 iR.lt;have dH:=iT.trans (b2.mono iT.size);have hw2:=dH.size;have mD:=ae.below iU b2 iU.lt;clear b2 iR iT iU;have oG:=ae.alloc mD (.cells #[.string (mk d),.int .i64 (e0:Nat),.bool true] 179);have kz:=oG.cell 0;simp at kz;have jk:=ae.alloc (ae.alloc lH (.cells #[.string (mk d),.int .i64 (e0:Nat),.bool true] 179)) (.cells #[.int .i64 11,.int .i64 0,.string ⟨#[]⟩,.int .i64 0,.string (mk l),.string ⟨#[]⟩,.string (mk d),.string ⟨#[]⟩,.string ⟨#[]⟩,.slice none 0 0,.slice none 0 0] 74);have HBc:=(dH.alloc dH.size (.cells #[.string (mk d),.int .i64 (e0:Nat),.bool true] 179)).alloc (dH.alloc dH.size (.cells #[.string (mk d),.int .i64 (e0:Nat),.bool true] 179)).size (.cells #[.int .i64 11,.int .i64 0,.string ⟨#[]⟩,.int .i64 0,.string (mk l),.string ⟨#[]⟩,.string (mk d),.string ⟨#[]⟩,.string ⟨#[]⟩,.slice none 0 0,.slice none 0 0] 74);clear mD oG lH dH;go_wp2_with fail;with_reducible refine(Eo.out _).mono ?_
    rintro e w0 ⟨rfl,rfl⟩;obtain⟨k0,k1,k2,k3,k4,k5,k6,k7,k8,k9,k10,y0,y1,y2,y3,y4,y5,y6,y7,y8,y9,aj⟩:=ZM.facts jk;clear kz;go_wp2_with fail;exact tJ (ax jk _ _ _ _ _ _ _ _ _ _ _) rfl rfl ⟨⟨_,rfl,by rw[HF.out];exact fE (m:={kind:=11,info:=mk l,dest:=mk d}) rfl (au HBc (aeo _) _ _ _ _ _ _ _ _ _ _ _).size⟩,au HBc (aeo _) _ _ _ _ _ _ _ _ _ _ _⟩
   have z2:((k:Int)==(s.size:Int))=false:=by rw[aes];omega
   have z3:(k==s.size)=false:=by rw[aes];exact h6
   rw[if_neg h6] at HR3;by_cases h7:k=e0
   ·obtain rfl:e0=k:=h7.symm;have HF:Hid (M={}):=aen (by rw[HM.out,HR3.out,if_pos rfl];rfl);have z4:((e0:Int)==(e0:Int))=true:=beq_self_eq_true _;have z5:(e0==e0)=true:=beq_self_eq_true _;obtain⟨x,y,z,hv⟩:=TP TR;rw[hv] at HT;clear HM HR3 Ep hv;go_enter Tryz.func132,Tryz.ntmps132;go_wp2_with fail;with_reducible refine(uB.out _).mono ?_
    rintro e w0 ⟨rfl,rfl⟩;go_wp2_with fail;with_reducible refine(HL.out _).mono ?_
    rintro e w1 ⟨he,b1⟩;dsimp only [iZ] at he;subst he;obtain⟨HZ1,HB1⟩:=dI b1;have iR:=ae.alloc HZ1 (.cells #[.string (mk l),.int .i64 (t:Nat),.bool true] 179);have iT:=HB1.alloc HB1.size (.cells #[.string (mk l),.int .i64 (t:Nat),.bool true] 179);have iU:=ae.new w1 179 #[.string (mk l),.int .i64 (t:Nat),.bool true];clear b1 HZ1 HB1;go_wp2_with fail;with_reducible refine(AZ.out _).mono ?_
    rintro e w0 ⟨rfl,rfl⟩;go_wp2_with fail;with_reducible refine(HD.out _).mono ?_
    rintro e w2 ⟨he2,b2⟩;dsimp only [iZ] at he2;subst he2;have lH:=ae.below iR b2 iR.lt;have dH:=iT.trans (b2.mono iT.size);have hw2:=dH.size;have mD:=ae.below iU b2 iU.lt;clear b2 iR iT iU;have oG:=ae.alloc mD (.cells #[.string (mk d),.int .i64 (e0:Nat),.bool true] 179);have kz:=oG.cell 0;simp at kz;have jk:=ae.alloc (ae.alloc lH (.cells #[.string (mk d),.int .i64 (e0:Nat),.bool true] 179)) (.cells #[.int .i64 11,.int .i64 0,.string ⟨#[]⟩,.int .i64 0,.string (mk l),.string ⟨#[]⟩,.string (mk d),.string ⟨#[]⟩,.string ⟨#[]⟩,.slice none 0 0,.slice none 0 0] 74);have HBc:=(dH.alloc dH.size (.cells #[.string (mk d),.int .i64 (e0:Nat),.bool true] 179)).alloc (dH.alloc dH.size (.cells #[.string (mk d),.int .i64 (e0:Nat),.bool true] 179)).size (.cells #[.int .i64 11,.int .i64 0,.string ⟨#[]⟩,.int .i64 0,.string (mk l),.string ⟨#[]⟩,.string (mk d),.string ⟨#[]⟩,.string ⟨#[]⟩,.slice none 0 0,.slice none 0 0] 74);clear mD oG lH dH;go_wp2_with fail;with_reducible refine(Eo.out _).mono ?_
    rintro e w0 ⟨rfl,rfl⟩;have nO:=ae.alloc (ae.new w2 179 #[.string (mk d),.int .i64 (e0:Nat),.bool true]) (.cells #[.int .i64 11,.int .i64 0,.string ⟨#[]⟩,.int .i64 0,.string (mk l),.string ⟨#[]⟩,.string (mk d),.string ⟨#[]⟩,.string ⟨#[]⟩,.slice none 0 0,.slice none 0 0] 74);have mF:ae ((w2.alloc (.cells #[.string (mk d),.int .i64 (e0:Nat),.bool true] 179)).alloc (.cells #[.int .i64 11,.int .i64 0,.string ⟨#[]⟩,.int .i64 0,.string (mk l),.string ⟨#[]⟩,.string (mk d),.string ⟨#[]⟩,.string ⟨#[]⟩,.slice none 0 0,.slice none 0 0] 74)) (w2.heap.size+1) 74 #[.int .i64 11,.int .i64 0,.string ⟨#[]⟩,.int .i64 0,.string (mk l),.string ⟨#[]⟩,.string (mk d),.string ⟨#[]⟩,.string ⟨#[]⟩,.slice none 0 0,.slice none 0 0]:=by
     have:=ae.new (w2.alloc (.cells #[.string (mk d),.int .i64 (e0:Nat),.bool true] 179)) 74 #[.int .i64 11,.int .i64 0,.string ⟨#[]⟩,.int .i64 0,.string (mk l),.string ⟨#[]⟩,.string (mk d),.string ⟨#[]⟩,.string ⟨#[]⟩,.slice none 0 0,.slice none 0 0];simpa using this
    clear kz;go_wp2_with fail;with_reducible refine(HT.out _).mono ?_
    rintro e w3 ⟨he3,b3⟩;subst he3;have H5:=ae.alloc (ae.below nO b3 nO.lt) (.cells #[.string x,.int .i64 y,.bool z] 179);have H6:=ae.alloc (ae.below mF b3 mF.lt) (.cells #[.string x,.int .i64 y,.bool z] 179);have HZ:=ae.alloc (ae.below jk b3 jk.lt) (.cells #[.string x,.int .i64 y,.bool z] 179);have HB:=(HBc.trans (b3.mono HBc.size)).alloc (HBc.trans (b3.mono HBc.size)).size (.cells #[.string x,.int .i64 y,.bool z] 179);have zu:=H5.cell 1;simp at zu;clear b3 nO mF jk HBc H5;clear H6;obtain⟨k0,k1,k2,k3,k4,k5,k6,k7,k8,k9,k10,y0,y1,y2,y3,y4,y5,y6,y7,y8,y9,aj⟩:=ZM.facts HZ;go_wp2_with fail;exact tJ (ax HZ _ _ _ _ _ _ _ _ _ _ _) rfl rfl ⟨⟨_,rfl,by rw[HF.out];exact fE (m:={}) rfl (au HB (aeo _) _ _ _ _ _ _ _ _ _ _ _).size⟩,au HB (aeo _) _ _ _ _ _ _ _ _ _ _ _⟩
   have z4:((k:Int)==(e0:Int))=false:=by rw[aes];omega
   have z5:(k==e0)=false:=by rw[aes];exact h7
   rw[if_neg h7] at HR3;cases TR with
   |none=>
    have HF:Hid (M={}):=aen (by rw[HM.out,HR3.out];rfl);clear HM HR3 Ep;go_enter Tryz.func132,Tryz.ntmps132;go_wp2_with fail;with_reducible refine(uB.out _).mono ?_
    rintro e w0 ⟨rfl,rfl⟩;go_wp2_with fail;with_reducible refine(HL.out _).mono ?_
    rintro e w1 ⟨he,b1⟩;dsimp only [iZ] at he;subst he;obtain⟨HZ1,HB1⟩:=dI b1;have iR:=ae.alloc HZ1 (.cells #[.string (mk l),.int .i64 (t:Nat),.bool true] 179);have iT:=HB1.alloc HB1.size (.cells #[.string (mk l),.int .i64 (t:Nat),.bool true] 179);have iU:=ae.new w1 179 #[.string (mk l),.int .i64 (t:Nat),.bool true];clear b1 HZ1 HB1;go_wp2_with fail;with_reducible refine(AZ.out _).mono ?_
    rintro e w0 ⟨rfl,rfl⟩;go_wp2_with fail;with_reducible refine(HD.out _).mono ?_
    rintro e w2 ⟨he2,b2⟩;dsimp only [iZ] at he2;subst he2;have lH:=ae.below iR b2 iR.lt;have dH:=iT.trans (b2.mono iT.size);have hw2:=dH.size;have mD:=ae.below iU b2 iU.lt;clear b2 iR iT iU;have oG:=ae.alloc mD (.cells #[.string (mk d),.int .i64 (e0:Nat),.bool true] 179);have kz:=oG.cell 0;simp at kz;have jk:=ae.alloc (ae.alloc lH (.cells #[.string (mk d),.int .i64 (e0:Nat),.bool true] 179)) (.cells #[.int .i64 11,.int .i64 0,.string ⟨#[]⟩,.int .i64 0,.string (mk l),.string ⟨#[]⟩,.string (mk d),.string ⟨#[]⟩,.string ⟨#[]⟩,.slice none 0 0,.slice none 0 0] 74);have HBc:=(dH.alloc dH.size (.cells #[.string (mk d),.int .i64 (e0:Nat),.bool true] 179)).alloc (dH.alloc dH.size (.cells #[.string (mk d),.int .i64 (e0:Nat),.bool true] 179)).size (.cells #[.int .i64 11,.int .i64 0,.string ⟨#[]⟩,.int .i64 0,.string (mk l),.string ⟨#[]⟩,.string (mk d),.string ⟨#[]⟩,.string ⟨#[]⟩,.slice none 0 0,.slice none 0 0] 74);clear mD oG lH dH;go_wp2_with fail;with_reducible refine(Eo.out _).mono ?_
    rintro e w0 ⟨rfl,rfl⟩;have nO:=ae.alloc (ae.new w2 179 #[.string (mk d),.int .i64 (e0:Nat),.bool true]) (.cells #[.int .i64 11,.int .i64 0,.string ⟨#[]⟩,.int .i64 0,.string (mk l),.string ⟨#[]⟩,.string (mk d),.string ⟨#[]⟩,.string ⟨#[]⟩,.slice none 0 0,.slice none 0 0] 74);have mF:ae ((w2.alloc (.cells #[.string (mk d),.int .i64 (e0:Nat),.bool true] 179)).alloc (.cells #[.int .i64 11,.int .i64 0,.string ⟨#[]⟩,.int .i64 0,.string (mk l),.string ⟨#[]⟩,.string (mk d),.string ⟨#[]⟩,.string ⟨#[]⟩,.slice none 0 0,.slice none 0 0] 74)) (w2.heap.size+1) 74 #[.int .i64 11,.int .i64 0,.string ⟨#[]⟩,.int .i64 0,.string (mk l),.string ⟨#[]⟩,.string (mk d),.string ⟨#[]⟩,.string ⟨#[]⟩,.slice none 0 0,.slice none 0 0]:=by
     have:=ae.new (w2.alloc (.cells #[.string (mk d),.int .i64 (e0:Nat),.bool true] 179)) 74 #[.int .i64 11,.int .i64 0,.string ⟨#[]⟩,.int .i64 0,.string (mk l),.string ⟨#[]⟩,.string (mk d),.string ⟨#[]⟩,.string ⟨#[]⟩,.slice none 0 0,.slice none 0 0];simpa using this
    clear kz;go_wp2_with fail;with_reducible refine(HT.out _).mono ?_
    rintro e w3 ⟨he3,b3⟩;dsimp only [iZ] at he3;subst he3;have H5:=ae.alloc (ae.below nO b3 nO.lt) (.cells #[.string ⟨#[]⟩,.int .i64 0,.bool false] 179);have H6:=ae.alloc (ae.below mF b3 mF.lt) (.cells #[.string ⟨#[]⟩,.int .i64 0,.bool false] 179);have HZ:=ae.alloc (ae.below jk b3 jk.lt) (.cells #[.string ⟨#[]⟩,.int .i64 0,.bool false] 179);have HB:=(HBc.trans (b3.mono HBc.size)).alloc (HBc.trans (b3.mono HBc.size)).size (.cells #[.string ⟨#[]⟩,.int .i64 0,.bool false] 179);have zu:=H5.cell 1;simp at zu;clear b3 nO mF jk HBc H5;clear H6;obtain⟨k0,k1,k2,k3,k4,k5,k6,k7,k8,k9,k10,y0,y1,y2,y3,y4,y5,y6,y7,y8,y9,aj⟩:=ZM.facts HZ;go_wp2_with fail;exact tJ (ax HZ _ _ _ _ _ _ _ _ _ _ _) rfl rfl ⟨⟨_,rfl,by rw[HF.out];exact fE (m:={}) rfl (au HB (aeo _) _ _ _ _ _ _ _ _ _ _ _).size⟩,au HB (aeo _) _ _ _ _ _ _ _ _ _ _ _⟩
   |some p=>
    obtain⟨tt,q⟩:=p;have og:q≤s.size:=Ep _ rfl;simp only at HR3;clear Ep;have TQ:=aen fun W=>pP s q W hs og;generalize ah s q=u at *;by_cases h8:u<s.size
    ·have HF:Hid (M={}):=aen (by rw[HM.out,HR3.out,if_pos h8];rfl);have z6:decide ((u:Int)<(s.size:Int))=true:=aeq (by omega);have z7:decide (u<s.size)=true:=aeq h8;clear HM HR3;go_enter Tryz.func132,Tryz.ntmps132;go_wp2_with fail;with_reducible refine(uB.out _).mono ?_
     rintro e w0 ⟨rfl,rfl⟩;go_wp2_with fail;with_reducible refine(HL.out _).mono ?_
     rintro e w1 ⟨he,b1⟩;dsimp only [iZ] at he;subst he;obtain⟨HZ1,HB1⟩:=dI b1;have iR:=ae.alloc HZ1 (.cells #[.string (mk l),.int .i64 (t:Nat),.bool true] 179);have iT:=HB1.alloc HB1.size (.cells #[.string (mk l),.int .i64 (t:Nat),.bool true] 179);have iU:=ae.new w1 179 #[.string (mk l),.int .i64 (t:Nat),.bool true];clear b1 HZ1 HB1;go_wp2_with fail;with_reducible refine(AZ.out _).mono ?_
     rintro e w0 ⟨rfl,rfl⟩;go_wp2_with fail;with_reducible refine(HD.out _).mono ?_
     rintro e w2 ⟨he2,b2⟩;dsimp only [iZ] at he2;subst he2;have lH:=ae.below iR b2 iR.lt;have dH:=iT.trans (b2.mono iT.size);have hw2:=dH.size;have mD:=ae.below iU b2 iU.lt;clear b2 iR iT iU;have oG:=ae.alloc mD (.cells #[.string (mk d),.int .i64 (e0:Nat),.bool true] 179);have kz:=oG.cell 0;simp at kz;have jk:=ae.alloc (ae.alloc lH (.cells #[.string (mk d),.int .i64 (e0:Nat),.bool true] 179)) (.cells #[.int .i64 11,.int .i64 0,.string ⟨#[]⟩,.int .i64 0,.string (mk l),.string ⟨#[]⟩,.string (mk d),.string ⟨#[]⟩,.string ⟨#[]⟩,.slice none 0 0,.slice none 0 0] 74);have HBc:=(dH.alloc dH.size (.cells #[.string (mk d),.int .i64 (e0:Nat),.bool true] 179)).alloc (dH.alloc dH.size (.cells #[.string (mk d),.int .i64 (e0:Nat),.bool true] 179)).size (.cells #[.int .i64 11,.int .i64 0,.string ⟨#[]⟩,.int .i64 0,.string (mk l),.string ⟨#[]⟩,.string (mk d),.string ⟨#[]⟩,.string ⟨#[]⟩,.slice none 0 0,.slice none 0 0] 74);clear mD oG lH dH;go_wp2_with fail;with_reducible refine(Eo.out _).mono ?_
     rintro e w0 ⟨rfl,rfl⟩;have nO:=ae.alloc (ae.new w2 179 #[.string (mk d),.int .i64 (e0:Nat),.bool true]) (.cells #[.int .i64 11,.int .i64 0,.string ⟨#[]⟩,.int .i64 0,.string (mk l),.string ⟨#[]⟩,.string (mk d),.string ⟨#[]⟩,.string ⟨#[]⟩,.slice none 0 0,.slice none 0 0] 74);have mF:ae ((w2.alloc (.cells #[.string (mk d),.int .i64 (e0:Nat),.bool true] 179)).alloc (.cells #[.int .i64 11,.int .i64 0,.string ⟨#[]⟩,.int .i64 0,.string (mk l),.string ⟨#[]⟩,.string (mk d),.string ⟨#[]⟩,.string ⟨#[]⟩,.slice none 0 0,.slice none 0 0] 74)) (w2.heap.size+1) 74 #[.int .i64 11,.int .i64 0,.string ⟨#[]⟩,.int .i64 0,.string (mk l),.string ⟨#[]⟩,.string (mk d),.string ⟨#[]⟩,.string ⟨#[]⟩,.slice none 0 0,.slice none 0 0]:=by
      have:=ae.new (w2.alloc (.cells #[.string (mk d),.int .i64 (e0:Nat),.bool true] 179)) 74 #[.int .i64 11,.int .i64 0,.string ⟨#[]⟩,.int .i64 0,.string (mk l),.string ⟨#[]⟩,.string (mk d),.string ⟨#[]⟩,.string ⟨#[]⟩,.slice none 0 0,.slice none 0 0];simpa using this
     clear kz;go_wp2_with fail;with_reducible refine(HT.out _).mono ?_
     rintro e w3 ⟨he3,b3⟩;dsimp only [iZ] at he3;subst he3;have H5:=ae.alloc (ae.below nO b3 nO.lt) (.cells #[.string (mk tt),.int .i64 (q:Nat),.bool true] 179);have H6:=ae.alloc (ae.below mF b3 mF.lt) (.cells #[.string (mk tt),.int .i64 (q:Nat),.bool true] 179);have HZ:=ae.alloc (ae.below jk b3 jk.lt) (.cells #[.string (mk tt),.int .i64 (q:Nat),.bool true] 179);have HB:=(HBc.trans (b3.mono HBc.size)).alloc (HBc.trans (b3.mono HBc.size)).size (.cells #[.string (mk tt),.int .i64 (q:Nat),.bool true] 179);have zu:=H5.cell 1;simp at zu;clear b3 nO mF jk HBc H5;clear H6;go_wp2_with fail;with_reducible refine(TQ.out _).mono ?_
     rintro e w0 ⟨rfl,rfl⟩;obtain⟨k0,k1,k2,k3,k4,k5,k6,k7,k8,k9,k10,y0,y1,y2,y3,y4,y5,y6,y7,y8,y9,aj⟩:=ZM.facts HZ;go_wp2_with fail;exact tJ (ax HZ _ _ _ _ _ _ _ _ _ _ _) rfl rfl ⟨⟨_,rfl,by rw[HF.out];exact fE (m:={}) rfl (au HB (aeo _) _ _ _ _ _ _ _ _ _ _ _).size⟩,au HB (aeo _) _ _ _ _ _ _ _ _ _ _ _⟩
    ·have HF:Hid (M={kind:=11,info:=mk l,dest:=mk d,title:=mk tt}):=aen (by rw[HM.out,HR3.out,if_neg h8];rfl);have z6:decide ((u:Int)<(s.size:Int))=false:=aep (by omega);have z7:decide (u<s.size)=false:=aep h8;clear HM HR3;go_enter Tryz.func132,Tryz.ntmps132;go_wp2_with fail;with_reducible refine(uB.out _).mono ?_
     rintro e w0 ⟨rfl,rfl⟩;go_wp2_with fail;with_reducible refine(HL.out _).mono ?_
     rintro e w1 ⟨he,b1⟩;dsimp only [iZ] at he;subst he;obtain⟨HZ1,HB1⟩:=dI b1;have iR:=ae.alloc HZ1 (.cells #[.string (mk l),.int .i64 (t:Nat),.bool true] 179);have iT:=HB1.alloc HB1.size (.cells #[.string (mk l),.int .i64 (t:Nat),.bool true] 179);have iU:=ae.new w1 179 #[.string (mk l),.int .i64 (t:Nat),.bool true];clear b1 HZ1 HB1;go_wp2_with fail;with_reducible refine(AZ.out _).mono ?_
     rintro e w0 ⟨rfl,rfl⟩;go_wp2_with fail;with_reducible refine(HD.out _).mono ?_
     rintro e w2 ⟨he2,b2⟩;dsimp only [iZ] at he2;subst he2;have lH:=ae.below iR b2 iR.lt;have dH:=iT.trans (b2.mono iT.size);have hw2:=dH.size;have mD:=ae.below iU b2 iU.lt;clear b2 iR iT iU;have oG:=ae.alloc mD (.cells #[.string (mk d),.int .i64 (e0:Nat),.bool true] 179);have kz:=oG.cell 0;simp at kz;have jk:=ae.alloc (ae.alloc lH (.cells #[.string (mk d),.int .i64 (e0:Nat),.bool true] 179)) (.cells #[.int .i64 11,.int .i64 0,.string ⟨#[]⟩,.int .i64 0,.string (mk l),.string ⟨#[]⟩,.string (mk d),.string ⟨#[]⟩,.string ⟨#[]⟩,.slice none 0 0,.slice none 0 0] 74);have HBc:=(dH.alloc dH.size (.cells #[.string (mk d),.int .i64 (e0:Nat),.bool true] 179)).alloc (dH.alloc dH.size (.cells #[.string (mk d),.int .i64 (e0:Nat),.bool true] 179)).size (.cells #[.int .i64 11,.int .i64 0,.string ⟨#[]⟩,.int .i64 0,.string (mk l),.string ⟨#[]⟩,.string (mk d),.string ⟨#[]⟩,.string ⟨#[]⟩,.slice none 0 0,.slice none 0 0] 74);clear mD oG lH dH;go_wp2_with fail;with_reducible refine(Eo.out _).mono ?_
     rintro e w0 ⟨rfl,rfl⟩;have nO:=ae.alloc (ae.new w2 179 #[.string (mk d),.int .i64 (e0:Nat),.bool true]) (.cells #[.int .i64 11,.int .i64 0,.string ⟨#[]⟩,.int .i64 0,.string (mk l),.string ⟨#[]⟩,.string (mk d),.string ⟨#[]⟩,.string ⟨#[]⟩,.slice none 0 0,.slice none 0 0] 74);have mF:ae ((w2.alloc (.cells #[.string (mk d),.int .i64 (e0:Nat),.bool true] 179)).alloc (.cells #[.int .i64 11,.int .i64 0,.string ⟨#[]⟩,.int .i64 0,.string (mk l),.string ⟨#[]⟩,.string (mk d),.string ⟨#[]⟩,.string ⟨#[]⟩,.slice none 0 0,.slice none 0 0] 74)) (w2.heap.size+1) 74 #[.int .i64 11,.int .i64 0,.string ⟨#[]⟩,.int .i64 0,.string (mk l),.string ⟨#[]⟩,.string (mk d),.string ⟨#[]⟩,.string ⟨#[]⟩,.slice none 0 0,.slice none 0 0]:=by
      have:=ae.new (w2.alloc (.cells #[.string (mk d),.int .i64 (e0:Nat),.bool true] 179)) 74 #[.int .i64 11,.int .i64 0,.string ⟨#[]⟩,.int .i64 0,.string (mk l),.string ⟨#[]⟩,.string (mk d),.string ⟨#[]⟩,.string ⟨#[]⟩,.slice none 0 0,.slice none 0 0];simpa using this
     clear kz;go_wp2_with fail;with_reducible refine(HT.out _).mono ?_
     rintro e w3 ⟨he3,b3⟩;dsimp only [iZ] at he3;subst he3;have H5:=ae.below nO b3 nO.lt;have H6:=ae.below mF b3 mF.lt;have HZ:=ae.below jk b3 jk.lt;have HB:=HBc.trans (b3.mono HBc.size);have zu:=H5.cell 1;simp at zu;have hne:w.heap.size≠w2.heap.size+1:=fun e=>by
      have h1:=jk.cell 0;rw[e,mF.cell 0] at h1;injection h1 with h1
      injection h1 with _ h1
      omega
     have aec:=H6.lt;have hltz:=HZ.lt;have aaV:=H5.lt;obtain⟨m0,m1,m2,m3,m4,m5,m6,m7,m8,m9,m10,-,-,-,-,-,-,-,x7,-⟩:=az H6;have iG:=aen HZ;have jZ:=aen HB;clear b3 nO mF jk HBc H5 H6 HZ HB;go_wp2_with fail;with_reducible refine(TQ.out _).mono ?_
     rintro e w0 ⟨rfl,rfl⟩;obtain⟨k0,k1,k2,k3,k4,k5,k6,k7,k8,k9,k10,y0,y1,y2,y3,y4,y5,y6,y7,y8,y9,aj⟩:=ZM.facts iG.out;go_wp2_with fail;have hB1:=au (jZ.out.setCell (p:=⟨w2.heap.size+1,7,none⟩) (Nat.le_succ_of_le hw2) (.string (mk tt))) (aeo w.heap.size) (.int .i64 11) (.int .i64 0) (.string ⟨#[]⟩) (.int .i64 0) (.string (mk l)) (.string ⟨#[]⟩) (.string (mk d)) (.string (mk tt)) (.string ⟨#[]⟩) (.slice none 0 0) (.slice none 0 0);have hB2:=hB1.alloc hB1.size (.cells #[.string (mk tt),.int .i64 (q:Nat),.bool true] 179);have hZ2:=ae.alloc (ax (ae.far iG.out (p:=⟨w2.heap.size+1,7,none⟩) hne (.string (mk tt))) (.int .i64 11) (.int .i64 0) (.string ⟨#[]⟩) (.int .i64 0) (.string (mk l)) (.string ⟨#[]⟩) (.string (mk d)) (.string (mk tt)) (.string ⟨#[]⟩) (.slice none 0 0) (.slice none 0 0)) (.cells #[.string (mk tt),.int .i64 (q:Nat),.bool true] 179);refine tJ hZ2 rfl rfl ⟨⟨_,rfl,?_⟩,hB2⟩;rw[HF.out];exact fE (m:={kind:=11,info:=mk l,dest:=mk d,title:=mk tt}) rfl hB2.size
theorem acu(s:ByteArray)(h3:ah s 0≤3):uA (zo s)=jD (ext s (ah s 0)):=by
 have hil:=kC s;have hr:FK s=(iI (ext s (ah s 0)) 0).bind fun b=>if b.2<(ext s (ah s 0)).size∧bt (ext s (ah s 0)) b.2=58 then tY b.1 (cZ ((ext s (ah s 0)).extract (b.2+1) (ext s (ah s 0)).size)) else none:=by
  unfold FK;rw[LX,if_neg (by rw[ext_size];omega)]
 rw[abH,hr,←abK]
def nine(c:ByteArray)(ind:Nat):List (Option ag):=[kH c,kJ c,lS c ind,nN c ind,kG c ind,jL c,kK c,jC c,jD c]
theorem acv{c:ByteArray}{ind:Nat}{m:ag}(h:nN c ind=some m):m.kind≠0:=by
 unfold nN vZ at h;split at h
 ·injection h with h
  subst h;show (if _ then 5 else 6)≠0;split <;> decide
 ·cases h
theorem acw{c:ByteArray}{ind:Nat}{m:ag}(h:some m∈nine c ind):m.kind≠0:=by
 unfold nine at h;simp only[List.mem_cons,List.not_mem_nil,or_false] at h;rcases h with h|h|h|h|h|h|h|h|h
 ·have:=CY h.symm;omega
 ·have:=CZ h.symm;omega
 ·obtain⟨_,rfl⟩:=Ah h.symm;exact(by decide:(4:Nat)≠0)
 ·exact acv h.symm
 ·have:=Gf h.symm;omega
 ·have:=Df h.symm;omega
 ·have:=Dh h.symm;omega
 ·obtain⟨_,rfl⟩:=Ai h.symm;exact(by decide:(10:Nat)≠0)
 ·have:=Di h.symm;omega
theorem acy{o:Option ag}(h:∀m,o=some m→m.kind≠0):(o.getD {}).kind=0↔o=none:=by
 cases o with
 |none=>exact⟨fun _=>rfl,fun _=>rfl⟩
 |some m=>exact⟨fun e=>absurd e (h m rfl),fun e=>by cases e⟩
end Go.Proofs.YtpoafhgbhnblmaaGreatDoor
