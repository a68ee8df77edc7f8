import Derived.Test.YtpoafhgbhnblmaaGreatDoorF09
set_option linter.unusedVariables false
set_option linter.unusedSimpArgs false
set_option maxRecDepth 100000
set_option maxHeartbeats 20000000
namespace Go.Proofs.YtpoafhgbhnblmaaGreatDoor
open Go.Proofs.Tryz (prog)
open Go.RowKit
def ak:AttrL:=⟨⟨#[]⟩,[],[]⟩
def fV(s:ByteArray):Nat→Nat→Bool→AttrL→AttrL × Nat × Nat
 |0,_,_,_=>(ak,0,5)
 |f+1,i,sep,a=>
  if i<s.size then
   (if bt s i=125 then (a,i+1,0)
    else if sep=false then (ak,0,5)
    else if (bG a s i).2.1=0 then fV s f (bW s (bG a s i).1) (decide ((bG a s i).1<bW s (bG a s i).1)) (bG a s i).2.2
    else (ak,0,(bG a s i).2.1))
  else (ak,0,5)
def aN(s:ByteArray)(i:Int):AttrL × Nat × Nat:=
 if 0≤i∧i<s.size∧bt s i.toNat=123 then fV s (s.size+1) (bW s (i.toNat+1)) true ak else (ak,0,5)
structure tC(w:World)(base:Nat)(v:Value)(a:AttrL):Prop where
 val:∃vC vP,v=.agg #[.string a.id,vC,vP]∧w.ownsRow base 9 1 vC a.cl.length (strs a.cl)∧w.ownsRow base 81 2 vP a.pr.length (aH a.pr)
 c32:a.cl.length≤32
 p32:a.pr.length≤32
def wM(r:AttrL × Nat × Nat)(w:World)(e:Ending)(w':World):Prop:=
 ∃v,e=.returned (.tuple #[v,.int .i64 r.2.1,.int .i64 r.2.2])∧tC w' w.heap.size v r.1∧Below w.heap.size w w'
structure wO(s:ByteArray)(w:World)(k:Nat)(a:AttrL)(wr:World):Prop where
 str:ae wr w.heap.size 9 #[.string s]
 res:ae wr (w.heap.size+1) 43 #[.string ⟨#[]⟩,.slice none 0 0,.slice none 0 0]
 xQ:ae wr (w.heap.size+1+1+1) 3 #[.int .i64 k]
 att:iY wr (w.heap.size+1+1) (w.heap.size+1+1+1+1) a
 bel:Below w.heap.size w wr
theorem Xo(s:ByteArray)(w:World)(n:Nat):wO s w (n+1) ak ((((w.alloc (.cells #[.string s] 9)).alloc (.cells #[.string ⟨#[]⟩,.slice none 0 0,.slice none 0 0] 43)).alloc (.cells #[.string ⟨#[]⟩,.slice none 0 0,.slice none 0 0] 43)).alloc (.cells #[.int .i64 ((n:Int)+1)] 3)):=by
 refine⟨(((ae.new _ _ _).alloc _).alloc _).alloc _,?_,?_,⟨.slice none 0 0,.slice none 0 0,?_,World.ownsRow_nil _ _ _ _,World.ownsRow_nil _ _ _ _,by omega,by simp,by decide,by decide⟩,?_⟩
 ·have:=((ae.new (w.alloc (.cells #[.string s] 9)) 43 #[.string ⟨#[]⟩,.slice none 0 0,.slice none 0 0]).alloc (.cells #[.string ⟨#[]⟩,.slice none 0 0,.slice none 0 0] 43)).alloc (.cells #[.int .i64 ((n:Int)+1)] 3);simpa using this
 ·have:=ae.new (((w.alloc (.cells #[.string s] 9)).alloc (.cells #[.string ⟨#[]⟩,.slice none 0 0,.slice none 0 0] 43)).alloc (.cells #[.string ⟨#[]⟩,.slice none 0 0,.slice none 0 0] 43)) 3 #[.int .i64 ((n:Int)+1)];rw[wL];simpa using this
 ·have:=(ae.new ((w.alloc (.cells #[.string s] 9)).alloc (.cells #[.string ⟨#[]⟩,.slice none 0 0,.slice none 0 0] 43)) 43 #[.string ⟨#[]⟩,.slice none 0 0,.slice none 0 0]).alloc (.cells #[.int .i64 ((n:Int)+1)] 3);show ae _ _ _ #[.string ⟨#[]⟩,.slice none 0 0,.slice none 0 0];simpa using this
 ·exact((((aer _ _).alloc (aeo _) _).alloc (by simp) _).alloc (by simp;omega) _).alloc (by simp;omega) _
theorem E8{w w':World}{base size n g:Nat}{e:TypeId}{v:Value}{xs:List Value}(h:w.ownsRow base e size v n xs)(hg:w.grownBy w' (some g))(hlt:g<base):w'.ownsRow base e size v n xs:=
 h.kept hg (by
  cases hv:v.ownBlock with
  |none=>exact Or.inl rfl
  |some b=>
   right;intro e0;have:=(h.lt b hv).1;injection e0 with e0
   omega)
theorem Ph{s:ByteArray}{w wr w1:World}{k k1:Nat}{a:AttrL}(h:wO s w k a wr)(hb:ae w1 (w.heap.size+1+1+1) 3 #[.int .i64 k1])(hg:wr.grownBy w1 (some (w.heap.size+1+1+1))):wO s w k1 a w1:=by
 obtain⟨vC,vP,hA⟩:=h.att;refine⟨h.str.grown hg (by simp;omega),h.res.grown hg (by simp),hb,⟨vC,vP,hA.blk.grown hg (by simp),E8 hA.cls hg (by omega),E8 hA.aH hg (by omega),hA.lt,aev hA.le hg.size,hA.c32,hA.p32⟩,?_⟩;exact h.bel.grown hg h.bel.size (fun k hk=>by injection hk with hk;omega)
theorem Pj{s:ByteArray}{w wr w1:World}{k k1:Nat}{a a1:AttrL}(h:wO s w k a wr)(hA:iY w1 (w.heap.size+1+1) (w.heap.size+1+1+1+1) a1)(hg:gp (w.heap.size+1+1) (w.heap.size+1+1+1+1) wr w1) :
 wO s w k1 a1 (w1.setCell ⟨w.heap.size+1+1+1,0,none⟩ (.int .i64 k1)):=by
 obtain⟨vC,vP,hA⟩:=hA;refine⟨(hg.blk h.str (by omega) (by omega)).far (by simp;omega) _,(hg.blk h.res (by omega) (by omega)).far (by simp) _,?_,⟨vC,vP,hA.blk.far (by simp) _,ownsRow_setCell_below hA.cls (by simp) _,ownsRow_setCell_below hA.aH (by simp) _,hA.lt,by simpa [World.setCell] using hA.le,hA.c32,hA.p32⟩,?_⟩
 ·have:=(hg.blk h.xQ (by omega) (by omega)).bJ 0 (.int .i64 k1);simpa using this
 ·exact(h.bel.trans (hg.below (by omega) (by omega))).setCell (by simp;omega) _
theorem Pm(s:ByteArray)(f k:Nat)(b:Bool)(a:AttrL)(h:¬k<s.size):fV s f k b a=(ak,0,5):=by
 cases f with
 |zero=>rfl
 |succ f=>unfold fV;rw[if_neg h]
theorem Pn(s:ByteArray)(f k:Nat)(b:Bool)(a:AttrL)(h:k<s.size)(hf:s.size<k+f)(hb:bt s k=125):fV s f k b a=(a,k+1,0):=by
 obtain⟨g,rfl⟩:∃g,f=g+1:=⟨f - 1,by omega⟩;unfold fV;rw[if_pos h,if_pos hb]
theorem Po(s:ByteArray)(f k:Nat)(a:AttrL)(h:k<s.size)(hb:bt s k≠125):fV s f k false a=(ak,0,5):=by
 cases f with
 |zero=>rfl
 |succ f=>unfold fV;rw[if_pos h,if_neg hb,if_pos rfl]
theorem Pq(s:ByteArray)(f k:Nat)(a:AttrL)(h:k<s.size)(hf:s.size<k+f)(hb:bt s k≠125)(he:(bG a s k).2.1≠0):fV s f k true a=(ak,0,(bG a s k).2.1):=by
 obtain⟨g,rfl⟩:∃g,f=g+1:=⟨f - 1,by omega⟩;unfold fV;rw[if_pos h,if_neg hb,if_neg (by decide),if_neg he]
theorem Pv(s:ByteArray)(f k:Nat)(a:AttrL)(h:k<s.size)(hf:s.size<k+f)(hb:bt s k≠125)(he:(bG a s k).2.1=0):fV s f k true a=fV s (f - 1) (bW s (bG a s k).1) (decide ((bG a s k).1<bW s (bG a s k).1)) (bG a s k).2.2:=by
 obtain⟨g,rfl⟩:∃g,f=g+1:=⟨f - 1,by omega⟩;rw[Nat.add_sub_cancel,fV,if_pos h,if_neg hb,if_neg (by decide),if_pos he]
theorem Jn{s:ByteArray}{w wr:World}{k:Nat}{a:AttrL}(h:wO s w k a wr) :
 ae (((wr.setCell ⟨w.heap.size+1,0,none⟩ (.string ⟨#[]⟩)).setCell ⟨w.heap.size+1,1,none⟩ (.slice none 0 0)).setCell ⟨w.heap.size+1,2,none⟩ (.slice none 0 0)) (w.heap.size+1) 43 #[.string ⟨#[]⟩,.slice none 0 0,.slice none 0 0]∧
 tC (((wr.setCell ⟨w.heap.size+1,0,none⟩ (.string ⟨#[]⟩)).setCell ⟨w.heap.size+1,1,none⟩ (.slice none 0 0)).setCell ⟨w.heap.size+1,2,none⟩ (.slice none 0 0)) w.heap.size (.agg #[.string ⟨#[]⟩,.slice none 0 0,.slice none 0 0]) ak∧
 Below w.heap.size w (((wr.setCell ⟨w.heap.size+1,0,none⟩ (.string ⟨#[]⟩)).setCell ⟨w.heap.size+1,1,none⟩ (.slice none 0 0)).setCell ⟨w.heap.size+1,2,none⟩ (.slice none 0 0)):=by
 refine⟨?_,⟨⟨_,_,rfl,World.ownsRow_nil _ _ _ _,World.ownsRow_nil _ _ _ _⟩,by decide,by decide⟩,((h.bel.setCell (by simp) _).setCell (by simp) _).setCell (by simp) _⟩;have:=((h.res.bJ 0 (.string ⟨#[]⟩)).bJ 1 (.slice none 0 0)).bJ 2 (.slice none 0 0);simpa using this
theorem Fa{w:World}{base base' size n:Nat}{e:TypeId}{v:Value}{xs:List Value}(h:w.ownsRow base e size v n xs)(hb:base'≤base):w.ownsRow base' e size v n xs:=by
 obtain⟨h1,h2⟩:=h;refine⟨h1,?_⟩;rcases h2 with h2|⟨g,cap,cur,hv,hg,r⟩
 ·exact Or.inl h2
 ·exact Or.inr ⟨g,cap,cur,hv,by omega,r⟩
theorem Xp{s:ByteArray}{w wr:World}{k:Nat}{a:AttrL}{vC vP:Value}(h:wO s w k a wr)(hA:tu wr (w.heap.size+1+1) (w.heap.size+1+1+1+1) a vC vP) :
 ae (((wr.setCell ⟨w.heap.size+1,0,none⟩ (.string a.id)).setCell ⟨w.heap.size+1,1,none⟩ vC).setCell ⟨w.heap.size+1,2,none⟩ vP).drew (w.heap.size+1) 43 #[.string a.id,vC,vP]∧
 tC (((wr.setCell ⟨w.heap.size+1,0,none⟩ (.string a.id)).setCell ⟨w.heap.size+1,1,none⟩ vC).setCell ⟨w.heap.size+1,2,none⟩ vP).drew w.heap.size (.agg #[.string a.id,vC,vP]) a∧
 Below w.heap.size w (((wr.setCell ⟨w.heap.size+1,0,none⟩ (.string a.id)).setCell ⟨w.heap.size+1,1,none⟩ vC).setCell ⟨w.heap.size+1,2,none⟩ vP).drew:=by
 refine⟨?_,⟨⟨_,_,rfl,?_,?_⟩,hA.c32,hA.p32⟩,(((h.bel.setCell (by simp) _).setCell (by simp) _).setCell (by simp) _).drew⟩
 ·have:=((h.res.bJ 0 (.string a.id)).bJ 1 vC).bJ 2 vP;simp at this;exact this
 ·exact Fa (ownsRow_setCell_below (ownsRow_setCell_below (ownsRow_setCell_below hA.cls (by simp) _) (by simp) _) (by simp) _) (by omega)
 ·exact Fa (ownsRow_setCell_below (ownsRow_setCell_below (ownsRow_setCell_below hA.aH (by simp) _) (by simp) _) (by simp) _) (by omega)
theorem Jo(s:ByteArray)(i:Nat)(hi:i≤s.size)(h:nameB (nameAt s i)=true):i<wordAt s i∧wordAt s i≤s.size:=by
 have hwb:=pZ s (s.size - i) i;have hw1:i≤wordAt s i:=hwb.1;have hw2:wordAt s i≤s.size:=hwb.2 hi;unfold nameB at h;simp only[Bool.and_eq_true,decide_eq_true_eq] at h;have:=h.1.1.1;unfold nameAt at this;rw[extract_size s i _ hw1 hw2] at this;exact⟨by omega,hw2⟩
theorem Px(s:ByteArray)(i:Nat)(hi:i≤s.size)(h:(dM s i).2.2=true):i≤(dM s i).2.1∧(dM s i).2.1≤s.size:=by
 unfold dM at h ⊢;by_cases c:i<s.size∧bt s i=34
 ·rw[if_pos c] at h ⊢;cases hq:qv s s.size (i+1) [] with
  |none=>rw[hq] at h;cases h
  |some p=>
   obtain⟨l,j⟩:=p;have:=wK s _ _ _ l j hq;show i≤j∧j≤s.size;omega
 ·rw[if_neg c] at h ⊢;have hwb:=pZ s (s.size - i) i;exact⟨hwb.1,hwb.2 hi⟩
theorem BZ(a:AttrL)(s:ByteArray)(i:Nat)(hi:i<s.size)(he:(bG a s i).2.1=0):i<(bG a s i).1∧(bG a s i).1≤s.size:=by
 unfold bG at he ⊢;by_cases c1:bt s i=35
 ·rw[if_pos c1] at he ⊢;by_cases c2:nameB (nameAt s (i+1))=true
  ·rw[if_pos c2] at he ⊢;have:=Jo s (i+1) (by omega) c2;by_cases c3:a.id=⟨#[]⟩
   ·rw[if_pos c3];exact⟨by show i<wordAt s (i+1);omega,this.2⟩
   ·rw[if_neg c3] at he;cases he
  ·rw[if_neg c2] at he;cases he
 ·rw[if_neg c1] at he ⊢;by_cases c4:bt s i=46
  ·rw[if_pos c4] at he ⊢;by_cases c2:nameB (nameAt s (i+1))=true
   ·rw[if_pos c2];have:=Jo s (i+1) (by omega) c2;exact⟨by show i<wordAt s (i+1);omega,this.2⟩
   ·rw[if_neg c2] at he;cases he
  ·rw[if_neg c4] at he ⊢;by_cases c2:nameB (nameAt s i)=true
   ·rw[if_pos c2] at he ⊢;have hn:=Jo s i (by omega) c2;unfold qV at he ⊢;by_cases c5:wordAt s i<s.size∧bt s (wordAt s i)=61
    ·rw[if_pos c5] at he ⊢;by_cases c6:(dM s (wordAt s i+1)).2.2=true
     ·rw[if_pos c6];have:=Px s (wordAt s i+1) (by omega) c6;exact⟨by show i<(dM s (wordAt s i+1)).2.1;omega,this.2⟩
     ·rw[if_neg c6] at he;cases he
    ·rw[if_neg c5] at he;cases he
   ·rw[if_neg c2] at he;cases he
theorem xR{W:World}{g:Nat}{x y z a5 a6:Value}{P:Ending→World→Prop}{act:Act}(hr:ae W g 43 #[x,y,z])(h4:act.tmps.getD 4 undef=.pointer (some ⟨g,0,none⟩))
 (h5:act.tmps.getD 5 undef=a5) (h6:act.tmps.getD 6 undef=a6) (hd:act.defers=[]) (hP:P (.returned (.tuple #[.agg #[x,y,z],a5,a6])) W):bodyPost prog Tryz.f148 P Exit.ret act W:=by
 have c0:W.cell? ⟨g,0,none⟩=some x:=hr.cell 0;have c1:W.cell? ⟨g,1,none⟩=some y:=hr.cell 1;have c2:W.cell? ⟨g,2,none⟩=some z:=hr.cell 2;refine bodyPost_ret (v:=.tuple #[.agg #[x,y,z],a5,a6]) ?_ hd hP;rw[aew] at h4 h5 h6;simp[results,Tryz.results148,go_sem,h4,h5,h6,c0,c1,c2]
theorem Xq(w:World)(s:ByteArray)(n:Nat)(hs:s.size≤1000000)(hn:n<s.size)(hb:bt s n=123) :
 Calls prog 148 #[.string s,.int .i64 n] w (wM (fV s (s.size+1) (bW s (n+1)) true ak) w):=by
 have hlt:((s[n].toNat:Nat):Int)<256:=by rw[get_bt s n hn];have:=aK s n;omega
 have z1:(((s[n].toNat:Nat):Int) != 123)=false:=by rw[get_bt s n hn,hb];rfl
 have d1:decide (s.size≤n)=false:=aep (by omega);clear hb;have HS:=aen (Xo s w n);have hsb:=xP s (s.size - (n+1)) (n+1);have adM:n+1≤bW s (n+1):=hsb.1;have Xr:bW s (n+1)≤s.size:=hsb.2 (by omega);clear hsb;generalize hR:fV s (s.size+1) (bW s (n+1)) true ak=R at *;have HR:=aen hR;clear hR;go_enter Tryz.func148,Tryz.ntmps148;go_wp2_with fail;refine(Pg _ s (n+1) w.heap.size (w.heap.size+1+1+1) hs HS.out.str HS.out.xQ (by omega) (by omega)).mono ?_;rintro e w1 ⟨rfl,hk1,hg1⟩;have HP:=aen (Ph HS.out hk1 hg1);clear hk1 hg1;go_wp2_with fail;go_loopw [11] (fun sep wr=>∃(k f:Nat) (b:Bool) (a:AttrL),sep=.bool b∧Hid (wO s w k a wr)∧Hid (fV s f k b a=R)∧s.size<k+f∧k≤s.size) (fun _ wr=>s.size - cellNat wr (w.heap.size+1+1+1));case atStart=>exact⟨bW s (n+1),s.size+1,true,ak,rfl,HP,HR,by omega,Xr⟩
 case round=>
  obtain⟨k,f,b,a,rfl,KP,KR,xU,hks⟩:=hrel;have c1:wr.cell? ⟨w.heap.size,0,none⟩=some (.string s):=KP.out.str.cell 0;have c2:wr.cell? ⟨w.heap.size+1+1+1,0,none⟩=some (.int .i64 k):=KP.out.xQ.cell 0;have r0:wr.cell? ⟨w.heap.size+1,0,none⟩=some (.string ⟨#[]⟩):=KP.out.res.cell 0;have r1:wr.cell? ⟨w.heap.size+1,1,none⟩=some (.slice none 0 0):=KP.out.res.cell 1;have r2:wr.cell? ⟨w.heap.size+1,2,none⟩=some (.slice none 0 0):=KP.out.res.cell 2;have q0:=KP.out.res.frozen 0;have q1:=KP.out.res.frozen 1;have q2:=KP.out.res.frozen 2;by_cases hk:k<s.size
  ·have hlk:((s[k].toNat:Nat):Int)<256:=by rw[get_bt s k hk];have:=aK s k;omega
   have dk:decide (s.size≤k)=false:=aep (by omega);by_cases lQ:bt s k=125
   ·have z2:(((s[k].toNat:Nat):Int)==125)=true:=by rw[get_bt s k hk,lQ];rfl
    have hT:Hid (R=(a,k+1,0)):=aen (by rw[←KR.out,Pn s f k b a hk xU lQ]);obtain⟨vC,vP,hA⟩:=KP.out.att;have KA:=aen hA;have a0:wr.cell? ⟨w.heap.size+1+1,0,none⟩=some (.string a.id):=hA.blk.cell 0;have a1:wr.cell? ⟨w.heap.size+1+1,1,none⟩=some vC:=hA.blk.cell 1;have a2:wr.cell? ⟨w.heap.size+1+1,2,none⟩=some vP:=hA.blk.cell 2;obtain⟨AC,cC,rfl⟩:=ay hA.cls;obtain⟨AP,cP,rfl⟩:=ay hA.aH;clear lQ hA;have hfin:=aen (Xp KP.out KA.out);go_wp2;go_region;go_wp2;refine xR hfin.out.1 rfl rfl rfl rfl ?_;rw[hT.out];exact⟨_,rfl,hfin.out.2.1,hfin.out.2.2⟩
   ·have z2:(((s[k].toNat:Nat):Int)==125)=false:=by rw[get_bt s k hk,aes];omega
    cases b
    ·have hT:Hid (R=(ak,0,5)):=aen (by rw[←KR.out,Po s f k a hk lQ]);have hfin:=aen (Jn KP.out);clear lQ;go_wp2;refine xR hfin.out.1 rfl rfl rfl rfl ?_;rw[hT.out];exact⟨_,rfl,hfin.out.2.1,hfin.out.2.2⟩
    ·have HI:=aen (Xn wr s k (w.heap.size+1+1) w.heap.size (w.heap.size+1+1+1) (w.heap.size+1+1+1+1) a hs KP.out.str KP.out.xQ KP.out.att (by omega) (by omega) hk);have hbd:=aen (BZ a s k hk);have hbad:=aen (Pq s f k a hk xU lQ);have qX:=aen (Pv s f k a hk xU lQ);clear lQ;generalize bG a s k=T at *;obtain⟨t,en,a1⟩:=T;by_cases he:en=0
     ·obtain⟨hb1,hb2⟩:=hbd.out he;have hN:=aen (qX.out he);clear qX hbad;subst he;have hsp:=xP s (s.size - t) t;have hsp1:t≤bW s t:=hsp.1;have hsp2:bW s t≤s.size:=hsp.2 hb2;clear hsp;go_wp2_with fail;with_reducible refine HI.out.mono ?_
      rintro e w2 ⟨rfl,w3,rfl,hA3,hb3⟩;have qY:=aen (Pj (k1:=t) KP.out hA3 hb3);go_wp2_with fail;refine(Pg _ s t w.heap.size (w.heap.size+1+1+1) hs qY.out.str qY.out.xQ (by omega) hb2).mono ?_;rintro e w4 ⟨rfl,hk4,hg4⟩;have Py:=aen (Ph qY.out hk4 hg4);go_wp2;go_roundw;case rel=>exact⟨bW s t,f - 1,decide (t<bW s t),a1,rfl,Py,aen (by rw[←KR.out,hN.out]),by omega,hsp2⟩
      case measure=>
       rw[E7 KP.out.xQ,E7 Py.out.xQ];omega
     ·have hT:Hid (R=(ak,0,en)):=aen (by rw[←KR.out,hbad.out he]);have z3:((en:Int) != 0)=true:=by simp;exact he
      clear qX hbad hbd;go_wp2_with fail;with_reducible refine HI.out.mono ?_
      rintro e w2 ⟨rfl,w3,rfl,hA3,hb3⟩;have qY:=aen (Pj (k1:=t) KP.out hA3 hb3);have r0:=qY.out.res.cell 0;have r1:=qY.out.res.cell 1;have r2:=qY.out.res.cell 2;simp at r0 r1 r2;have q0:=qY.out.res.frozen 0;have q1:=qY.out.res.frozen 1;have q2:=qY.out.res.frozen 2;have hfin:=aen (Jn qY.out);go_wp2;refine xR hfin.out.1 rfl rfl rfl rfl ?_;rw[hT.out];exact⟨_,rfl,hfin.out.2.1,hfin.out.2.2⟩
  ·have hT:Hid (R=(ak,0,5)):=aen (by rw[←KR.out,Pm s f k b a hk]);have hfin:=aen (Jn KP.out);go_wp2;refine xR hfin.out.1 rfl rfl rfl rfl ?_;rw[hT.out];exact⟨_,rfl,hfin.out.2.1,hfin.out.2.2⟩
def Jp(w:World)(s:ByteArray):World:=((w.alloc (.cells #[.string s] 9)).alloc (.cells #[.string ⟨#[]⟩,.slice none 0 0,.slice none 0 0] 43))
theorem Xt(w:World)(s:ByteArray):ae (Jp w s) (w.heap.size+1) 43 #[.string ⟨#[]⟩,.slice none 0 0,.slice none 0 0]∧tC (Jp w s) w.heap.size (.agg #[.string ⟨#[]⟩,.slice none 0 0,.slice none 0 0]) ak∧Below w.heap.size w (Jp w s):=by
 refine⟨?_,⟨⟨_,_,rfl,World.ownsRow_nil _ _ _ _,World.ownsRow_nil _ _ _ _⟩,by decide,by decide⟩,((aer _ _).alloc (aeo _) _).alloc (by simp) _⟩;have:=ae.new (w.alloc (.cells #[.string s] 9)) 43 #[.string ⟨#[]⟩,.slice none 0 0,.slice none 0 0];simp at this;exact this
theorem Xu(w:World)(s:ByteArray)(i:Int)(hs:s.size≤1000000)(h:i<0∨(0≤i∧(s.size:Int)≤i)∨(∃n:Nat,i=n∧n<s.size∧bt s n≠123)) :
 Calls prog 148 #[.string s,.int .i64 i] w (wM (ak,0,5) w):=by
 have hfin:=aen (Xt w s);rcases h with h|⟨h0,h⟩|⟨n,rfl,hn,hb⟩
 ·have d0:decide (i<0)=true:=aeq h;go_enter Tryz.func148,Tryz.ntmps148;go_wp2;refine xR hfin.out.1 rfl rfl rfl rfl ?_;exact⟨_,rfl,hfin.out.2.1,hfin.out.2.2⟩
 ·have d0:decide (i<0)=false:=aep (by omega);have d1:decide ((s.size:Int)≤i)=true:=aeq h;go_enter Tryz.func148,Tryz.ntmps148;go_wp2;refine xR hfin.out.1 rfl rfl rfl rfl ?_;exact⟨_,rfl,hfin.out.2.1,hfin.out.2.2⟩
 ·have hlt:((s[n].toNat:Nat):Int)<256:=by rw[get_bt s n hn];have:=aK s n;omega
  have z1:(((s[n].toNat:Nat):Int) != 123)=true:=by rw[get_bt s n hn];simp;omega
  have d1:decide (s.size≤n)=false:=aep (by omega);clear hb;go_enter Tryz.func148,Tryz.ntmps148;go_wp2;refine xR hfin.out.1 rfl rfl rfl rfl ?_;exact⟨_,rfl,hfin.out.2.1,hfin.out.2.2⟩
theorem parse_any(w:World)(s:ByteArray)(i:Int)(hs:s.size≤1000000):Calls prog 148 #[.string s,.int .i64 i] w (wM (aN s i) w):=by
 unfold aN;by_cases h:0≤i∧i<s.size∧bt s i.toNat=123
 ·rw[if_pos h];obtain⟨n,rfl⟩:∃n:Nat,i=n:=⟨i.toNat,by omega⟩;exact Xq w s n hs (by omega) h.2.2
 ·rw[if_neg h];refine Xu w s i hs ?_;by_cases h0:i<0
  ·exact Or.inl h0
  ·by_cases h1:(s.size:Int)≤i
   ·exact Or.inr (Or.inl ⟨by omega,h1⟩)
   ·refine Or.inr (Or.inr ⟨i.toNat,by omega,by omega,fun hb=>h ⟨by omega,by omega,hb⟩⟩)
def fM(s:ByteArray)(i:Nat)(s':ByteArray)(i' n:Nat):Prop:=∃p r r',sfx s i=p++r∧sfx s' i'=p++r'∧p.length=n
section
variable {s s':ByteArray} {i i' n:Nat}
theorem B5(s:ByteArray)(i j:Nat):sfx s (i+j)=(sfx s i).drop j:=by unfold sfx;rw[List.drop_drop]
theorem fM.tail(h:fM s i s' i' n){j:Nat}(hj:j≤n):fM s (i+j) s' (i'+j) (n - j):=by
 obtain⟨p,r,r',h1,h2,h3⟩:=h;refine⟨p.drop j,r,r',?_,?_,by rw[List.length_drop];omega⟩
 ·rw[B5,h1,List.drop_append_of_le_length (by omega)]
 ·rw[B5,h2,List.drop_append_of_le_length (by omega)]
theorem fM.at(h:fM s i s' i' n){j:Nat}(hj:j<n):i+j<s.size∧i'+j<s'.size∧s.get! (i+j)=s'.get! (i'+j):=by
 obtain⟨p,r,r',h1,h2,h3⟩:=h.tail (aeD hj);cases p with
 |nil=>simp at h3;omega
 |cons c p=>
  have l1:i+j<s.size:=by have:=congrArg List.length h1;rw[sfx_len,aey,aeC] at this;omega
  have l2:i'+j<s'.size:=by have:=congrArg List.length h2;rw[sfx_len,aey,aeC] at this;omega
  rw[bV s _ l1] at h1;rw[bV s' _ l2] at h2;injection h1 with h1 _
  injection h2 with h2 _
  exact⟨l1,l2,h1.trans h2.symm⟩
theorem fM.qZ(h:fM s i s' i' n){j:Nat}(hj:j<n):bt s (i+j)=bt s' (i'+j):=by
 have:=(h.at hj).2.2;unfold bt;rw[this]
theorem fM.Xv(h:fM s i s' i' n){a e:Nat}(he:e≤n):sub s (i+a) (i+e)=sub s' (i'+a) (i'+e):=by
 obtain⟨p,r,r',h1,h2,h3⟩:=h;have key:∀(s:ByteArray) (i:Nat) (r:List UInt8),sfx s i=p++r→sub s (i+a) (i+e)=(p.drop a).take (e - a):=fun s i r h=>by
  have e1:sub s (i+a) (i+e)=(sfx s (i+a)).take (e - a):=by
   unfold sub sfx;congr 1;omega
  rw[e1,B5,h];rcases Nat.lt_or_ge a p.length with hl|hl
  ·rw[List.drop_append_of_le_length (by omega),List.take_append_of_le_length (by rw[List.length_drop];omega)]
  ·have:e - a=0:=by omega
   rw[this];simp
 rw[key s i r h1,key s' i' r' h2]
theorem fM.ext(h:fM s i s' i' n){a e:Nat}(he:e≤n):s.extract (i+a) (i+e)=s'.extract (i'+a) (i'+e):=by
 rw[←eX (s.extract _ _),←eX (s'.extract _ _),bytesL_sub,bytesL_sub,h.Xv he]
end
theorem Pz(s:ByteArray):∀(f k e:Nat),k≤e→e≤s.size→e≤k+f→(∀j,k≤j→j<e→bf (bt s j)=true)→¬(e<s.size∧bf (bt s e)=true)→gX s f k=e
 |f,k,e,h1,hs,h2,h3,h4=>by
  by_cases hke:k=e
  ·subst hke;exact zU s f k h4
  ·obtain⟨g,rfl⟩:∃g,f=g+1:=⟨f - 1,by omega⟩;have hp:=h3 k (aeo _) (by omega);show (if k<s.size∧bf (bt s k)=true then gX s g (k+1) else k)=e;rw[if_pos ⟨by omega,hp⟩];exact Pz s g (k+1) e (by omega) hs (by omega) (fun j hj hl=>h3 j (by omega) hl) h4
 termination_by f=>f
theorem Xw(s:ByteArray)(k e:Nat)(h1:k≤e)(hs:e≤s.size)(h3:∀j,k≤j→j<e→bf (bt s j)=true)(h4:¬(e<s.size∧bf (bt s e)=true)):wordAt s k=e:=
 Pz s _ k e h1 hs (by omega) h3 h4
theorem PD(s:ByteArray):∀(f k:Nat),s.size≤k+f→(∀j,k≤j→j<gX s f k→bf (bt s j)=true)∧¬(gX s f k<s.size∧bf (bt s (gX s f k))=true)
 |0,k,h=>⟨fun j h1 h2=>by simp only[gX] at h2;omega,fun h2=>by simp only[gX] at h2;omega⟩
 |f+1,k,h=>by
  by_cases hk:k<s.size∧bf (bt s k)=true
  ·have e:gX s (f+1) k=gX s f (k+1):=by simp only[gX];rw[if_pos hk]
   rw[e];obtain⟨h1,h2⟩:=PD s f (k+1) (by omega);refine⟨fun j hj hl=>?_,h2⟩;by_cases hjk:j=k
   ·subst hjk;exact hk.2
   ·exact h1 j (by omega) hl
  ·have e:gX s (f+1) k=k:=zU s _ k hk;rw[e];exact⟨fun j hj hl=>by omega,hk⟩
theorem Xx(s:ByteArray)(k:Nat)(hk:k≤s.size):(∀j,k≤j→j<wordAt s k→bf (bt s j)=true)∧¬(wordAt s k<s.size∧bf (bt s (wordAt s k))=true):=
 PD s (s.size - k) k (by omega)
theorem PE(s:ByteArray)(k:Nat):k≤wordAt s k∧(k≤s.size→wordAt s k≤s.size):=pZ s _ k
theorem PG(s:ByteArray):∀(f k e:Nat),k≤e→e≤s.size→e≤k+f→(∀j,k≤j→j<e→bt s j=32)→¬(e<s.size∧bt s e=32)→gq s f k=e
 |f,k,e,h1,hs,h2,h3,h4=>by
  by_cases hke:k=e
  ·subst hke;exact zY s f k h4
  ·obtain⟨g,rfl⟩:∃g,f=g+1:=⟨f - 1,by omega⟩;have hp:=h3 k (aeo _) (by omega);show (if k<s.size∧bt s k=32 then gq s g (k+1) else k)=e;rw[if_pos ⟨by omega,hp⟩];exact PG s g (k+1) e (by omega) hs (by omega) (fun j hj hl=>h3 j (by omega) hl) h4
 termination_by f=>f
theorem Xy(s:ByteArray)(k e:Nat)(h1:k≤e)(hs:e≤s.size)(h3:∀j,k≤j→j<e→bt s j=32)(h4:¬(e<s.size∧bt s e=32)):bW s k=e:=
 PG s _ k e h1 hs (by omega) h3 h4
theorem PK(s:ByteArray):∀(f k:Nat),s.size≤k+f→(∀j,k≤j→j<gq s f k→bt s j=32)∧¬(gq s f k<s.size∧bt s (gq s f k)=32)
 |0,k,h=>⟨fun j h1 h2=>by simp only[gq] at h2;omega,fun h2=>by simp only[gq] at h2;omega⟩
 |f+1,k,h=>by
  by_cases hk:k<s.size∧bt s k=32
  ·have e:gq s (f+1) k=gq s f (k+1):=by simp only[gq];rw[if_pos hk]
   rw[e];obtain⟨h1,h2⟩:=PK s f (k+1) (by omega);refine⟨fun j hj hl=>?_,h2⟩;by_cases hjk:j=k
   ·subst hjk;exact hk.2
   ·exact h1 j (by omega) hl
  ·have e:gq s (f+1) k=k:=zY s _ k hk;rw[e];exact⟨fun j hj hl=>by omega,hk⟩
theorem Xz(s:ByteArray)(k:Nat):(∀j,k≤j→j<bW s k→bt s j=32)∧¬(bW s k<s.size∧bt s (bW s k)=32):=by
 unfold bW;rcases Nat.lt_or_ge s.size k with h|h
 ·have:s.size - k=0:=by omega
  rw[this];exact⟨fun j h1 h2=>by simp only[gq] at h2;omega,fun h2=>by simp only[gq] at h2;omega⟩
 ·exact PK s (s.size - k) k (by omega)
theorem B6(s:ByteArray)(k:Nat):k≤bW s k∧(k≤s.size→bW s k≤s.size):=xP s _ k
section
variable {s s':ByteArray} {i i' n:Nat}
theorem fM.word(h:fM s i s' i' n){a e:Nat}(ha:wordAt s (i+a)=i+e)(he:e<n):wordAt s' (i'+a)=i'+e:=by
 have hb:=(PE s (i+a)).1;rw[ha] at hb;have h0:=(h.at he).1;obtain⟨h1,h2⟩:=Xx s (i+a) (by omega);rw[ha] at h1 h2;refine Xw s' _ _ (by omega) (by have:=(h.at he).2.1;omega) (fun j hj hl=>?_) (fun hh=>?_)
 ·obtain⟨d,rfl⟩:∃d,j=i'+d:=⟨j - i',by omega⟩;rw[←h.qZ (by omega)];exact h1 _ (by omega) (by omega)
 ·rw[←h.qZ he] at hh;exact h2 ⟨h0,hh.2⟩
theorem fM.PL(h:fM s i s' i' n){a e:Nat}(ha:bW s (i+a)=i+e)(he:e<n):bW s' (i'+a)=i'+e:=by
 have hb:=(B6 s (i+a)).1;rw[ha] at hb;have h0:=(h.at he).1;obtain⟨h1,h2⟩:=Xz s (i+a);rw[ha] at h1 h2;refine Xy s' _ _ (by omega) (by have:=(h.at he).2.1;omega) (fun j hj hl=>?_) (fun hh=>?_)
 ·obtain⟨d,rfl⟩:∃d,j=i'+d:=⟨j - i',by omega⟩;rw[←h.qZ (by omega)];exact h1 _ (by omega) (by omega)
 ·rw[←h.qZ he] at hh;exact h2 ⟨h0,hh.2⟩
theorem fM.quoted(h:fM s i s' i' n):∀(f f' a:Nat) (acc l:List UInt8) (e:Nat),qv s f (i+a) acc=some (l,i+e)→e≤n→s'.size≤i'+a+f'→qv s' f' (i'+a) acc=some (l,i'+e)
 |0,f',a,acc,l,e,hq,he,hf=>by simp[qv] at hq
 |f+1,f',a,acc,l,e,hq,he,hf=>by
  have hb:=wK s _ _ _ _ _ hq;obtain⟨l1,l2,hg⟩:=h.at (j:=a) (by omega);have hbt:=h.qZ (j:=a) (by omega);obtain⟨g,rfl⟩:∃g,f'=g+1:=⟨f' - 1,by omega⟩;unfold qv at hq ⊢;rw[if_pos l1] at hq;rw[if_pos l2,←hbt];by_cases c1:bt s (i+a)=34
  ·rw[if_pos c1] at hq ⊢;injection hq with hq
   injection hq with q1 q2
   subst q1;rw[show i'+a+1=i'+e by omega]
  ·rw[if_neg c1] at hq ⊢;by_cases c2:bt s (i+a)=92
   ·rw[if_pos c2] at hq ⊢;split at hq
    ·rename_i hc;have hb2:=wK s _ _ _ _ _ hq;obtain⟨m1,m2,mg⟩:=h.at (j:=a+1) (by omega);have XA:=h.qZ (j:=a+1) (by omega);have e1:i'+a+1=i'+(a+1):=by omega
     have e2:i+a+1=i+(a+1):=by omega
     rw[if_pos (by rw[e1,←XA,←e2];exact⟨m2,hc.2⟩),e1,←mg,←e2];exact fM.quoted h f g (a+2) _ l e (by rw[show i+(a+2)=i+a+2 by omega];exact hq) he (by omega)
    ·cases hq
   ·rw[if_neg c2] at hq ⊢;rw[←hg];exact fM.quoted h f g (a+1) _ l e (by rw[show i+(a+1)=i+a+1 by omega];exact hq) he (by omega)
end
section
variable {s s':ByteArray} {i i' n:Nat}
theorem XB(h:fM s i s' i' n){a e:Nat}{v:ByteArray}(hv:dM s (i+a)=(v,i+e,true))(ha:a<n)(he:e<n):dM s' (i'+a)=(v,i'+e,true):=by
 obtain⟨l1,l2,hg⟩:=h.at ha;have hbt:=h.qZ ha;unfold dM at hv ⊢;by_cases c:bt s (i+a)=34
 ·rw[if_pos ⟨l1,c⟩] at hv;rw[if_pos ⟨l2,by rw[←hbt];exact c⟩];cases hq:qv s s.size (i+a+1) [] with
  |none=>rw[hq] at hv;unfold valOf at hv;simp at hv
  |some r=>
   obtain⟨l,j⟩:=r;rw[hq] at hv;unfold valOf at hv;simp only[Prod.mk.injEq] at hv;obtain⟨v1,v2,v3⟩:=hv;subst v2;have:=h.quoted s.size s'.size (a+1) [] l e (by rw[←hq];rfl) (by omega) (by omega);rw[show i'+a+1=i'+(a+1) by omega,this];unfold valOf;simp only[Prod.mk.injEq];exact⟨v1,trivial,v3⟩
 ·rw[if_neg (fun x=>c x.2)] at hv;rw[if_neg (fun x=>c (by rw[hbt];exact x.2))];unfold uZ at hv ⊢;simp only[Prod.mk.injEq] at hv ⊢;obtain⟨v1,v2,v3⟩:=hv;have hw:=h.word v2 he;rw[v2] at v1 v3;rw[hw,←h.ext (aeD he)];exact⟨v1,rfl,v3⟩
theorem Jq(h:fM s i s' i' n){a e:Nat}(hw:wordAt s (i+a)=i+e)(he:e<n):nameAt s' (i'+a)=nameAt s (i+a):=by
 unfold nameAt;rw[h.word hw he,hw,h.ext (aeD he)]
theorem XC(h:fM s i s' i' n){a e:Nat}{A A':AttrL}(ha:a<n)(hi:bG A s (i+a)=(i+e,0,A'))(he:e<n):bG A s' (i'+a)=(i'+e,0,A'):=by
 have hbd:=BZ A s (i+a) (h.at ha).1 (by rw[hi]);rw[hi] at hbd;have hbt:=h.qZ ha;unfold bG at hi ⊢;rw[←hbt];have e1:i'+a+1=i'+(a+1):=by omega
 have e2:i+a+1=i+(a+1):=by omega
 by_cases c1:bt s (i+a)=35
 ·rw[if_pos c1] at hi ⊢;split at hi
  ·rename_i hn;split at hi
   ·rename_i hid;simp only[Prod.mk.injEq] at hi;obtain⟨v1,_,v3⟩:=hi;rw[e2] at v1 hn v3;rw[e1,Jq h v1 he,if_pos hn,if_pos hid,h.word v1 he,v3]
   ·simp at hi
  ·simp at hi
 ·rw[if_neg c1] at hi ⊢;by_cases c2:bt s (i+a)=46
  ·rw[if_pos c2] at hi ⊢;split at hi
   ·rename_i hn;simp only[Prod.mk.injEq] at hi;obtain⟨v1,v2,v3⟩:=hi;rw[e2] at v1 hn v3 v2;rw[e1,Jq h v1 he,if_pos hn,h.word v1 he,v3,v2]
   ·simp at hi
  ·rw[if_neg c2] at hi ⊢;split at hi
   ·rename_i hn;have hwb:=(PE s (i+a)).1;obtain⟨d,hd⟩:∃d,wordAt s (i+a)=i+d:=⟨wordAt s (i+a) - i,by omega⟩;unfold qV at hi;split at hi
    ·rename_i hq;split at hi
     ·rename_i hv;simp only[Prod.mk.injEq] at hi;obtain⟨v1,v2,v3⟩:=hi;have hvb:=Px s (wordAt s (i+a)+1) (by omega) hv;have hdn:d+1<n:=by omega
      have hv':dM s (i+(d+1))=((dM s (i+(d+1))).1,i+e,true):=by
       have e3:wordAt s (i+a)+1=i+(d+1):=by omega
       rw[e3] at v1 hv;rw[←v1,←hv]
      have hm:=XB h hv' hdn he;rw[Jq h hd (by omega),if_pos hn,h.word hd (by omega)];unfold qV;rw[hd] at hq v3;rw[if_pos ⟨(h.at (j:=d) (by omega)).2.1,by rw[←h.qZ (by omega)];exact hq.2⟩,show i'+d+1=i'+(d+1) by omega,hm];simp only[if_true,Prod.mk.injEq];rw[show i+d+1=i+(d+1) by omega] at v3;exact⟨trivial,v2,v3⟩
     ·simp at hi
    ·simp at hi
   ·simp at hi
theorem Cb(s:ByteArray):∀(f k:Nat) (b:Bool) (A A':AttrL) (t:Nat),fV s f k b A=(A',t,0)→k<t∧t≤s.size∧bt s (t - 1)=125
 |0,k,b,A,A',t,h=>by simp[fV] at h
 |f+1,k,b,A,A',t,h=>by
  unfold fV at h;split at h
  ·rename_i hk;split at h
   ·rename_i hc;simp only[Prod.mk.injEq] at h;obtain⟨_,h2,_⟩:=h;subst h2;exact⟨by omega,by omega,by rw[Nat.add_sub_cancel];exact hc⟩
   ·split at h
    ·simp at h
    ·split at h
     ·rename_i he;have hb:=BZ A s k hk he;have:=Cb s f _ _ _ _ _ h;have hs:=(B6 s (bG A s k).1).1;exact⟨by omega,this.2⟩
     ·rename_i he;simp only[Prod.mk.injEq] at h;exact absurd h.2.2 he
  ·simp at h
theorem PM(h:fM s i s' i' n):∀(f f' a:Nat) (b:Bool) (A A':AttrL),fV s f (i+a) b A=(A',i+n,0)→s'.size<i'+a+f'→fV s' f' (i'+a) b A=(A',i'+n,0)
 |0,f',a,b,A,A',hp,hf=>by simp[fV] at hp
 |f+1,f',a,b,A,A',hp,hf=>by
  have hpos:=Cb s _ _ _ _ _ _ hp;have ha:a<n:=by omega
  obtain⟨l1,l2,hg⟩:=h.at ha;have hbt:=h.qZ ha;obtain⟨g,rfl⟩:∃g,f'=g+1:=⟨f' - 1,by omega⟩;unfold fV at hp ⊢;rw[if_pos l1] at hp;rw[if_pos l2,←hbt];by_cases c1:bt s (i+a)=125
  ·rw[if_pos c1] at hp ⊢;simp only[Prod.mk.injEq] at hp ⊢;exact⟨hp.1,by omega,trivial⟩
  ·rw[if_neg c1] at hp ⊢;cases b with
   |false=>rw[if_pos rfl] at hp;simp at hp
   |true=>
    rw[if_neg (by decide)] at hp ⊢;split at hp
    ·rename_i he;have hb:=BZ A s (i+a) l1 he;have Fb:=Cb s _ _ _ _ _ _ hp;have hs:=B6 s (bG A s (i+a)).1;obtain⟨d,hd⟩:∃d,(bG A s (i+a)).1=i+d:=⟨(bG A s (i+a)).1 - i,by omega⟩;obtain⟨q,hq⟩:∃q,bW s (i+d)=i+q:=⟨bW s (i+d) - i,by rw[hd] at hs;omega⟩;rw[hd] at hp Fb hs;rw[hq] at hp Fb hs;have hi:bG A s (i+a)=(i+d,0,(bG A s (i+a)).2.2):=by rw[←hd,←he]
     have hm:=XC h ha hi (by omega);rw[hm];simp only[if_true];rw[h.PL hq (by omega)];have e1:decide (i'+d<i'+q)=decide (i+d<i+q):=by
      rw[decide_eq_decide];omega
     rw[e1];exact PM h f g q _ _ _ hp (by omega)
    ·rename_i he;simp only[Prod.mk.injEq] at hp;exact absurd hp.2.2 he
theorem Jr{s:ByteArray}{i:Nat}{A:AttrL}{t:Nat}(h:aN s i=(A,t,0)):i<t∧t≤s.size∧bt s (t - 1)=125∧bt s i=123∧i<s.size:=by
 unfold aN at h;split at h
 ·rename_i hc;have:=Cb s _ _ _ _ _ _ h;have hs:=(B6 s ((i:Int).toNat+1)).1;simp only[Int.toNat_natCast] at *;exact⟨by omega,this.2.1,this.2.2,hc.2.2,by omega⟩
 ·simp at h
theorem Fe(h:fM s i s' i' n){A:AttrL}(hp:aN s i=(A,i+n,0)):aN s' i'=(A,i'+n,0):=by
 have hpos:=Jr hp;have h0:0<n:=by omega
 obtain⟨l1,l2,hg⟩:=h.at h0;have hbt:=h.qZ h0;rw[Nat.add_zero] at l1 l2 hbt;rw[Nat.add_zero] at hbt;unfold aN at hp ⊢;rw[if_pos ⟨by omega,by omega,by simpa using hpos.2.2.2.1⟩] at hp;rw[if_pos ⟨by omega,by omega,by simp only[Int.toNat_natCast];rw[←hbt];exact hpos.2.2.2.1⟩];simp only[Int.toNat_natCast] at hp ⊢;have Fb:=Cb s _ _ _ _ _ _ hp;have hs:=B6 s (i+1);obtain⟨q,hq⟩:∃q,bW s (i+1)=i+q:=⟨bW s (i+1) - i,by omega⟩;rw[hq] at hp Fb;rw[h.PL (a:=1) hq (by omega)];exact PM h _ _ q _ _ _ hp (by omega)
end
structure aZ(w:World)(base:Nat)(a:AttrL)(vC vP:Value):Prop where
 cls:w.ownsRow base 9 1 vC a.cl.length (strs a.cl)
 aH:w.ownsRow base 81 2 vP a.pr.length (aH a.pr)
 le:base≤w.heap.size
 c32:a.cl.length≤32
 p32:a.pr.length≤32
theorem aZ.below{w w':World}{base:Nat}{a:AttrL}{vC vP:Value}(h:aZ w base a vC vP)(hb:Below w.heap.size w w'):aZ w' base a vC vP:=
 ⟨own_below h.cls hb,own_below h.aH hb,aev h.le hb.size,h.c32,h.p32⟩
theorem aZ.val{w:World}{base:Nat}{a:AttrL}{vC vP:Value}(h:aZ w base a vC vP):tC w base (.agg #[.string a.id,vC,vP]) a:=⟨⟨vC,vP,rfl,h.cls,h.aH⟩,h.c32,h.p32⟩
theorem aZ.setCell{w:World}{base:Nat}{a:AttrL}{vC vP:Value}(h:aZ w base a vC vP){p:Addr}(h1:∀k,vC.ownBlock=some k→p.block≠k)(h2:∀k,vP.ownBlock=some k→p.block≠k)(u:Value):aZ (w.setCell p u) base a vC vP:=by
 have hg:w.grownBy (w.setCell p u) (some p.block):=⟨rfl,rfl,rfl,by simp[World.setCell],fun k _ hk=>Below.heap_setCell _ _ _ _ (fun e=>hk (by rw[e]))⟩;refine⟨h.cls.kept hg ?_,h.aH.kept hg ?_,by simpa [World.setCell] using h.le,h.c32,h.p32⟩
 ·cases hv:vC.ownBlock with
  |none=>exact Or.inl rfl
  |some b=>right;intro e;injection e with e;exact h1 b hv e.symm
 ·cases hv:vP.ownBlock with
  |none=>exact Or.inl rfl
  |some b=>right;intro e;injection e with e;exact h2 b hv e.symm
def PN(e0:Nat)(a':AttrL)(base:Nat)(row:Option Nat)(w:World)(e:Ending)(w':World):Prop:=
 ∃v,e=.returned (.tuple #[v,.int .i64 e0])∧tC w' base v a'∧w.grownBy w' row
theorem Js{W:World}{g:Nat}{x y z a5:Value}{P:Ending→World→Prop}{act:Act}(hr:ae W g 43 #[x,y,z])(h4:act.tmps.getD 4 undef=.pointer (some ⟨g,0,none⟩))
 (h5:act.tmps.getD 5 undef=a5) (hd:act.defers=[]) (hP:P (.returned (.tuple #[.agg #[x,y,z],a5])) W):bodyPost prog Tryz.f260 P Exit.ret act W:=by
 have c0:W.cell? ⟨g,0,none⟩=some x:=hr.cell 0;have c1:W.cell? ⟨g,1,none⟩=some y:=hr.cell 1;have c2:W.cell? ⟨g,2,none⟩=some z:=hr.cell 2;refine bodyPost_ret (v:=.tuple #[.agg #[x,y,z],a5]) ?_ hd hP;rw[aew] at h4 h5;simp[results,Tryz.results260,go_sem,h4,h5,c0,c1,c2]
theorem Cc{w:World}(a:AttrL)(vC vP:Value)(base:Nat)(h:aZ w base a vC vP)(o:Obj) :
 ae ((w.alloc o).alloc (.cells #[.string a.id,vC,vP] 43)) (w.heap.size+1) 43 #[.string a.id,vC,vP]∧
 aZ ((w.alloc o).alloc (.cells #[.string a.id,vC,vP] 43)) base a vC vP∧Below w.heap.size w ((w.alloc o).alloc (.cells #[.string a.id,vC,vP] 43)):=by
 have hb:Below w.heap.size w ((w.alloc o).alloc (.cells #[.string a.id,vC,vP] 43)):=((aer _ _).alloc (aeo _) _).alloc (by simp) _;refine⟨?_,h.below hb,hb⟩;have:=ae.new (w.alloc o) 43 #[.string a.id,vC,vP];simpa using this
theorem oP{base gg:Nat}{cs:Array Value}{e:TypeId}{n size:Nat}{v:Value}{xs:List Value}{W:World}(ho:W.ownsRow base e size v n xs)(hbk:ae W gg 43 cs)(hne:e≠43):∀k,v.ownBlock=some k→gg≠k:=by
 intro k hk he;subst he;rcases ho.2 with ⟨rfl,_⟩|⟨g',cap,cur,rfl,_,hh,_⟩
 ·cases hk
 ·have:g'=gg:=by simpa [Value.ownBlock] using hk
  subst this;unfold ae at hbk;rw[hh] at hbk;injection hbk with hbk
  injection hbk with _ ht
  exact hne ht
theorem XD{w0 w1 w2:World}{g g2 base:Nat}{a:AttrL}{vC vP v' x y z:Value}{name:ByteArray}(h:aZ w1 base a vC vP)(hb:ae w1 g 43 #[.string a.id,vC,vP])(hb2:ae w1 g2 43 #[x,y,z])(hg2:g<g2)(h0:Below w0.heap.size w0 w1)(hgb:w0.heap.size≤g)
 (hown:w2.ownsRow base 9 1 v' (a.cl.length+1) (strs a.cl++[.string name])) (hg:(w1.alloc (.cells #[.string name] 9)).grownBy w2 vC.ownBlock) (hl:a.cl.length<32) :
 (ae w2 g 43 #[.string a.id,vC,vP]∧ae w2 g2 43 #[x,y,z])∧
 (ae (w2.setCell ⟨g,1,none⟩ v') g 43 #[.string a.id,v',vP]∧ae (w2.setCell ⟨g,1,none⟩ v') g2 43 #[x,y,z])∧
 ae ((((w2.setCell ⟨g,1,none⟩ v').setCell ⟨g2,0,none⟩ (.string a.id)).setCell ⟨g2,1,none⟩ v').setCell ⟨g2,2,none⟩ vP) g2 43 #[.string a.id,v',vP]∧
 aZ ((((w2.setCell ⟨g,1,none⟩ v').setCell ⟨g2,0,none⟩ (.string a.id)).setCell ⟨g2,1,none⟩ v').setCell ⟨g2,2,none⟩ vP) base {a with cl:=a.cl++[name]} v' vP∧
 w0.grownBy ((((w2.setCell ⟨g,1,none⟩ v').setCell ⟨g2,0,none⟩ (.string a.id)).setCell ⟨g2,1,none⟩ v').setCell ⟨g2,2,none⟩ vP) vC.ownBlock:=by
 have e1:some g≠vC.ownBlock:=fun e=>oP h.cls hb (by decide) g e.symm rfl;have e2:some g2≠vC.ownBlock:=fun e=>oP h.cls hb2 (by decide) g2 e.symm rfl;have B1:=(hb.alloc (.cells #[.string name] 9)).grown hg e1;have B2:=(hb2.alloc (.cells #[.string name] 9)).grown hg e2;have B3:ae (w2.setCell ⟨g,1,none⟩ v') g 43 #[.string a.id,v',vP]:=by have:=B1.bJ 1 v';simpa using this
 have B4:=B2.far (p:=⟨g,1,none⟩) (by simp;omega) v';have hO:aZ w2 base {a with cl:=a.cl++[name]} v' vP:=by
  refine⟨?_,(h.aH.alloc _).kept hg (own_ne h.aH h.cls (by decide)),by have:=hg.size;have:=h.le;simp at *;omega,by simp;omega,h.p32⟩;show w2.ownsRow base 9 1 v' (a.cl++[name]).length (strs (a.cl++[name]));unfold strs at hown ⊢;rw[aey,List.map_append];exact hown
 have o1:∀k,v'.ownBlock=some k→g≠k:=oP hown B1 (by decide);have o2:∀k,v'.ownBlock=some k→g2≠k:=oP hown B2 (by decide);have o3:∀k,vP.ownBlock=some k→g≠k:=oP h.aH hb (by decide);have o4:∀k,vP.ownBlock=some k→g2≠k:=oP h.aH hb2 (by decide);refine⟨⟨B1,B2⟩,⟨B3,B4⟩,?_,(((hO.setCell o1 o3 _).setCell o2 o4 _).setCell o2 o4 _).setCell o2 o4 _,?_⟩
 ·have:=((B4.bJ 0 (.string a.id)).bJ 1 v').bJ 2 vP;simpa using this
 ·have hs0:=h0.size;have hs1:=hg.size;refine⟨hg.os.trans h0.os,hg.tape.trans h0.tape,hg.output.trans h0.output,by simp[World.setCell] at *;omega,fun k hk hne=>?_⟩;rw[Below.heap_setCell _ _ _ _ (by simp;omega),Below.heap_setCell _ _ _ _ (by simp;omega),Below.heap_setCell _ _ _ _ (by simp;omega),Below.heap_setCell _ _ _ _ (by simp;omega)];rw[hg.block k (by simp;omega) hne,Below.heap_alloc _ _ _ (by omega),h0.block k hk]
theorem XE(w:World)(base:Nat)(a:AttrL)(vC vP:Value)(name:ByteArray)(h:aZ w base a vC vP) :
 Calls prog 260 #[.agg #[.string a.id,vC,vP],.string name] w (PN (lN a name) (mO a name) base vC.ownBlock w):=by
 obtain⟨AC,cC,rfl⟩:=ay h.cls;obtain⟨AP,cP,rfl⟩:=ay h.aH;obtain⟨i0,hi0,hz0,hz1,hz2⟩:=info_parts O7;have hle:=h.le;have HO:=aen h;have HH:Hid (∀W,Below w.heap.size w W→Calls prog 269 #[.slice AC a.cl.length cC,.string name] W fun e w'=>e=.returned (.bool (Lib.containsS a.cl name))∧W=w'):=aen fun W hb=>WZ AC cC w.heap.size a.cl name W ((Reads.of_own h.cls).below hb) (by have:=h.c32;omega);have HE:Hid (lN a name=if Lib.containsS a.cl name=true then 7 else if 32≤a.cl.length then 3 else 0):=aen rfl;have HA:Hid (mO a name=if lN a name=0 then {a with cl:=a.cl++[name]} else a):=aen rfl;have HT:=aen (Cc a _ _ base h (.cells #[.string a.id,.slice AC a.cl.length cC,.slice AP a.pr.length cP] 43));clear h;generalize mO a name=A1 at *;generalize lN a name=E1 at *;generalize Lib.containsS a.cl name=R at *;cases R
 ·by_cases hl:32≤a.cl.length
  ·have hE:Hid (E1=3):=aen (by rw[HE.out,if_neg (by decide),if_pos hl]);go_enter Tryz.func260,Tryz.ntmps260;go_wp2_with fail;with_reducible refine(HH.out _ (((aer _ _).alloc (aeo _) _).alloc (by simp) _)).mono ?_
   rintro e w1 ⟨rfl,rfl⟩;go_wp2;refine Js HT.out.1 rfl rfl rfl ?_;rw[HA.out,hE.out,if_neg (by decide)];exact⟨_,rfl,HT.out.2.1.val,EH HT.out.2.2 _⟩
  ·have hE:Hid (E1=0):=aen (by rw[HE.out,if_neg (by decide),if_neg hl]);have hl':a.cl.length<32:=by omega
   have Jt:=(((aer _ w).alloc (aeo _) (.cells #[.string a.id,.slice AC a.cl.length cC,.slice AP a.pr.length cP] 43)).alloc (by simp) (.cells #[.string ⟨#[]⟩,.slice none 0 0,.slice none 0 0] 43));have xW:=HO.out.below Jt;have hblk1:=(ae.new w 43 #[.string a.id,.slice AC a.cl.length cC,.slice AP a.pr.length cP]).alloc (.cells #[.string ⟨#[]⟩,.slice none 0 0,.slice none 0 0] 43);have hblk2:ae ((w.alloc (.cells #[.string a.id,.slice AC a.cl.length cC,.slice AP a.pr.length cP] 43)).alloc (.cells #[.string ⟨#[]⟩,.slice none 0 0,.slice none 0 0] 43)) (w.heap.size+1) 43 #[.string ⟨#[]⟩,.slice none 0 0,.slice none 0 0]:=by
    have:=ae.new (w.alloc (.cells #[.string a.id,.slice AC a.cl.length cC,.slice AP a.pr.length cP] 43)) 43 #[.string ⟨#[]⟩,.slice none 0 0,.slice none 0 0];simpa using this
   have KO:=aen xW;have K1:=aen hblk1;have K2:=aen hblk2;have KB:=aen Jt;clear xW hblk1 hblk2 Jt;go_enter Tryz.func260,Tryz.ntmps260;go_wp2_with fail;with_reducible refine(HH.out _ (((aer _ _).alloc (aeo _) _).alloc (by simp) _)).mono ?_
   rintro e w1 ⟨rfl,rfl⟩;go_wp2_with (at_builtin;refine wpList_append_own _ rfl _ _ 22 rfl base 9 i0 _ 1 16 Tryz.underlying22 hi0 hz0 hz1 hz2 rfl (by decide) _ _ _ rfl (KO.out.cls.alloc _) ⟨w.heap.size+1+1,0,none⟩ 1 1 [.string name] rfl rfl ?c1 ?c2 ?c3 ?c4 ?c5 ?_);case c1=>
    intro j u hj;match j,hj with
    |0,hj=>
     simp at hj;subst hj;have:=(ae.new ((w.alloc (.cells #[.string a.id,.slice AC a.cl.length cC,.slice AP a.pr.length cP] 43)).alloc (.cells #[.string ⟨#[]⟩,.slice none 0 0,.slice none 0 0] 43)) 9 #[.string name]).cell 0;simpa [Addr.add] using this
   case c2=>intro u hu;simp at hu;subst hu;rfl
   case c3=>unfold maxLen;omega
   case c4=>omega
   case c5=>simp;omega
   intro v' w2 hown2 hgrow _;obtain⟨A2,c2,rfl⟩:=ay hown2;have hdone:=XD KO.out K1.out K2.out (by omega) KB.out (aeo _) hown2 hgrow hl';obtain⟨⟨B1,B2⟩,⟨B3,B4⟩,hd⟩:=hdone;have HD:=aen hd;clear hd hown2 hgrow;have k2:=B1.cell 1;have k3:=B3.cell 0;have k4:=B3.cell 1;have k5:=B3.cell 2;have k6:=B4.cell 0;have k7:=B4.cell 1;have k8:=B4.cell 2;simp at k2 k3 k4 k5 k6 k7 k8;have f2:=B1.frozen 1;have f6:=B4.frozen 0;have f7:=B4.frozen 1;have f8:=B4.frozen 2;have m2:=B2.frozen 0;have m3:=B2.frozen 1;have m4:=B2.frozen 2;have j0:=B1.cell 0;have j2:=B1.cell 2;have j3:=B2.cell 0;have j4:=B2.cell 1;have j5:=B2.cell 2;simp at j0 j2 j3 j4 j5;clear B1 B2 B3 B4 k3 k4 k5 k6 k7 k8 f6 f7 f8;go_wp2;refine Js HD.out.1 rfl rfl rfl ?_;rw[HA.out,hE.out,if_pos rfl];exact⟨_,rfl,HD.out.2.1.val,HD.out.2.2⟩
 ·have hE:Hid (E1=7):=aen (by rw[HE.out,if_pos rfl]);go_enter Tryz.func260,Tryz.ntmps260;go_wp2_with fail;with_reducible refine(HH.out _ (((aer _ _).alloc (aeo _) _).alloc (by simp) _)).mono ?_
  rintro e w1 ⟨rfl,rfl⟩;go_wp2;refine Js HT.out.1 rfl rfl rfl ?_;rw[HA.out,hE.out,if_neg (by decide)];exact⟨_,rfl,HT.out.2.1.val,EH HT.out.2.2 _⟩
structure ag where
 kind:Nat:=0
 n:Nat:=0
 ch:ByteArray:=⟨#[]⟩
 off:Nat:=0
 info:ByteArray:=⟨#[]⟩
 rest:ByteArray:=⟨#[]⟩
 dest:ByteArray:=⟨#[]⟩
 title:ByteArray:=⟨#[]⟩
 att:AttrL:=ak
def ag.cells(m:ag)(vC vP:Value):Array Value:=#[.int .i64 m.kind,.int .i64 m.n,.string m.ch,.int .i64 m.off,.string m.info,.string m.rest,.string m.dest,.string m.title,.string m.att.id,vC,vP]
def xX(w:World)(base:Nat)(v:Value)(m:ag):Prop:=∃vC vP,v=.agg (m.cells vC vP)∧aZ w base m.att vC vP
theorem wP(w:World)(base:Nat)(h:base≤w.heap.size):aZ w base ak (.slice none 0 0) (.slice none 0 0):=⟨World.ownsRow_nil _ _ _ _,World.ownsRow_nil _ _ _ _,h,by decide,by decide⟩
theorem fE{w:World}{base:Nat}{m:ag}(h:m.att=ak)(hb:base≤w.heap.size):xX w base (.agg (m.cells (.slice none 0 0) (.slice none 0 0))) m:=⟨_,_,rfl,by rw[h];exact wP w base hb⟩
def Ju(v:Value):Prop:=∃(i0 i1:Int) (s2:ByteArray) (i3:Int) (s4 s5 s6 s7 s8:ByteArray) (A9:Option Addr) (n9 c9:Nat) (af:Option Addr) (n10 c10:Nat),v=.agg #[.int .i64 i0,.int .i64 i1,.string s2,.int .i64 i3,.string s4,.string s5,.string s6,.string s7,.string s8,.slice A9 n9 c9,.slice af n10 c10]
theorem XF{w:World}{base:Nat}{v:Value}{m:ag}(h:xX w base v m):Ju v:=by
 obtain⟨vC,vP,rfl,h⟩:=h;obtain⟨A9,c9,rfl⟩:=ay h.cls;obtain⟨af,c10,rfl⟩:=ay h.aH;exact⟨_,_,_,_,_,_,_,_,_,_,_,_,_,_,_,rfl⟩
def oQ(r:Option ag)(w:World)(e:Ending)(w':World):Prop:=
 (match r with
  |some m=>∃v,e=.returned (.tuple #[v,.bool true])∧xX w' w.heap.size v m
  |none=>∃v,e=.returned (.tuple #[v,.bool false])∧Ju v)∧Below w.heap.size w w'
theorem eG{r:Option ag}{w w':World}{v:Value}(hr:r=none)(hv:Ju v)(hb:Below w.heap.size w w'):oQ r w (.returned (.tuple #[v,.bool false])) w':=by
 subst hr;exact⟨⟨v,rfl,hv⟩,hb⟩
theorem rd_some{r:Option ag}{m:ag}{w w':World}{v:Value}(hr:r=some m)(hv:xX w' w.heap.size v m)(hb:Below w.heap.size w w'):oQ r w (.returned (.tuple #[v,.bool true])) w':=by
 subst hr;exact⟨⟨v,rfl,hv⟩,hb⟩
theorem wQ{r:Option ag}{m:ag}{b:Bool}{w w':World}{v:Value}(hr:r=if b=true then some m else none)(hv:xX w' w.heap.size v m)(hb:Below w.heap.size w w'):oQ r w (.returned (.tuple #[v,.bool b])) w':=by
 cases b
 ·exact eG hr (XF hv) hb
 ·exact rd_some hr hv hb
theorem ax{W:World}{g:Nat}{T:TypeId}{x0 x1 x2 x3 x4 x5 x6 x7 x8 x9 x10:Value}(h:ae W g T #[x0,x1,x2,x3,x4,x5,x6,x7,x8,x9,x10])(y0 y1 y2 y3 y4 y5 y6 y7 y8 y9 aj:Value):ae (((((((((((W.setCell ⟨g,0,none⟩ y0).setCell ⟨g,1,none⟩ y1).setCell ⟨g,2,none⟩ y2).setCell ⟨g,3,none⟩ y3).setCell ⟨g,4,none⟩ y4).setCell ⟨g,5,none⟩ y5).setCell ⟨g,6,none⟩ y6).setCell ⟨g,7,none⟩ y7).setCell ⟨g,8,none⟩ y8).setCell ⟨g,9,none⟩ y9).setCell ⟨g,10,none⟩ aj) g T #[y0,y1,y2,y3,y4,y5,y6,y7,y8,y9,aj]:=by
 have h0:=h.bJ 0 y0;rw[show (#[x0,x1,x2,x3,x4,x5,x6,x7,x8,x9,x10]:Array Value).setIfInBounds 0 y0=#[y0,x1,x2,x3,x4,x5,x6,x7,x8,x9,x10] from rfl] at h0;have h1:=h0.bJ 1 y1;rw[show (#[y0,x1,x2,x3,x4,x5,x6,x7,x8,x9,x10]:Array Value).setIfInBounds 1 y1=#[y0,y1,x2,x3,x4,x5,x6,x7,x8,x9,x10] from rfl] at h1;have h2:=h1.bJ 2 y2;rw[show (#[y0,y1,x2,x3,x4,x5,x6,x7,x8,x9,x10]:Array Value).setIfInBounds 2 y2=#[y0,y1,y2,x3,x4,x5,x6,x7,x8,x9,x10] from rfl] at h2;have h3:=h2.bJ 3 y3;rw[show (#[y0,y1,y2,x3,x4,x5,x6,x7,x8,x9,x10]:Array Value).setIfInBounds 3 y3=#[y0,y1,y2,y3,x4,x5,x6,x7,x8,x9,x10] from rfl] at h3;have h4:=h3.bJ 4 y4;rw[show (#[y0,y1,y2,y3,x4,x5,x6,x7,x8,x9,x10]:Array Value).setIfInBounds 4 y4=#[y0,y1,y2,y3,y4,x5,x6,x7,x8,x9,x10] from rfl] at h4;have h5:=h4.bJ 5 y5;rw[show (#[y0,y1,y2,y3,y4,x5,x6,x7,x8,x9,x10]:Array Value).setIfInBounds 5 y5=#[y0,y1,y2,y3,y4,y5,x6,x7,x8,x9,x10] from rfl] at h5;have h6:=h5.bJ 6 y6;rw[show (#[y0,y1,y2,y3,y4,y5,x6,x7,x8,x9,x10]:Array Value).setIfInBounds 6 y6=#[y0,y1,y2,y3,y4,y5,y6,x7,x8,x9,x10] from rfl] at h6;have h7:=h6.bJ 7 y7;rw[show (#[y0,y1,y2,y3,y4,y5,y6,x7,x8,x9,x10]:Array Value).setIfInBounds 7 y7=#[y0,y1,y2,y3,y4,y5,y6,y7,x8,x9,x10] from rfl] at h7;have h8:=h7.bJ 8 y8;rw[show (#[y0,y1,y2,y3,y4,y5,y6,y7,x8,x9,x10]:Array Value).setIfInBounds 8 y8=#[y0,y1,y2,y3,y4,y5,y6,y7,y8,x9,x10] from rfl] at h8;have h9:=h8.bJ 9 y9;rw[show (#[y0,y1,y2,y3,y4,y5,y6,y7,y8,x9,x10]:Array Value).setIfInBounds 9 y9=#[y0,y1,y2,y3,y4,y5,y6,y7,y8,y9,x10] from rfl] at h9;have h10:=h9.bJ 10 aj;rw[show (#[y0,y1,y2,y3,y4,y5,y6,y7,y8,y9,x10]:Array Value).setIfInBounds 10 aj=#[y0,y1,y2,y3,y4,y5,y6,y7,y8,y9,aj] from rfl] at h10;exact h10
theorem au{B:Nat}{w W:World}(h:Below B w W){g:Nat}(hg:B≤g)(y0 y1 y2 y3 y4 y5 y6 y7 y8 y9 aj:Value):Below B w (((((((((((W.setCell ⟨g,0,none⟩ y0).setCell ⟨g,1,none⟩ y1).setCell ⟨g,2,none⟩ y2).setCell ⟨g,3,none⟩ y3).setCell ⟨g,4,none⟩ y4).setCell ⟨g,5,none⟩ y5).setCell ⟨g,6,none⟩ y6).setCell ⟨g,7,none⟩ y7).setCell ⟨g,8,none⟩ y8).setCell ⟨g,9,none⟩ y9).setCell ⟨g,10,none⟩ aj):=
 (((((((((((h.setCell (p:=⟨g,0,none⟩) hg y0).setCell (p:=⟨g,1,none⟩) hg y1).setCell (p:=⟨g,2,none⟩) hg y2).setCell (p:=⟨g,3,none⟩) hg y3).setCell (p:=⟨g,4,none⟩) hg y4).setCell (p:=⟨g,5,none⟩) hg y5).setCell (p:=⟨g,6,none⟩) hg y6).setCell (p:=⟨g,7,none⟩) hg y7).setCell (p:=⟨g,8,none⟩) hg y8).setCell (p:=⟨g,9,none⟩) hg y9).setCell (p:=⟨g,10,none⟩) hg aj)
def ZM(W:World)(g:Nat):Prop:=ae W g 74 #[.int .i64 0,.int .i64 0,.string ⟨#[]⟩,.int .i64 0,.string ⟨#[]⟩,.string ⟨#[]⟩,.string ⟨#[]⟩,.string ⟨#[]⟩,.string ⟨#[]⟩,.slice none 0 0,.slice none 0 0]
theorem ZM.facts{W:World}{g:Nat}(h:ZM W g):W.cell? ⟨g,0,none⟩=some (.int .i64 0)∧W.cell? ⟨g,1,none⟩=some (.int .i64 0)∧W.cell? ⟨g,2,none⟩=some (.string ⟨#[]⟩)∧W.cell? ⟨g,3,none⟩=some (.int .i64 0)∧W.cell? ⟨g,4,none⟩=some (.string ⟨#[]⟩)∧W.cell? ⟨g,5,none⟩=some (.string ⟨#[]⟩)∧W.cell? ⟨g,6,none⟩=some (.string ⟨#[]⟩)∧W.cell? ⟨g,7,none⟩=some (.string ⟨#[]⟩)∧W.cell? ⟨g,8,none⟩=some (.string ⟨#[]⟩)∧W.cell? ⟨g,9,none⟩=some (.slice none 0 0)∧W.cell? ⟨g,10,none⟩=some (.slice none 0 0)∧W.frozen? ⟨g,0,none⟩=false∧W.frozen? ⟨g,1,none⟩=false∧W.frozen? ⟨g,2,none⟩=false∧W.frozen? ⟨g,3,none⟩=false∧W.frozen? ⟨g,4,none⟩=false∧W.frozen? ⟨g,5,none⟩=false∧W.frozen? ⟨g,6,none⟩=false∧W.frozen? ⟨g,7,none⟩=false∧W.frozen? ⟨g,8,none⟩=false∧W.frozen? ⟨g,9,none⟩=false∧W.frozen? ⟨g,10,none⟩=false:=
 ⟨h.cell 0,h.cell 1,h.cell 2,h.cell 3,h.cell 4,h.cell 5,h.cell 6,h.cell 7,h.cell 8,h.cell 9,h.cell 10,h.frozen 0,h.frozen 1,h.frozen 2,h.frozen 3,h.frozen 4,h.frozen 5,h.frozen 6,h.frozen 7,h.frozen 8,h.frozen 9,h.frozen 10⟩
theorem az{W:World}{g:Nat}{T:TypeId}{x0 x1 x2 x3 x4 x5 x6 x7 x8 x9 x10:Value}(h:ae W g T #[x0,x1,x2,x3,x4,x5,x6,x7,x8,x9,x10]):W.cell? ⟨g,0,none⟩=some x0∧W.cell? ⟨g,1,none⟩=some x1∧W.cell? ⟨g,2,none⟩=some x2∧W.cell? ⟨g,3,none⟩=some x3∧W.cell? ⟨g,4,none⟩=some x4∧W.cell? ⟨g,5,none⟩=some x5∧W.cell? ⟨g,6,none⟩=some x6∧W.cell? ⟨g,7,none⟩=some x7∧W.cell? ⟨g,8,none⟩=some x8∧W.cell? ⟨g,9,none⟩=some x9∧W.cell? ⟨g,10,none⟩=some x10∧W.frozen? ⟨g,0,none⟩=false∧W.frozen? ⟨g,1,none⟩=false∧W.frozen? ⟨g,2,none⟩=false∧W.frozen? ⟨g,3,none⟩=false∧W.frozen? ⟨g,4,none⟩=false∧W.frozen? ⟨g,5,none⟩=false∧W.frozen? ⟨g,6,none⟩=false∧W.frozen? ⟨g,7,none⟩=false∧W.frozen? ⟨g,8,none⟩=false∧W.frozen? ⟨g,9,none⟩=false∧W.frozen? ⟨g,10,none⟩=false:=
 ⟨h.cell 0,h.cell 1,h.cell 2,h.cell 3,h.cell 4,h.cell 5,h.cell 6,h.cell 7,h.cell 8,h.cell 9,h.cell 10,h.frozen 0,h.frozen 1,h.frozen 2,h.frozen 3,h.frozen 4,h.frozen 5,h.frozen 6,h.frozen 7,h.frozen 8,h.frozen 9,h.frozen 10⟩
theorem Ff{W:World}{g:Nat}{x0 x1 x2 x3 x4 x5 x6 x7 x8 x9 x10:Value}{u:Value}{P:Ending→World→Prop}{act:Act}(hr:ae W g 74 #[x0,x1,x2,x3,x4,x5,x6,x7,x8,x9,x10])(h4:act.tmps.getD 4 undef=.pointer (some ⟨g,0,none⟩))(h5:act.tmps.getD 5 undef=u)(hd:act.defers=[])(hP:P (.returned (.tuple #[.agg #[x0,x1,x2,x3,x4,x5,x6,x7,x8,x9,x10],u])) W):bodyPost prog Tryz.f59 P Exit.ret act W:=by
 obtain⟨c0,c1,c2,c3,c4,c5,c6,c7,c8,c9,c10,_⟩:=az hr;refine bodyPost_ret (v:=.tuple #[.agg #[x0,x1,x2,x3,x4,x5,x6,x7,x8,x9,x10],u]) ?_ hd hP;rw[aew] at h4 h5;simp[results,Tryz.results59,go_sem,h4,h5,c0,c1,c2,c3,c4,c5,c6,c7,c8,c9,c10]
theorem XG{W:World}{g:Nat}{x0 x1 x2 x3 x4 x5 x6 x7 x8 x9 x10:Value}{u:Value}{q:Addr}{P:Ending→World→Prop}{act:Act}(hr:ae W g 74 #[x0,x1,x2,x3,x4,x5,x6,x7,x8,x9,x10])(h4:act.tmps.getD 4 undef=.pointer (some ⟨g,0,none⟩))(h5:act.tmps.getD 5 undef=.pointer (some q))(h6:W.cell? q=some u)(hd:act.defers=[])(hP:P (.returned (.tuple #[.agg #[x0,x1,x2,x3,x4,x5,x6,x7,x8,x9,x10],u])) W):bodyPost prog Tryz.f60 P Exit.ret act W:=by
 obtain⟨c0,c1,c2,c3,c4,c5,c6,c7,c8,c9,c10,_⟩:=az hr;refine bodyPost_ret (v:=.tuple #[.agg #[x0,x1,x2,x3,x4,x5,x6,x7,x8,x9,x10],u]) ?_ hd hP;rw[aew] at h4 h5;simp[results,Tryz.results60,go_sem,h4,h5,h6,c0,c1,c2,c3,c4,c5,c6,c7,c8,c9,c10]
theorem PO{W:World}{g:Nat}{x0 x1 x2 x3 x4 x5 x6 x7 x8 x9 x10:Value}{u:Value}{P:Ending→World→Prop}{act:Act}(hr:ae W g 74 #[x0,x1,x2,x3,x4,x5,x6,x7,x8,x9,x10])(h4:act.tmps.getD 4 undef=.pointer (some ⟨g,0,none⟩))(h5:act.tmps.getD 5 undef=u)(hd:act.defers=[])(hP:P (.returned (.tuple #[.agg #[x0,x1,x2,x3,x4,x5,x6,x7,x8,x9,x10],u])) W):bodyPost prog Tryz.f61 P Exit.ret act W:=by
 obtain⟨c0,c1,c2,c3,c4,c5,c6,c7,c8,c9,c10,_⟩:=az hr;refine bodyPost_ret (v:=.tuple #[.agg #[x0,x1,x2,x3,x4,x5,x6,x7,x8,x9,x10],u]) ?_ hd hP;rw[aew] at h4 h5;simp[results,Tryz.results61,go_sem,h4,h5,c0,c1,c2,c3,c4,c5,c6,c7,c8,c9,c10]
theorem PS{W:World}{g:Nat}{x0 x1 x2 x3 x4 x5 x6 x7 x8 x9 x10:Value}{u:Value}{P:Ending→World→Prop}{act:Act}(hr:ae W g 74 #[x0,x1,x2,x3,x4,x5,x6,x7,x8,x9,x10])(h4:act.tmps.getD 4 undef=.pointer (some ⟨g,0,none⟩))(h5:act.tmps.getD 5 undef=u)(hd:act.defers=[])(hP:P (.returned (.tuple #[.agg #[x0,x1,x2,x3,x4,x5,x6,x7,x8,x9,x10],u])) W):bodyPost prog Tryz.f62 P Exit.ret act W:=by
 obtain⟨c0,c1,c2,c3,c4,c5,c6,c7,c8,c9,c10,_⟩:=az hr;refine bodyPost_ret (v:=.tuple #[.agg #[x0,x1,x2,x3,x4,x5,x6,x7,x8,x9,x10],u]) ?_ hd hP;rw[aew] at h4 h5;simp[results,Tryz.results62,go_sem,h4,h5,c0,c1,c2,c3,c4,c5,c6,c7,c8,c9,c10]
theorem Ce{W:World}{g:Nat}{x0 x1 x2 x3 x4 x5 x6 x7 x8 x9 x10:Value}{u:Value}{P:Ending→World→Prop}{act:Act}(hr:ae W g 74 #[x0,x1,x2,x3,x4,x5,x6,x7,x8,x9,x10])(h4:act.tmps.getD 4 undef=.pointer (some ⟨g,0,none⟩))(h5:act.tmps.getD 5 undef=u)(hd:act.defers=[])(hP:P (.returned (.tuple #[.agg #[x0,x1,x2,x3,x4,x5,x6,x7,x8,x9,x10],u])) W):bodyPost prog Tryz.f64 P Exit.ret act W:=by
 obtain⟨c0,c1,c2,c3,c4,c5,c6,c7,c8,c9,c10,_⟩:=az hr;refine bodyPost_ret (v:=.tuple #[.agg #[x0,x1,x2,x3,x4,x5,x6,x7,x8,x9,x10],u]) ?_ hd hP;rw[aew] at h4 h5;simp[results,Tryz.results64,go_sem,h4,h5,c0,c1,c2,c3,c4,c5,c6,c7,c8,c9,c10]
theorem PT{W:World}{g:Nat}{x0 x1 x2 x3 x4 x5 x6 x7 x8 x9 x10:Value}{u:Value}{P:Ending→World→Prop}{act:Act}(hr:ae W g 74 #[x0,x1,x2,x3,x4,x5,x6,x7,x8,x9,x10])(h4:act.tmps.getD 4 undef=.pointer (some ⟨g,0,none⟩))(h5:act.tmps.getD 5 undef=u)(hd:act.defers=[])(hP:P (.returned (.tuple #[.agg #[x0,x1,x2,x3,x4,x5,x6,x7,x8,x9,x10],u])) W):bodyPost prog Tryz.f65 P Exit.ret act W:=by
 obtain⟨c0,c1,c2,c3,c4,c5,c6,c7,c8,c9,c10,_⟩:=az hr;refine bodyPost_ret (v:=.tuple #[.agg #[x0,x1,x2,x3,x4,x5,x6,x7,x8,x9,x10],u]) ?_ hd hP;rw[aew] at h4 h5;simp[results,Tryz.results65,go_sem,h4,h5,c0,c1,c2,c3,c4,c5,c6,c7,c8,c9,c10]
theorem Jv{W:World}{g:Nat}{x0 x1 x2 x3 x4 x5 x6 x7 x8 x9 x10:Value}{u:Value}{P:Ending→World→Prop}{act:Act}(hr:ae W g 74 #[x0,x1,x2,x3,x4,x5,x6,x7,x8,x9,x10])(h4:act.tmps.getD 4 undef=.pointer (some ⟨g,0,none⟩))(h5:act.tmps.getD 5 undef=u)(hd:act.defers=[])(hP:P (.returned (.tuple #[.agg #[x0,x1,x2,x3,x4,x5,x6,x7,x8,x9,x10],u])) W):bodyPost prog Tryz.f66 P Exit.ret act W:=by
 obtain⟨c0,c1,c2,c3,c4,c5,c6,c7,c8,c9,c10,_⟩:=az hr;refine bodyPost_ret (v:=.tuple #[.agg #[x0,x1,x2,x3,x4,x5,x6,x7,x8,x9,x10],u]) ?_ hd hP;rw[aew] at h4 h5;simp[results,Tryz.results66,go_sem,h4,h5,c0,c1,c2,c3,c4,c5,c6,c7,c8,c9,c10]
theorem Cf{W:World}{g:Nat}{x0 x1 x2 x3 x4 x5 x6 x7 x8 x9 x10:Value}{u:Value}{P:Ending→World→Prop}{act:Act}(hr:ae W g 74 #[x0,x1,x2,x3,x4,x5,x6,x7,x8,x9,x10])(h4:act.tmps.getD 4 undef=.pointer (some ⟨g,0,none⟩))(h5:act.tmps.getD 5 undef=u)(hd:act.defers=[])(hP:P (.returned (.tuple #[.agg #[x0,x1,x2,x3,x4,x5,x6,x7,x8,x9,x10],u])) W):bodyPost prog Tryz.f67 P Exit.ret act W:=by
 obtain⟨c0,c1,c2,c3,c4,c5,c6,c7,c8,c9,c10,_⟩:=az hr;refine bodyPost_ret (v:=.tuple #[.agg #[x0,x1,x2,x3,x4,x5,x6,x7,x8,x9,x10],u]) ?_ hd hP;rw[aew] at h4 h5;simp[results,Tryz.results67,go_sem,h4,h5,c0,c1,c2,c3,c4,c5,c6,c7,c8,c9,c10]
theorem tH{W:World}{g:Nat}{x0 x1 x2 x3 x4 x5 x6 x7 x8 x9 x10:Value}{u:Value}{P:Ending→World→Prop}{act:Act}(hr:ae W g 74 #[x0,x1,x2,x3,x4,x5,x6,x7,x8,x9,x10])(h4:act.tmps.getD 4 undef=.pointer (some ⟨g,0,none⟩))(h5:act.tmps.getD 5 undef=u)(hd:act.defers=[])(hP:P (.returned (.tuple #[.agg #[x0,x1,x2,x3,x4,x5,x6,x7,x8,x9,x10],u])) W):bodyPost prog Tryz.f68 P Exit.ret act W:=by
 obtain⟨c0,c1,c2,c3,c4,c5,c6,c7,c8,c9,c10,_⟩:=az hr;refine bodyPost_ret (v:=.tuple #[.agg #[x0,x1,x2,x3,x4,x5,x6,x7,x8,x9,x10],u]) ?_ hd hP;rw[aew] at h4 h5;simp[results,Tryz.results68,go_sem,h4,h5,c0,c1,c2,c3,c4,c5,c6,c7,c8,c9,c10]
theorem oU{W:World}{g:Nat}{x0 x1 x2 x3 x4 x5 x6 x7 x8 x9 x10:Value}{P:Ending→World→Prop}{act:Act}(hr:ae W g 74 #[x0,x1,x2,x3,x4,x5,x6,x7,x8,x9,x10])(h4:act.tmps.getD 2 undef=.pointer (some ⟨g,0,none⟩))(hd:act.defers=[])(hP:P (.returned (.agg #[x0,x1,x2,x3,x4,x5,x6,x7,x8,x9,x10])) W):bodyPost prog Tryz.f38 P Exit.ret act W:=by
 obtain⟨c0,c1,c2,c3,c4,c5,c6,c7,c8,c9,c10,_⟩:=az hr;refine bodyPost_ret (v:=.agg #[x0,x1,x2,x3,x4,x5,x6,x7,x8,x9,x10]) ?_ hd hP;rw[aew] at h4;simp[results,Tryz.results38,go_sem,h4,c0,c1,c2,c3,c4,c5,c6,c7,c8,c9,c10]
theorem Fg{W:World}{g:Nat}{x0 x1 x2 x3 x4 x5 x6 x7 x8 x9 x10:Value}{P:Ending→World→Prop}{act:Act}(hr:ae W g 74 #[x0,x1,x2,x3,x4,x5,x6,x7,x8,x9,x10])(h4:act.tmps.getD 2 undef=.pointer (some ⟨g,0,none⟩))(hd:act.defers=[])(hP:P (.returned (.agg #[x0,x1,x2,x3,x4,x5,x6,x7,x8,x9,x10])) W):bodyPost prog Tryz.f124 P Exit.ret act W:=by
 obtain⟨c0,c1,c2,c3,c4,c5,c6,c7,c8,c9,c10,_⟩:=az hr;refine bodyPost_ret (v:=.agg #[x0,x1,x2,x3,x4,x5,x6,x7,x8,x9,x10]) ?_ hd hP;rw[aew] at h4;simp[results,Tryz.results124,go_sem,h4,c0,c1,c2,c3,c4,c5,c6,c7,c8,c9,c10]
theorem Fh{W:World}{g:Nat}{x0 x1 x2 x3 x4 x5 x6 x7 x8 x9 x10:Value}{P:Ending→World→Prop}{act:Act}(hr:ae W g 74 #[x0,x1,x2,x3,x4,x5,x6,x7,x8,x9,x10])(h4:act.tmps.getD 2 undef=.pointer (some ⟨g,0,none⟩))(hd:act.defers=[])(hP:P (.returned (.agg #[x0,x1,x2,x3,x4,x5,x6,x7,x8,x9,x10])) W):bodyPost prog Tryz.f125 P Exit.ret act W:=by
 obtain⟨c0,c1,c2,c3,c4,c5,c6,c7,c8,c9,c10,_⟩:=az hr;refine bodyPost_ret (v:=.agg #[x0,x1,x2,x3,x4,x5,x6,x7,x8,x9,x10]) ?_ hd hP;rw[aew] at h4;simp[results,Tryz.results125,go_sem,h4,c0,c1,c2,c3,c4,c5,c6,c7,c8,c9,c10]
theorem rf{W:World}{g:Nat}{x0 x1 x2 x3 x4 x5 x6 x7 x8 x9 x10:Value}{P:Ending→World→Prop}{act:Act}(hr:ae W g 74 #[x0,x1,x2,x3,x4,x5,x6,x7,x8,x9,x10])(h4:act.tmps.getD 4 undef=.pointer (some ⟨g,0,none⟩))(hd:act.defers=[])(hP:P (.returned (.agg #[x0,x1,x2,x3,x4,x5,x6,x7,x8,x9,x10])) W):bodyPost prog Tryz.f127 P Exit.ret act W:=by
 obtain⟨c0,c1,c2,c3,c4,c5,c6,c7,c8,c9,c10,_⟩:=az hr;refine bodyPost_ret (v:=.agg #[x0,x1,x2,x3,x4,x5,x6,x7,x8,x9,x10]) ?_ hd hP;rw[aew] at h4;simp[results,Tryz.results127,go_sem,h4,c0,c1,c2,c3,c4,c5,c6,c7,c8,c9,c10]
theorem zZ{W:World}{g:Nat}{x0 x1 x2 x3 x4 x5 x6 x7 x8 x9 x10:Value}{P:Ending→World→Prop}{act:Act}(hr:ae W g 74 #[x0,x1,x2,x3,x4,x5,x6,x7,x8,x9,x10])(h4:act.tmps.getD 4 undef=.pointer (some ⟨g,0,none⟩))(hd:act.defers=[])(hP:P (.returned (.agg #[x0,x1,x2,x3,x4,x5,x6,x7,x8,x9,x10])) W):bodyPost prog Tryz.f128 P Exit.ret act W:=by
 obtain⟨c0,c1,c2,c3,c4,c5,c6,c7,c8,c9,c10,_⟩:=az hr;refine bodyPost_ret (v:=.agg #[x0,x1,x2,x3,x4,x5,x6,x7,x8,x9,x10]) ?_ hd hP;rw[aew] at h4;simp[results,Tryz.results128,go_sem,h4,c0,c1,c2,c3,c4,c5,c6,c7,c8,c9,c10]
theorem Fj{W:World}{g:Nat}{x0 x1 x2 x3 x4 x5 x6 x7 x8 x9 x10:Value}{P:Ending→World→Prop}{act:Act}(hr:ae W g 74 #[x0,x1,x2,x3,x4,x5,x6,x7,x8,x9,x10])(h4:act.tmps.getD 2 undef=.pointer (some ⟨g,0,none⟩))(hd:act.defers=[])(hP:P (.returned (.agg #[x0,x1,x2,x3,x4,x5,x6,x7,x8,x9,x10])) W):bodyPost prog Tryz.f130 P Exit.ret act W:=by
 obtain⟨c0,c1,c2,c3,c4,c5,c6,c7,c8,c9,c10,_⟩:=az hr;refine bodyPost_ret (v:=.agg #[x0,x1,x2,x3,x4,x5,x6,x7,x8,x9,x10]) ?_ hd hP;rw[aew] at h4;simp[results,Tryz.results130,go_sem,h4,c0,c1,c2,c3,c4,c5,c6,c7,c8,c9,c10]
theorem Aa{W:World}{g:Nat}{x0 x1 x2 x3 x4 x5 x6 x7 x8 x9 x10:Value}{P:Ending→World→Prop}{act:Act}(hr:ae W g 74 #[x0,x1,x2,x3,x4,x5,x6,x7,x8,x9,x10])(h4:act.tmps.getD 2 undef=.pointer (some ⟨g,0,none⟩))(hd:act.defers=[])(hP:P (.returned (.agg #[x0,x1,x2,x3,x4,x5,x6,x7,x8,x9,x10])) W):bodyPost prog Tryz.f131 P Exit.ret act W:=by
 obtain⟨c0,c1,c2,c3,c4,c5,c6,c7,c8,c9,c10,_⟩:=az hr;refine bodyPost_ret (v:=.agg #[x0,x1,x2,x3,x4,x5,x6,x7,x8,x9,x10]) ?_ hd hP;rw[aew] at h4;simp[results,Tryz.results131,go_sem,h4,c0,c1,c2,c3,c4,c5,c6,c7,c8,c9,c10]
theorem PU{W:World}{g:Nat}{x0 x1 x2 x3 x4 x5 x6 x7 x8 x9 x10:Value}{P:Ending→World→Prop}{act:Act}(hr:ae W g 74 #[x0,x1,x2,x3,x4,x5,x6,x7,x8,x9,x10])(h4:act.tmps.getD 4 undef=.pointer (some ⟨g,0,none⟩))(hd:act.defers=[])(hP:P (.returned (.agg #[x0,x1,x2,x3,x4,x5,x6,x7,x8,x9,x10])) W):bodyPost prog Tryz.f126 P Exit.ret act W:=by
 obtain⟨c0,c1,c2,c3,c4,c5,c6,c7,c8,c9,c10,_⟩:=az hr;refine bodyPost_ret (v:=.agg #[x0,x1,x2,x3,x4,x5,x6,x7,x8,x9,x10]) ?_ hd hP;rw[aew] at h4;simp[results,Tryz.results126,go_sem,h4,c0,c1,c2,c3,c4,c5,c6,c7,c8,c9,c10]
theorem Jw{W:World}{g:Nat}{x0 x1 x2 x3 x4 x5 x6 x7 x8 x9 x10:Value}{P:Ending→World→Prop}{act:Act}(hr:ae W g 74 #[x0,x1,x2,x3,x4,x5,x6,x7,x8,x9,x10])(h4:act.tmps.getD 2 undef=.pointer (some ⟨g,0,none⟩))(hd:act.defers=[])(hP:P (.returned (.agg #[x0,x1,x2,x3,x4,x5,x6,x7,x8,x9,x10])) W):bodyPost prog Tryz.f129 P Exit.ret act W:=by
 obtain⟨c0,c1,c2,c3,c4,c5,c6,c7,c8,c9,c10,_⟩:=az hr;refine bodyPost_ret (v:=.agg #[x0,x1,x2,x3,x4,x5,x6,x7,x8,x9,x10]) ?_ hd hP;rw[aew] at h4;simp[results,Tryz.results129,go_sem,h4,c0,c1,c2,c3,c4,c5,c6,c7,c8,c9,c10]
theorem tJ{W:World}{g:Nat}{x0 x1 x2 x3 x4 x5 x6 x7 x8 x9 x10:Value}{P:Ending→World→Prop}{act:Act}(hr:ae W g 74 #[x0,x1,x2,x3,x4,x5,x6,x7,x8,x9,x10])(h4:act.tmps.getD 2 undef=.pointer (some ⟨g,0,none⟩))(hd:act.defers=[])(hP:P (.returned (.agg #[x0,x1,x2,x3,x4,x5,x6,x7,x8,x9,x10])) W):bodyPost prog Tryz.f132 P Exit.ret act W:=by
 obtain⟨c0,c1,c2,c3,c4,c5,c6,c7,c8,c9,c10,_⟩:=az hr;refine bodyPost_ret (v:=.agg #[x0,x1,x2,x3,x4,x5,x6,x7,x8,x9,x10]) ?_ hd hP;rw[aew] at h4;simp[results,Tryz.results132,go_sem,h4,c0,c1,c2,c3,c4,c5,c6,c7,c8,c9,c10]
theorem Fp{W:World}{g:Nat}{x0 x1 x2 x3 x4 x5 x6 x7 x8 x9 x10:Value}{P:Ending→World→Prop}{act:Act}(hr:ae W g 74 #[x0,x1,x2,x3,x4,x5,x6,x7,x8,x9,x10])(h4:act.tmps.getD 2 undef=.pointer (some ⟨g,0,none⟩))(hd:act.defers=[])(hP:P (.returned (.agg #[x0,x1,x2,x3,x4,x5,x6,x7,x8,x9,x10])) W):bodyPost prog Tryz.f80 P Exit.ret act W:=by
 obtain⟨c0,c1,c2,c3,c4,c5,c6,c7,c8,c9,c10,_⟩:=az hr;refine bodyPost_ret (v:=.agg #[x0,x1,x2,x3,x4,x5,x6,x7,x8,x9,x10]) ?_ hd hP;rw[aew] at h4;simp[results,Tryz.results80,go_sem,h4,c0,c1,c2,c3,c4,c5,c6,c7,c8,c9,c10]
end Go.Proofs.YtpoafhgbhnblmaaGreatDoor
