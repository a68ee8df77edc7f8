import Derived.Test.YtpoafhgbhnblmaaGreatDoorF26
set_option linter.unusedVariables false
set_option linter.unusedSimpArgs false
set_option maxRecDepth 100000
set_option maxHeartbeats 20000000
namespace Go.Proofs.YtpoafhgbhnblmaaGreatDoor
open Go.Proofs.Tryz (prog)
open Go.RowKit
theorem abZ(s:ByteArray)(i:Nat)(w:World)(hs:s.size≤1000000)(hi:i≤s.size):Calls prog 180 #[.string s,.int .i64 i] w fun e w'=>e=.returned (.int .i64 (runF s i cu))∧w=w':=by
 have HR:Hid (∀j:Nat,j=0→j+runF s (i+j) cu=runF s i cu):=aen (by intro j hj;rw[hj,Nat.zero_add];rfl);generalize runF s i cu=R at *;go_enter Tryz.func180,Tryz.ntmps180;go_wp2;go_loop [5] (fun v=>∃k:Nat,i+k≤s.size∧v=.int .i64 k∧Hid (k+runF s (i+k) cu=R)) (fun v=>s.size - (intOf v).toNat);case atStart=>exact⟨0,by omega,rfl,aen (HR.out 0 rfl)⟩
 case round=>
  obtain⟨k,hk,rfl,Hk⟩:=hrel;clear HR;have hcn:((i:Int)+(k:Int)).toNat=i+k:=by omega
  by_cases hlt:i+k<s.size
  ·have hg:=get_bt s (i+k) hlt;have y0:decide ((i:Int)+(k:Int)<(s.size:Int))=true:=aeq (by omega);have y0':decide (i+k<s.size)=true:=aeq hlt;have hcase:(Hid (cu (bt s (i+k))=true)∧decide (48≤((s[i+k].toNat:Nat):Int))=true∧decide (48≤s[i+k].toNat)=true∧decide (((s[i+k].toNat:Nat):Int)≤57)=true∧decide (s[i+k].toNat≤57)=true) ∨
    (Hid (cu (bt s (i+k))=false)∧
     ((decide (48≤((s[i+k].toNat:Nat):Int))=false∧decide (48≤s[i+k].toNat)=false)∨(decide (48≤((s[i+k].toNat:Nat):Int))=true∧decide (48≤s[i+k].toNat)=true∧decide (((s[i+k].toNat:Nat):Int)≤57)=false∧decide (s[i+k].toNat≤57)=false))):=by
    rw[hg];generalize bt s (i+k)=b at *;by_cases h48:48≤b
    ·by_cases h57:b≤57
     ·exact Or.inl ⟨aen ((tV b).2 ⟨h48,h57⟩),aeq (by omega),aeq h48,aeq (by omega),aeq h57⟩
     ·exact Or.inr ⟨aen (Bool.eq_false_iff.2 fun h=>h57 ((tV b).1 h).2),Or.inr ⟨aeq (by omega),aeq h48,aep (by omega),aep h57⟩⟩
    ·exact Or.inr ⟨aen (Bool.eq_false_iff.2 fun h=>h48 ((tV b).1 h).1),Or.inl ⟨aep (by omega),aep h48⟩⟩
   rcases hcase with ⟨Hp,d1,d2,d3,d4⟩|⟨Hp,hd⟩
   ·have HF:Hid (k+1+runF s (i+(k+1)) cu=R):=aen (by rw[←Hk.out,FN s (i+k) cu hlt Hp.out];simp only[Nat.add_assoc,Nat.add_comm,Nat.add_left_comm]);clear Hp hg;go_wp2_with fail;all_goals exact⟨⟨k+1,by omega,by go_num,HF⟩,by simp[intOf];omega⟩
   ·have HF:Hid (k=R):=aen (by rw[←Hk.out,CQ s (i+k) cu hlt Hp.out];rfl);clear Hp hg;rcases hd with ⟨d1,d2⟩|⟨d1,d2,d3,d4⟩;all_goals
     go_wp2_with fail;go_ret;exact⟨iy (by rw[HF.out]),rfl⟩
  ·have HF:Hid (k=R):=aen (by rw[←Hk.out,CP s (i+k) cu (by omega)];rfl);have y0:decide ((i:Int)+(k:Int)<(s.size:Int))=false:=aep (by omega);have y0':decide (i+k<s.size)=false:=aep hlt;go_wp2_with fail;go_ret;exact⟨iy (by rw[HF.out]),rfl⟩
theorem ab1(l r:List UInt8)(hr:∀b∈r,b=32):dF (l++r)=dF l:=by
 obtain⟨r1,h1,h2⟩:=JU l;have h3:l++r=dF l++(r1++r):=by rw[←List.append_assoc,←h1]
 rw[h3,QB (r1++r) (dF l) (fun b hb=>by
  rcases List.mem_append.1 hb with h|h
  ·exact h2 b h
  ·exact hr b h) (VW l)]
theorem TG(r:List UInt8)(hr:∀b∈r,b=32):∀l:List UInt8,trimS (l++r)=trimS l
 | []=>by
  show dF (trimF r)=dF (trimF []);rw[Qz r hr];rfl
 |c :: l=>by
  by_cases h:c=32
  ·subst h;have ih:=TG r hr l;unfold trimS at ih ⊢;rw[List.cons_append,wH,wH];exact ih
  ·unfold trimS;rw[List.cons_append,zN _ _ h,zN _ _ h,←List.cons_append,ab1 _ r hr]
theorem TI(p:Nat→Bool)(hp:p 32=false)(r:List UInt8)(hr:∀b∈r,b=32):∀l:List UInt8,cntW p (l++r)=cntW p l
 | []=>by
  cases r with
  |nil=>rfl
  |cons x r=>
   have hx:=hr x (List.mem_cons_self ..);subst hx;show (if p 32=true then _ else 0)=0;rw[if_neg (by rw[hp];exact Bool.false_ne_true)]
 |c :: l=>by
  show (if p c.toNat=true then cntW p (l++r)+1 else 0)=(if p c.toNat=true then cntW p l+1 else 0);rw[TI p hp r hr l]
theorem ab2{s t:ByteArray}(h:trimS (bytesL s)=trimS (bytesL t)):jq s=jq t:=by unfold jq;rw[h]
theorem ab3(s:ByteArray):lU s=cntW bf (bytesL s):=by
 unfold lU;rw[FO s bf _ (fun b=>rfl)];unfold runF sfx;rw[List.drop_zero]
theorem div_eq(c:ByteArray)(n:Nat)(hn:n≤c.size):wV (mk (trimS (sfx c n))) n=
 if nameB (c.extract (ah c n) (ah c n+runF c (ah c n) bf))=true then (qw c (ah c n+runF c (ah c n) bf)).map fun a=>{kind:=9,n:=n,info:=c.extract (ah c n) (ah c n+runF c (ah c n) bf),att:=a} else none:=by
 have hb:=yu c n hn;rw[JW];generalize hi:ah c n=b at *;obtain⟨r,hr,CS⟩:=JU (sfx c b);generalize hT:dF (sfx c b)=T at *;have hK:lU (mk T)=runF c b bf:=by
  rw[ab3,bytesL_mk'];unfold runF;rw[hr,TI bf (by decide) r CS]
 have Mc:=Qm (mk T);rw[mk_size] at Mc;unfold wV;rw[hK] at *;generalize runF c b bf=K at *;have hlen:=congrArg List.length hr;rw[sfx_len,aey] at hlen;have h1:(mk T).extract 0 K=c.extract b (b+K):=by
  rw[←eX ((mk T).extract 0 K),←eX (c.extract b (b+K)),bytesL_sub,bytesL_sub];unfold sub;rw[bytesL_mk'];show mk ((T.drop 0).take (K - 0))=mk ((sfx c b).take (b+K - b));rw[hr,List.drop_zero,Nat.sub_zero,Nat.add_sub_cancel_left,List.take_append_of_le_length Mc]
 have h2:jq ((mk T).extract K (mk T).size)=qw c (b+K):=by
  rw[←QC c (b+K) (by omega)];refine ab2 ?_;rw[extract_drop,extract_drop,bytesL_mk',bytesL_mk',B5,hr];have h3:sfx (mk T) K=T.drop K:=by unfold sfx;rw[bytesL_mk']
  rw[h3,List.drop_append_of_le_length Mc,TG r CS]
 rw[h1,h2]
theorem Md{W:World}{g:Nat}{x y z u:Value}{P:Ending→World→Prop}{act:Act}(hr:ae W g 43 #[x,y,z])(h4:act.tmps.getD 2 undef=.pointer (some ⟨g,0,none⟩))
 (h5:act.tmps.getD 3 undef=u) (hd:act.defers=[]) (hP:P (.returned (.tuple #[.agg #[x,y,z],u])) W):bodyPost prog Tryz.f177 P Exit.ret act W:=by
 have c0:W.cell? ⟨g,0,none⟩=some x:=hr.cell 0;have c1:W.cell? ⟨g,1,none⟩=some y:=hr.cell 1;have c2:W.cell? ⟨g,2,none⟩=some z:=hr.cell 2;refine bodyPost_ret (v:=.tuple #[.agg #[x,y,z],u]) ?_ hd hP;rw[aew] at h4 h5;simp[results,Tryz.results177,go_sem,h4,h5,c0,c1,c2]
def ab4(r:ByteArray × AttrL)(w:World)(e:Ending)(w':World):Prop:=(∃vC vP,e=.returned (.tuple #[.agg #[.string r.2.id,vC,vP],.string r.1])∧aZ w' w.heap.size r.2 vC vP)∧Below w.heap.size w w'
theorem ab5(s:ByteArray)(w:World)(hs:s.size≤1000000):Calls prog 177 #[.string s] w (ab4 (ja s) w):=by
 have JF:=aen (PZ s);have ni:=aen (Qa s);have hA0:ae (w.alloc (.cells #[.string ⟨#[]⟩,.slice none 0 0,.slice none 0 0] 43)) w.heap.size 43 #[.string ⟨#[]⟩,.slice none 0 0,.slice none 0 0]:=ae.new w _ _;have hB0:Below w.heap.size w (w.alloc (.cells #[.string ⟨#[]⟩,.slice none 0 0,.slice none 0 0] 43)):=(aer _ w).alloc (aeo _) _;generalize ja s=R at *;go_enter Tryz.func177,Tryz.ntmps177;go_wp2_with fail;go_loopw [4] (fun v wr=>∃k:Nat,v=.int .i64 k∧k≤s.size∧ae wr w.heap.size 43 #[.string ⟨#[]⟩,.slice none 0 0,.slice none 0 0]∧Below w.heap.size w wr∧Hid (∀j,j<k→fG s j=false)) (fun v _=>s.size - (intOf v).toNat);case atStart=>exact⟨0,rfl,Nat.zero_le _,hA0,hB0,aen fun j hj=>absurd hj (by omega)⟩
 case round=>
  obtain⟨k,rfl,hks,hA,hB,HG⟩:=hrel;clear hA0 hB0;by_cases hlt:k<s.size;case neg=>
   obtain rfl:k=s.size:=by omega
   have HF:Hid (R=(s,ak)):=aen (ni.out HG.out);have y1:decide ((s.size:Int)<(s.size:Int))=false:=aep (by omega);have a0:=hA.cell 0;have a1:=hA.cell 1;have a2:=hA.cell 2;have f0:=hA.frozen 0;have f1:=hA.frozen 1;have f2:=hA.frozen 2;have hB2:=below3 hB (aeo w.heap.size) (.string ⟨#[]⟩) (.slice none 0 0) (.slice none 0 0);have hA2:=aen (fZ hA rfl (.string ⟨#[]⟩) (.slice none 0 0) (.slice none 0 0));have hB2:=aen hB2;go_wp2_with fail;refine Md hA2.out rfl rfl rfl ?_;rw[HF.out];exact⟨⟨_,_,rfl,wP _ _ hB2.out.size⟩,hB2.out⟩
  have hg:=get_bt s k hlt;have HN:Hid (fG s k=false→∀j,j<k+1→fG s j=false):=aen fun h j hj=>by
   by_cases e:j=k
   ·rw[e];exact h
   ·exact HG.out j (by omega)
  have HO:Hid (fG s k=(decide (bt s k=123)&&(decide (k=0)||decide (bt s (k - 1)=32))&&(decide ((aN s k).2.2=0)&&decide ((aN s k).2.1=s.size)))):=aen rfl;by_cases h1:bt s k=123;case neg=>
   have lF:=aen (HN.out (by rw[HO.out,aep h1];rfl));have z1:(((bt s k:Nat):Int)==123)=false:=by rw[aes];omega
   clear HN HO h1;go_wp2_with fail;go_round;case rel=>exact⟨k+1,by go_num,by omega,hA,hB,lF⟩
   case measure=>simp[intOf];omega
  have z1:(((bt s k:Nat):Int)==123)=true:=by rw[h1];rfl
  by_cases h2:k=0∨bt s (k - 1)=32;case neg=>
   have hk0:¬k=0:=fun e=>h2 (Or.inl e);have hb:¬bt s (k - 1)=32:=fun e=>h2 (Or.inr e);have lF:=aen (HN.out (by rw[HO.out,aep hk0,aep hb];simp));have hlt1:k - 1<s.size:=by omega
   have hcast:((k:Int) - 1)=((k - 1:Nat):Int):=by omega
   have oM:((k:Int) - 1).toNat=k - 1:=by omega
   have hg1:=get_bt s (k - 1) hlt1;have z2:((k:Int)==0)=false:=by rw[aes];omega
   have z2':(k==0)=false:=by rw[aes];exact hk0
   have z3:(((s[k - 1].toNat:Nat):Int)==32)=false:=by rw[hg1,aes];omega
   clear HN HO h1 h2 hb;go_wp2_with fail;go_round;case rel=>exact⟨k+1,by go_num,by omega,hA,hB,lF⟩
   case measure=>simp[intOf];omega
  have hcond:(((k:Int)==0)=true∧k=0)∨(((k:Int)==0)=false∧(k==0)=false∧0<k∧∃h:k - 1<s.size,(((s[k - 1].toNat:Nat):Int)==32)=true):=by
   by_cases e:k=0
   ·left;exact⟨by rw[e];rfl,e⟩
   ·right;refine⟨by rw[aes];omega,by rw[aes];exact e,by omega,by omega,?_⟩;rw[get_bt s (k - 1) (by omega),h2.resolve_left e];rfl
  have qI:Hid (fG s k=(decide ((aN s k).2.2=0)&&decide ((aN s k).2.1=s.size))):=aen (by
   rw[HO.out,aeq h1];rcases h2 with e|e
   ·rw[aeq e];rfl
   ·rw[aeq e,Bool.or_true];rfl)
  have vY:Hid (fG s k=true→R=(mk (trimS ((bytesL s).take k)),(aN s k).1)):=aen fun h=>JF.out k hlt HG.out h;have mQ:=aen fun W=>QE W s k hs;clear HO h1 h2;generalize aN s k=pr at *;obtain⟨a,t,n⟩:=pr;simp only at qI vY;have kX:(((n:Int)==0)=false∧fG s k=false)∨(((n:Int)==0)=true∧((t:Int)==(s.size:Int))=false∧(t==s.size)=false∧fG s k=false)∨(((n:Int)==0)=true∧((t:Int)==(s.size:Int))=true∧(t==s.size)=true∧fG s k=true):=by
   by_cases e1:n=0
   ·right;by_cases e2:t=s.size
    ·right;exact⟨by rw[e1];rfl,by rw[beq_iff_eq];omega,by rw[beq_iff_eq];exact e2,by rw[qI.out,aeq e1,aeq e2];rfl⟩
    ·left;exact⟨by rw[e1];rfl,by rw[aes];omega,by rw[aes];exact e2,by rw[qI.out,aeq e1,aep e2];rfl⟩
   ·left;exact⟨by rw[aes];omega,by rw[qI.out,aep e1];rfl⟩
  have htz:(s.extract 0 k).size≤1000000:=by rw[aex];omega
  have dZ:Hid (∀W,Calls prog 178 #[.string (s.extract 0 k)] W fun e w'=>e=.returned (.string (mk (trimS ((bytesL s).take k))))∧w'=W):=aen fun W=>by
   have h:=L8 (s.extract 0 k) W htz;rw[wC,bytesL_mk',←wC] at h;exact h.mono fun e w' hh=>⟨hh.1,hh.2.symm⟩
  have hgl:=hA.lt;have HW:Hid (∀W1,Below wr.heap.size wr W1→ae W1 w.heap.size 43 #[.string ⟨#[]⟩,.slice none 0 0,.slice none 0 0]∧Below w.heap.size w W1):=aen fun W1 hb=>⟨hA.below hb hgl,hB.trans (hb.mono hB.size)⟩;have mW:=aen hgl;clear qI hA hB hgl htz;rcases hcond with ⟨c1,rfl⟩|⟨c1,c2,c3,c4,c5⟩
  ·have mQ:Hid (∀W,Calls prog 219 #[.string s,.int .i64 0] W (wM (a,t,n) W)):=mQ;have dZ:Hid (∀W,Calls prog 178 #[.string ByteArray.empty] W fun e w'=>e=.returned (.string (mk (trimS ((bytesL s).take 0))))∧w'=W):=aen fun W=>by
    have e:s.extract 0 0=ByteArray.empty:=by rw[←eX (s.extract 0 0),bytesL_sub,sub_self];rfl
    rw[←e];exact dZ.out W
   rcases kX with ⟨t1,t2⟩|⟨t1,t2,t3,t4⟩|⟨t1,t2,t3,t4⟩
   ·have lF:=aen (HN.out t2);clear t2 HN vY dZ;go_wp2_with fail;with_reducible refine(mQ.out _).mono ?_
    rintro e W1 ⟨v,rfl,⟨⟨vC,vP,rfl,dP,hP1⟩,hc32,nV⟩,b1⟩;obtain⟨qA,qc,rfl⟩:=ay dP;obtain⟨qD,qd,rfl⟩:=ay hP1;obtain⟨hA1,hB1⟩:=HW.out W1 b1;have hA2:=aen (ae.alloc hA1 (.cells #[.string a.id,.slice qA a.cl.length qc,.slice qD a.pr.length qd] 43));have hB2:=aen (hB1.alloc hB1.size (.cells #[.string a.id,.slice qA a.cl.length qc,.slice qD a.pr.length qd] 43));clear b1 dP hP1 hA1 hB1;go_wp2_with fail;go_round;case rel=>exact⟨0+1,by go_num,by omega,hA2.out,hB2.out,lF⟩
    case measure=>simp[intOf];omega
   ·have lF:=aen (HN.out t4);clear t4 HN vY dZ;go_wp2_with fail;with_reducible refine(mQ.out _).mono ?_
    rintro e W1 ⟨v,rfl,⟨⟨vC,vP,rfl,dP,hP1⟩,hc32,nV⟩,b1⟩;obtain⟨qA,qc,rfl⟩:=ay dP;obtain⟨qD,qd,rfl⟩:=ay hP1;obtain⟨hA1,hB1⟩:=HW.out W1 b1;have hA2:=aen (ae.alloc hA1 (.cells #[.string a.id,.slice qA a.cl.length qc,.slice qD a.pr.length qd] 43));have hB2:=aen (hB1.alloc hB1.size (.cells #[.string a.id,.slice qA a.cl.length qc,.slice qD a.pr.length qd] 43));clear b1 dP hP1 hA1 hB1;go_wp2_with fail;go_round;case rel=>exact⟨0+1,by go_num,by omega,hA2.out,hB2.out,lF⟩
    case measure=>simp[intOf];omega
   ·have HF:=aen (vY.out t4);clear t4 HN vY;go_wp2_with fail;with_reducible refine(mQ.out _).mono ?_
    rintro e W1 ⟨v,rfl,⟨⟨vC,vP,rfl,dP,hP1⟩,hc32,nV⟩,b1⟩;obtain⟨qA,qc,rfl⟩:=ay dP;obtain⟨qD,qd,rfl⟩:=ay hP1;obtain⟨hA1,hB1⟩:=HW.out W1 b1;have hO:aZ W1 wr.heap.size a (.slice qA a.cl.length qc) (.slice qD a.pr.length qd):=⟨dP,hP1,b1.size,hc32,nV⟩;have hO2:=aen (hO.below ((aer _ _).alloc (aeo _) (.cells #[.string a.id,.slice qA a.cl.length qc,.slice qD a.pr.length qd] 43)));have hA2:=ae.alloc hA1 (.cells #[.string a.id,.slice qA a.cl.length qc,.slice qD a.pr.length qd] 43);have hB2:=aen (hB1.alloc hB1.size (.cells #[.string a.id,.slice qA a.cl.length qc,.slice qD a.pr.length qd] 43));have hn:=ae.new W1 43 #[.string a.id,.slice qA a.cl.length qc,.slice qD a.pr.length qd];have e0:=hn.cell 0;have e1:=hn.cell 1;have e2:=hn.cell 2;have a0:=hA2.cell 0;have a1:=hA2.cell 1;have a2:=hA2.cell 2;have f0:=hA2.frozen 0;have f1:=hA2.frozen 1;have f2:=hA2.frozen 2;have HA2:=aen hA2;clear b1 dP hP1 hA1 hB1 hA2 hn hO;go_wp2_with fail;generalize (W1.alloc (.cells #[.string a.id,.slice qA a.cl.length qc,.slice qD a.pr.length qd] 43))=W3 at *;refine wp_region_still_tail 5 (by kernel_rfl) (by kernel_rfl) ?_;simp only[List.take_succ_cons,List.take_zero,List.drop_succ_cons,List.drop_zero];repeat still_step
    still_call (dZ.out _);repeat still_step
    refine wpStill_nil ?_;go_wp2_with fail;refine Md (ae.drewN (fZ HA2.out rfl (.string a.id) (.slice qA a.cl.length qc) (.slice qD a.pr.length qd)) 1) rfl rfl rfl ?_;rw[HF.out];refine⟨⟨_,_,rfl,?_⟩,below_drewN (below3 hB2.out (aeo _) _ _ _) 1⟩;exact dN ((dR hO2.out (tX W3 w.heap.size (.string a.id) (.slice qA a.cl.length qc) (.slice qD a.pr.length qd)) mW.out).below (below_drewN (aer _ _) 1)) (aeD mW.out)
  ·have hcast:((k:Int) - 1)=((k - 1:Nat):Int):=by omega
   have oM:((k:Int) - 1).toNat=k - 1:=by omega
   rcases kX with ⟨t1,t2⟩|⟨t1,t2,t3,t4⟩|⟨t1,t2,t3,t4⟩
   ·have lF:=aen (HN.out t2);clear t2 HN vY dZ;go_wp2_with fail;with_reducible refine(mQ.out _).mono ?_
    rintro e W1 ⟨v,rfl,⟨⟨vC,vP,rfl,dP,hP1⟩,hc32,nV⟩,b1⟩;obtain⟨qA,qc,rfl⟩:=ay dP;obtain⟨qD,qd,rfl⟩:=ay hP1;obtain⟨hA1,hB1⟩:=HW.out W1 b1;have hA2:=aen (ae.alloc hA1 (.cells #[.string a.id,.slice qA a.cl.length qc,.slice qD a.pr.length qd] 43));have hB2:=aen (hB1.alloc hB1.size (.cells #[.string a.id,.slice qA a.cl.length qc,.slice qD a.pr.length qd] 43));clear b1 dP hP1 hA1 hB1;go_wp2_with fail;go_round;case rel=>exact⟨k+1,by go_num,by omega,hA2.out,hB2.out,lF⟩
    case measure=>simp[intOf];omega
   ·have lF:=aen (HN.out t4);clear t4 HN vY dZ;go_wp2_with fail;with_reducible refine(mQ.out _).mono ?_
    rintro e W1 ⟨v,rfl,⟨⟨vC,vP,rfl,dP,hP1⟩,hc32,nV⟩,b1⟩;obtain⟨qA,qc,rfl⟩:=ay dP;obtain⟨qD,qd,rfl⟩:=ay hP1;obtain⟨hA1,hB1⟩:=HW.out W1 b1;have hA2:=aen (ae.alloc hA1 (.cells #[.string a.id,.slice qA a.cl.length qc,.slice qD a.pr.length qd] 43));have hB2:=aen (hB1.alloc hB1.size (.cells #[.string a.id,.slice qA a.cl.length qc,.slice qD a.pr.length qd] 43));clear b1 dP hP1 hA1 hB1;go_wp2_with fail;go_round;case rel=>exact⟨k+1,by go_num,by omega,hA2.out,hB2.out,lF⟩
    case measure=>simp[intOf];omega
   ·have HF:=aen (vY.out t4);clear t4 HN vY;go_wp2_with fail;with_reducible refine(mQ.out _).mono ?_
    rintro e W1 ⟨v,rfl,⟨⟨vC,vP,rfl,dP,hP1⟩,hc32,nV⟩,b1⟩;obtain⟨qA,qc,rfl⟩:=ay dP;obtain⟨qD,qd,rfl⟩:=ay hP1;obtain⟨hA1,hB1⟩:=HW.out W1 b1;have hO:aZ W1 wr.heap.size a (.slice qA a.cl.length qc) (.slice qD a.pr.length qd):=⟨dP,hP1,b1.size,hc32,nV⟩;have hO2:=aen (hO.below ((aer _ _).alloc (aeo _) (.cells #[.string a.id,.slice qA a.cl.length qc,.slice qD a.pr.length qd] 43)));have hA2:=ae.alloc hA1 (.cells #[.string a.id,.slice qA a.cl.length qc,.slice qD a.pr.length qd] 43);have hB2:=aen (hB1.alloc hB1.size (.cells #[.string a.id,.slice qA a.cl.length qc,.slice qD a.pr.length qd] 43));have hn:=ae.new W1 43 #[.string a.id,.slice qA a.cl.length qc,.slice qD a.pr.length qd];have e0:=hn.cell 0;have e1:=hn.cell 1;have e2:=hn.cell 2;have a0:=hA2.cell 0;have a1:=hA2.cell 1;have a2:=hA2.cell 2;have f0:=hA2.frozen 0;have f1:=hA2.frozen 1;have f2:=hA2.frozen 2;have HA2:=aen hA2;clear b1 dP hP1 hA1 hB1 hA2 hn hO;go_wp2_with fail;generalize (W1.alloc (.cells #[.string a.id,.slice qA a.cl.length qc,.slice qD a.pr.length qd] 43))=W3 at *;refine wp_region_still_tail 5 (by kernel_rfl) (by kernel_rfl) ?_;simp only[List.take_succ_cons,List.take_zero,List.drop_succ_cons,List.drop_zero];repeat still_step
    still_call (dZ.out _);repeat still_step
    refine wpStill_nil ?_;go_wp2_with fail;refine Md (ae.drewN (fZ HA2.out rfl (.string a.id) (.slice qA a.cl.length qc) (.slice qD a.pr.length qd)) 1) rfl rfl rfl ?_;rw[HF.out];refine⟨⟨_,_,rfl,?_⟩,below_drewN (below3 hB2.out (aeo _) _ _ _) 1⟩;exact dN ((dR hO2.out (tX W3 w.heap.size (.string a.id) (.slice qA a.cl.length qc) (.slice qD a.pr.length qd)) mW.out).below (below_drewN (aer _ _) 1)) (aeD mW.out)
theorem TJ{o:Option ag}{m:ag}{vC vP:Value}{w w':World}(ho:o=some m)(h:aZ w' w.heap.size m.att vC vP)(hb:Below w.heap.size w w'):lV (o.getD {}) w (.returned (.agg (m.cells vC vP))) w':=by
 subst ho;exact⟨⟨_,rfl,_,_,rfl,h⟩,hb⟩
theorem Me(c:ByteArray)(n:Nat)(hn:n≤c.size):fF (c.extract n c.size)=true↔¬(n<c.size∧bt c n≠32):=by
 have hz:(c.extract n c.size).size=c.size - n:=by rw[aex];omega
 unfold fF;rw[Bool.or_eq_true,decide_eq_true_iff,decide_eq_true_iff,hz,ext_eq];by_cases h:n<c.size
 ·rw[pO c n 0 (by omega)];show c.size - n=0∨bt c n=32↔_;constructor
  ·rintro (e|e) ⟨_,h2⟩
   ·omega
   ·exact h2 e
  ·intro e;by_cases h2:bt c n=32
   ·exact Or.inr h2
   ·exact absurd ⟨h,h2⟩ e
 ·constructor
  ·rintro _ ⟨h1,_⟩;exact h h1
  ·intro _;left;omega
theorem ab6(c:ByteArray)(w:World)(hs:c.size≤1000000):Calls prog 124 #[.string c] w (lV ((kH c).getD {}) w):=by
 have HRn:Hid (∀W,Calls prog 176 #[.string c,.int .i64 0,.int .u8 35] W fun e w'=>e=.returned (.int .i64 (aI c (· != 35)))∧W=w'):=aen fun W=>AX c 35 W hs (by omega);have hnl:=qf c (· != 35);have HR:Hid (kH c=if 1≤aI c (· != 35)∧aI c (· != 35)≤6 then (if fF (c.extract (aI c (· != 35)) c.size)=true then some {kind:=2,n:=aI c (· != 35),rest:=(ja (mk (trimS (sfx c (aI c (· != 35)))))).1,att:=(ja (mk (trimS (sfx c (aI c (· != 35)))))).2} else none) else none):=aen rfl;generalize kH c=R at *;generalize aI c (· != 35)=n at *;have hB:Hid (∀x y z,Below w.heap.size w (w.alloc (.cells x y z))):=aen fun _ _ _=>(aer _ w).alloc (aeo _) _;by_cases h1:n<1
 ·have HF:Hid (R=none):=aen (by rw[HR.out,if_neg (by omega)]);have y1:decide ((n:Int)<1)=true:=aeq (by omega);have y2:decide (n<1)=true:=aeq h1;clear HR;go_enter Tryz.func124,Tryz.ntmps124;go_wp2_with fail;with_reducible refine(HRn.out _).mono ?_
  rintro e w0 ⟨rfl,rfl⟩;go_wp2_with fail;exact Fg (ae.new w _ _) rfl rfl (gz HF.out (hB.out _ _ _))
 have y1:decide ((n:Int)<1)=false:=aep (by omega);have y2:decide (n<1)=false:=aep h1;by_cases h6:6<n
 ·have HF:Hid (R=none):=aen (by rw[HR.out,if_neg (by omega)]);have y3:decide (6<(n:Int))=true:=aeq (by omega);have y4:decide (6<n)=true:=aeq h6;clear HR;go_enter Tryz.func124,Tryz.ntmps124;go_wp2_with fail;with_reducible refine(HRn.out _).mono ?_
  rintro e w0 ⟨rfl,rfl⟩;go_wp2_with fail;exact Fg (ae.new w _ _) rfl rfl (gz HF.out (hB.out _ _ _))
 have y3:decide (6<(n:Int))=false:=aep (by omega);have y4:decide (6<n)=false:=aep h6;have hsp:=Me c n hnl;have HR2:Hid (R=if fF (c.extract n c.size)=true then some {kind:=2,n:=n,rest:=(ja (mk (trimS (sfx c n)))).1,att:=(ja (mk (trimS (sfx c n)))).2} else none):=aen (by rw[HR.out,if_pos ⟨by omega,by omega⟩]);clear HR;have kX:(∃h:n<c.size,(((c[n].toNat:Nat):Int) != 32)=true∧decide ((n:Int)<(c.size:Int))=true∧Hid (R=none))∨(((decide ((n:Int)<(c.size:Int))=false∧decide (n<c.size)=false)∨∃h:n<c.size,(((c[n].toNat:Nat):Int) != 32)=false∧decide ((n:Int)<(c.size:Int))=true)∧Hid (R=some {kind:=2,n:=n,rest:=(ja (mk (trimS (sfx c n)))).1,att:=(ja (mk (trimS (sfx c n)))).2})):=by
  by_cases h:n<c.size
  ·by_cases h2:bt c n=32
   ·right;refine⟨Or.inr ⟨h,by rw[get_bt c n h,h2];rfl,aeq (by omega)⟩,aen (by rw[HR2.out,if_pos (hsp.2 (fun e=>e.2 h2))])⟩
   ·left;exact⟨h,by rw[get_bt c n h,aeB];omega,aeq (by omega),aen (by rw[HR2.out,if_neg (fun e=>hsp.1 e ⟨h,h2⟩)])⟩
  ·right;exact⟨Or.inl ⟨aep (by omega),aep h⟩,aen (by rw[HR2.out,if_pos (hsp.2 (fun e=>h e.1))])⟩
 clear HR2 hsp;have hxz:(c.extract n c.size).size≤1000000:=by rw[aex];omega
 have dZ:Hid (∀W,Calls prog 178 #[.string (c.extract n c.size)] W fun e w'=>e=.returned (.string (mk (trimS (sfx c n))))∧W=w'):=aen fun W=>by
  have h:=L8 (c.extract n c.size) W hxz;rw[extract_drop,bytesL_mk',←extract_drop] at h;exact h
 have htz:=Ky c n;have JJ:=aen fun W=>ab5 (mk (trimS (sfx c n))) W (by omega);generalize ja (mk (trimS (sfx c n)))=AE at *;generalize mk (trimS (sfx c n))=T at *;obtain⟨rs,a⟩:=AE;rcases kX with ⟨hlt,z1,z2,HF⟩|⟨⟨z2,z3⟩|⟨hlt,z1,z2⟩,HF⟩
 ·go_enter Tryz.func124,Tryz.ntmps124;go_wp2_with fail;with_reducible refine(HRn.out _).mono ?_
  rintro e w0 ⟨rfl,rfl⟩;go_wp2_with fail;exact Fg (ae.new w _ _) rfl rfl (gz HF.out (hB.out _ _ _))
 all_goals
  go_enter Tryz.func124,Tryz.ntmps124;go_wp2_with fail;with_reducible refine(HRn.out _).mono ?_
  rintro e w0 ⟨rfl,rfl⟩;go_wp2_with fail;with_reducible refine(dZ.out _).mono ?_
  rintro e w0 ⟨rfl,rfl⟩;go_wp2_with fail;with_reducible refine(JJ.out _).mono ?_
  rintro e w1 ⟨⟨vC,vP,rfl,ho⟩,b1⟩;obtain⟨qA,qc,rfl⟩:=ay ho.cls;obtain⟨qD,qd,rfl⟩:=ay ho.aH;obtain⟨HZ1,HB1⟩:=dI b1;have HZ:=ae.alloc HZ1 (.cells #[.string a.id,.slice qA a.cl.length qc,.slice qD a.pr.length qd] 43);have HB:=HB1.alloc HB1.size (.cells #[.string a.id,.slice qA a.cl.length qc,.slice qD a.pr.length qd] 43);have ho2:aZ w1 (w.heap.size+1) a (.slice qA a.cl.length qc) (.slice qD a.pr.length qd):=by
   have e:(zw w).heap.size=w.heap.size+1:=qj w;rw[←e];exact ho
  have HO:=aen (ho2.below ((aer _ _).alloc (aeo _) (.cells #[.string a.id,.slice qA a.cl.length qc,.slice qD a.pr.length qd] 43)));have hn:=ae.new w1 43 #[.string a.id,.slice qA a.cl.length qc,.slice qD a.pr.length qd];have e0:=hn.cell 0;have e1:=hn.cell 1;have e2:=hn.cell 2;clear b1 ho ho2 HZ1 HB1 hn;obtain⟨k0,k1,k2,k3,k4,k5,k6,k7,k8,k9,k10,v0,v1,v2,v3,v4,v5,v6,v7,v8,v9,v10⟩:=ZM.facts HZ;go_wp2_with fail;refine Fg (ax HZ _ _ _ _ _ _ _ _ _ _ _) rfl rfl (TJ (m:={kind:=2,n:=n,rest:=rs,att:=a}) HF.out ?_ (au HB (aeo _) _ _ _ _ _ _ _ _ _ _ _));exact dN (dR HO.out (aV _ _ _ _ _ _ _ _ _ _ _ _ _) (Nat.lt_succ_self _)) (Nat.le_succ _)
end Go.Proofs.YtpoafhgbhnblmaaGreatDoor
