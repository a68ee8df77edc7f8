import Derived.Test.YtpoafhgbhnblmaaGreatDoorF22
set_option linter.unusedVariables false
set_option linter.unusedSimpArgs false
set_option maxRecDepth 100000
set_option maxHeartbeats 20000000
namespace Go.Proofs.YtpoafhgbhnblmaaGreatDoor
open Go.Proofs.Tryz (prog)
open Go.RowKit
theorem aa3(d:Nat)(hd:d≤15)(zs:List ByteArray)(A:Option Addr)(c i B:Nat)(MM:Int)(m:ag)(A9:Option Addr)(c9:Nat)(af:Option Addr)(c10:Nat)(w:World)(hL:aG w A zs MM)(hi:i<zs.length)(hc:zs.length≤c)(hcm:c≤maxLen)(hB:B≤w.heap.size)(ha:aW w (Rg B w) m.att A9 af)(hk:m.kind=2) :
 Calls prog 39 #[.slice A zs.length c,.int .i64 i,.agg (m.cells (.slice A9 m.att.cl.length c9) (.slice af m.att.pr.length c10)),.int .i64 d] w (iE B (some (BkT.mk 2 m.n ⟨#[]⟩ ⟨#[]⟩ ⟨#[]⟩ ⟨#[]⟩ m.att m.rest [],i+1)) w):=by
 have hlen:=hL.len;have aS:=aen hL;have HA:=aen ha;have HS:=aen (lY w (m.cells (.slice A9 m.att.cl.length c9) (.slice af m.att.pr.length c10)));obtain⟨PR,aO⟩:∃PR,PR=some (BkT.mk 2 m.n ⟨#[]⟩ ⟨#[]⟩ ⟨#[]⟩ ⟨#[]⟩ m.att m.rest [],i+1):=⟨_,rfl⟩;rw[←aO];have fU:=aen fun W=>KX m.rest W;have bU:=aen aO;have z2:(((m.kind:Nat):Int)==2)=true:=kT (by omega);have HK:=aen hk;clear hL hk ha aO;unfold ag.cells fA at HS;go_enter Tryz.func39,Tryz.ntmps39;unfold ag.cells;go_upto_region 1 with fail
 generalize hW:(w.alloc _).alloc _=W0;have HD:Hid (DW w #[.int .i64 m.kind,.int .i64 m.n,.string m.ch,.int .i64 m.off,.string m.info,.string m.rest,.string m.dest,.string m.title,.string m.att.id,.slice A9 m.att.cl.length c9,.slice af m.att.pr.length c10] W0):=aen (by rw[←hW];exact HS.out);clear hW HS;have eU:=aen (aS.out.below HD.out.bel);have hw0:=HD.out.bel.size;have hw1:=HD.out.res.lt;obtain⟨p0,p1,p2,p3,p4,p5,p6,p7,p8,p9,p10,x0,x1,x2,x3,x4,x5,x6,x7,x8,x9,x10⟩:=az HD.out.aP;clear x0 x1 x2 x3 x4 x5 x6 x7 x8 x9 x10;have bu:Hid (∀W,Below W0.heap.size W0 W→(W.cell? ⟨w.heap.size,1,none⟩=some (.int .i64 m.n)∧W.cell? ⟨w.heap.size,5,none⟩=some (.string m.rest)∧W.cell? ⟨w.heap.size,8,none⟩=some (.string m.att.id)∧W.cell? ⟨w.heap.size,9,none⟩=some (.slice A9 m.att.cl.length c9)∧W.cell? ⟨w.heap.size,10,none⟩=some (.slice af m.att.pr.length c10)∧w.heap.size+1<W.heap.size)):=aen fun W h=>by
  obtain⟨p0,p1,p2,p3,p4,p5,p6,p7,p8,p9,p10,x0⟩:=az (HD.out.aP.below h (by omega));exact⟨p1,p5,p8,p9,p10,aeA hw1 h.size⟩
 have uq:Hid (∀W z0 z1 z2 z3 z4 z5 z6 z7 z8 z9 z10,Below W0.heap.size W0 W→((((((((((((W.setCell ⟨w.heap.size+1,0,none⟩ z0).setCell ⟨w.heap.size+1,1,none⟩ z1).setCell ⟨w.heap.size+1,2,none⟩ z2).setCell ⟨w.heap.size+1,3,none⟩ z3).setCell ⟨w.heap.size+1,4,none⟩ z4).setCell ⟨w.heap.size+1,5,none⟩ z5).setCell ⟨w.heap.size+1,6,none⟩ z6).setCell ⟨w.heap.size+1,7,none⟩ z7).setCell ⟨w.heap.size+1,8,none⟩ z8).setCell ⟨w.heap.size+1,9,none⟩ z9).setCell ⟨w.heap.size+1,10,none⟩ z10).cell? ⟨w.heap.size,1,none⟩=some (.int .i64 m.n)∧(((((((((((W.setCell ⟨w.heap.size+1,0,none⟩ z0).setCell ⟨w.heap.size+1,1,none⟩ z1).setCell ⟨w.heap.size+1,2,none⟩ z2).setCell ⟨w.heap.size+1,3,none⟩ z3).setCell ⟨w.heap.size+1,4,none⟩ z4).setCell ⟨w.heap.size+1,5,none⟩ z5).setCell ⟨w.heap.size+1,6,none⟩ z6).setCell ⟨w.heap.size+1,7,none⟩ z7).setCell ⟨w.heap.size+1,8,none⟩ z8).setCell ⟨w.heap.size+1,9,none⟩ z9).setCell ⟨w.heap.size+1,10,none⟩ z10).cell? ⟨w.heap.size,5,none⟩=some (.string m.rest)∧(((((((((((W.setCell ⟨w.heap.size+1,0,none⟩ z0).setCell ⟨w.heap.size+1,1,none⟩ z1).setCell ⟨w.heap.size+1,2,none⟩ z2).setCell ⟨w.heap.size+1,3,none⟩ z3).setCell ⟨w.heap.size+1,4,none⟩ z4).setCell ⟨w.heap.size+1,5,none⟩ z5).setCell ⟨w.heap.size+1,6,none⟩ z6).setCell ⟨w.heap.size+1,7,none⟩ z7).setCell ⟨w.heap.size+1,8,none⟩ z8).setCell ⟨w.heap.size+1,9,none⟩ z9).setCell ⟨w.heap.size+1,10,none⟩ z10).cell? ⟨w.heap.size,8,none⟩=some (.string m.att.id)∧(((((((((((W.setCell ⟨w.heap.size+1,0,none⟩ z0).setCell ⟨w.heap.size+1,1,none⟩ z1).setCell ⟨w.heap.size+1,2,none⟩ z2).setCell ⟨w.heap.size+1,3,none⟩ z3).setCell ⟨w.heap.size+1,4,none⟩ z4).setCell ⟨w.heap.size+1,5,none⟩ z5).setCell ⟨w.heap.size+1,6,none⟩ z6).setCell ⟨w.heap.size+1,7,none⟩ z7).setCell ⟨w.heap.size+1,8,none⟩ z8).setCell ⟨w.heap.size+1,9,none⟩ z9).setCell ⟨w.heap.size+1,10,none⟩ z10).cell? ⟨w.heap.size,9,none⟩=some (.slice A9 m.att.cl.length c9)∧(((((((((((W.setCell ⟨w.heap.size+1,0,none⟩ z0).setCell ⟨w.heap.size+1,1,none⟩ z1).setCell ⟨w.heap.size+1,2,none⟩ z2).setCell ⟨w.heap.size+1,3,none⟩ z3).setCell ⟨w.heap.size+1,4,none⟩ z4).setCell ⟨w.heap.size+1,5,none⟩ z5).setCell ⟨w.heap.size+1,6,none⟩ z6).setCell ⟨w.heap.size+1,7,none⟩ z7).setCell ⟨w.heap.size+1,8,none⟩ z8).setCell ⟨w.heap.size+1,9,none⟩ z9).setCell ⟨w.heap.size+1,10,none⟩ z10).cell? ⟨w.heap.size,10,none⟩=some (.slice af m.att.pr.length c10)∧w.heap.size+1<(((((((((((W.setCell ⟨w.heap.size+1,0,none⟩ z0).setCell ⟨w.heap.size+1,1,none⟩ z1).setCell ⟨w.heap.size+1,2,none⟩ z2).setCell ⟨w.heap.size+1,3,none⟩ z3).setCell ⟨w.heap.size+1,4,none⟩ z4).setCell ⟨w.heap.size+1,5,none⟩ z5).setCell ⟨w.heap.size+1,6,none⟩ z6).setCell ⟨w.heap.size+1,7,none⟩ z7).setCell ⟨w.heap.size+1,8,none⟩ z8).setCell ⟨w.heap.size+1,9,none⟩ z9).setCell ⟨w.heap.size+1,10,none⟩ z10).heap.size)):=aen fun W z0 z1 z2 z3 z4 z5 z6 z7 z8 z9 z10 h=>by
  obtain⟨p0,p1,p2,p3,p4,p5,p6,p7,p8,p9,p10,x0⟩:=az (ae.grown (HD.out.aP.below h (by omega)) (aV W (w.heap.size+1) z0 z1 z2 z3 z4 z5 z6 z7 z8 z9 z10) (by simp));exact⟨p1,p5,p8,p9,p10,aeA (aeA hw1 h.size) (aV W (w.heap.size+1) z0 z1 z2 z3 z4 z5 z6 z7 z8 z9 z10).size⟩
 have aB:Hid (Below W0.heap.size W0 W0):=aen (aer _ _);have hw2:IntKind.i64.wrap ((i:Int)+1)=(i:Int)+1:=IntWalk.i64_in _ (by omega);clear p1 p2 p3 p4 p5 p6 p7 p8 p9 p10;have s0:=bu.out _ aB.out;obtain⟨p1,p5,p8,p9,p10,_⟩:=s0;go_wp2_with fail;refine wp_region_held_drew (S:=fun W'=>W'.cell? ⟨w.heap.size,1,none⟩=some (.int .i64 m.n)∧W'.cell? ⟨w.heap.size,5,none⟩=some (.string m.rest)∧W'.cell? ⟨w.heap.size,8,none⟩=some (.string m.att.id)∧W'.cell? ⟨w.heap.size,9,none⟩=some (.slice A9 m.att.cl.length c9)∧W'.cell? ⟨w.heap.size,10,none⟩=some (.slice af m.att.pr.length c10)∧w.heap.size+1<W'.heap.size) (by kernel_rfl) (bu.out _ aB.out.drew) (fun hHeld=>?_);refine tk 0 (.pointer (some ⟨w.heap.size,1,none⟩)) rfl hHeld (fun W' hSw=>?_) ?_
 ·obtain⟨h0,h1,h2,h3,h4,h5⟩:=hSw;go_simp
 refine tk 1 (.int .i64 m.n) rfl hHeld (fun W' hSw=>?_) ?_
 ·obtain⟨h0,h1,h2,h3,h4,h5⟩:=hSw;go_simp
 refine tk 2 (.pointer (some ⟨w.heap.size,5,none⟩)) rfl hHeld (fun W' hSw=>?_) ?_
 ·obtain⟨h0,h1,h2,h3,h4,h5⟩:=hSw;go_simp
 refine tk 3 (.string m.rest) rfl hHeld (fun W' hSw=>?_) ?_
 ·obtain⟨h0,h1,h2,h3,h4,h5⟩:=hSw;go_simp
 refine tk 5 (.pointer (some ⟨w.heap.size,8,none⟩)) rfl hHeld (fun W' hSw=>?_) ?_
 ·obtain⟨h0,h1,h2,h3,h4,h5⟩:=hSw;go_simp
 refine tk 6 (.agg #[.string m.att.id,.slice A9 m.att.cl.length c9,.slice af m.att.pr.length c10]) rfl hHeld (fun W' hSw=>?_) ?_
 ·obtain⟨h0,h1,h2,h3,h4,h5⟩:=hSw;go_simp
 refine tk 8 (.int .i64 i) rfl hHeld (fun W' hSw=>?_) ?_
 ·obtain⟨h0,h1,h2,h3,h4,h5⟩:=hSw;go_simp
 refine tk 9 (.int .i64 ((i:Int)+1)) rfl hHeld (fun W' hSw=>?_) ?_
 ·obtain⟨h0,h1,h2,h3,h4,h5⟩:=hSw;go_simp
 refine aC 4 rfl (fun K hK=>?_);go_simp;with_reducible refine(fU.out _).mono ?_
 rintro e w9 ⟨v,rfl,hsrc,b8⟩;have b9:Below W0.heap.size W0 w9:=aB.out.drew.trans b8;obtain⟨Av,nv,cv,rfl⟩:=pM hsrc;have eF:=aen (HD.out.next b9);have kQ:w.heap.size+1<w9.heap.size:=eF.out.res.lt;obtain⟨q0,q1,q2,q3,q4,q5,q6,q7,q8,q9,q10,r0,r1,r2,r3,r4,r5,r6,r7,r8,r9,r10⟩:=ZB.facts eF.out.res;go_simp;refine hK.out _ _ (bu.out _ b9) (fun hHeld=>?_);clear hK K;refine aC 7 rfl (fun K hK=>?_);go_simp;refine hK.out _ _ (hHeld) (fun hHeld=>?_);clear hK K;refine aC 10 rfl (fun K hK=>?_);go_simp;refine hK.out _ _ (uq.out _ _ _ _ _ _ _ _ _ _ _ _ b9) (fun hHeld=>?_);clear hK K;refine aC 11 rfl (fun K hK=>?_);go_simp;refine hK.out _ _ (hHeld) (fun hHeld=>?_);clear hK K;refine aC 12 rfl (fun K hK=>?_);go_simp;refine hK.out _ _ (hHeld) (fun hHeld=>?_);clear hK K;refine wpAnyH_done (by kernel_rfl) ?_ _;go_wp2_with fail;rw[bU.out];exact jG (ax eF.out.res _ _ _ _ _ _ _ _ _ _ _) rfl rfl rfl rfl (kM rfl (iq (att:=m.att) (HA.out.far (au eF.out.bel (Nat.le_succ _) _ _ _ _ _ _ _ _ _ _ _) (aeo _)) (DI (B:=W0.heap.size) hsrc (aV _ _ _ _ _ _ _ _ _ _ _ _ _) hw1 (by omega)) (bP.none_ _ _)) (au eF.out.bel (Nat.le_succ _) _ _ _ _ _ _ _ _ _ _ _))
theorem aa4(d:Nat)(hd:d≤15)(zs:List ByteArray)(A:Option Addr)(c i B:Nat)(MM:Int)(m:ag)(A9:Option Addr)(c9:Nat)(af:Option Addr)(c10:Nat)(w:World)(hL:aG w A zs MM)(hi:i<zs.length)(hc:zs.length≤c)(hcm:c≤maxLen)(hB:B≤w.heap.size)(ha:aW w (Rg B w) m.att A9 af)(hk:m.kind=8) :
 Calls prog 39 #[.slice A zs.length c,.int .i64 i,.agg (m.cells (.slice A9 m.att.cl.length c9) (.slice af m.att.pr.length c10)),.int .i64 d] w (iE B (some (BkT.mk 4 0 ⟨#[]⟩ (mk (fC (bz zs (i+1) (bD zs m (i+1))))) ⟨#[]⟩ ⟨#[]⟩ (qC zs m (i+1)) ⟨#[]⟩ [],min (bD zs m (i+1)+1) zs.length)) w):=by
 have hlen:=hL.len;have aS:=aen hL;have HA:=aen ha;have HS:=aen (lY w (m.cells (.slice A9 m.att.cl.length c9) (.slice af m.att.pr.length c10)));obtain⟨PR,aO⟩:∃PR,PR=some (BkT.mk 4 0 ⟨#[]⟩ (mk (fC (bz zs (i+1) (bD zs m (i+1))))) ⟨#[]⟩ ⟨#[]⟩ (qC zs m (i+1)) ⟨#[]⟩ [],min (bD zs m (i+1)+1) zs.length):=⟨_,rfl⟩;rw[←aO];have hbd:=Dp zs m i hi;have HC:=aen fun W (h:aG W A zs MM)=>Lc zs A c i MM m A9 m.att.cl.length c9 af m.att.pr.length c10 W h hi;have SQ:=aen fun W (h:aG W A zs MM)=>aau zs A c i (bD zs m (i+1)) MM W h hbd.1 hbd.2 hc hcm;generalize qC zs m (i+1)=a at *;generalize bD zs m (i+1)=t at *;generalize mk (fC (bz zs (i+1) t))=J at *;unfold yM ag.cells at HC;have mP:∀w:World,(Builtin.min_ #[3,3] 3 #[.int .i64 ((t:Int)+1),.int .i64 zs.length]).run prog w=.ok (.int .i64 ((min (t+1) zs.length:Nat):Int)) w:=fun w=>by
  rw[run_min_int2];congr 2;split <;> omega
 have bU:=aen aO;have z2:(((m.kind:Nat):Int)==2)=false:=kF (by omega);have z3:(((m.kind:Nat):Int)==3)=false:=kF (by omega);have z11:(((m.kind:Nat):Int)==11)=false:=kF (by omega);have z4:(((m.kind:Nat):Int)==4)=false:=kF (by omega);have z7:(((m.kind:Nat):Int)==7)=false:=kF (by omega);have z8:(((m.kind:Nat):Int)==8)=true:=kT (by omega);have HK:=aen hk;clear hL hk ha aO;unfold ag.cells fA at HS;go_enter Tryz.func39,Tryz.ntmps39;unfold ag.cells;go_upto_region 1 with fail
 generalize hW:(w.alloc _).alloc _=W0;have HD:Hid (DW w #[.int .i64 m.kind,.int .i64 m.n,.string m.ch,.int .i64 m.off,.string m.info,.string m.rest,.string m.dest,.string m.title,.string m.att.id,.slice A9 m.att.cl.length c9,.slice af m.att.pr.length c10] W0):=aen (by rw[←hW];exact HS.out);clear hW HS;have eU:=aen (aS.out.below HD.out.bel);have hw0:=HD.out.bel.size;have hw1:=HD.out.res.lt;obtain⟨p0,p1,p2,p3,p4,p5,p6,p7,p8,p9,p10,x0,x1,x2,x3,x4,x5,x6,x7,x8,x9,x10⟩:=az HD.out.aP;clear x0 x1 x2 x3 x4 x5 x6 x7 x8 x9 x10;go_wp2_with fail;with_reducible refine(HC.out _ eU.out).mono ?_
 rintro e w1 ⟨⟨vC,vP,rfl,ho⟩,b1⟩;obtain⟨A1,c1,rfl⟩:=ay ho.cls;obtain⟨A2,c2,rfl⟩:=ay ho.aH;have HD1:=aen (HD.out.next b1);have hz1:=b1.size;obtain⟨_,_,_,_,e1,e2,hat⟩:=aW.of_own ho;injection e1 with LF _ LG
 injection e2 with LH _ e2b
 subst LF LG LH e2b;have HAT:=aen hat;clear ho b1 HC hat p0 p1 p2 p3 p4 p5 p6 p7 p8 p9 p10;go_upto_region 14 with fail
 generalize hW2:w1.alloc _=W2;obtain⟨g12,yZ⟩:∃g,g=w1.heap.size:=⟨_,rfl⟩;have gW:Hid (ae W2 g12 43 #[.string a.id,.slice A1 a.cl.length c1,.slice A2 a.pr.length c2]):=aen (by rw[←hW2,yZ];exact ae.new w1 _ _);have HD2:Hid (DW w #[.int .i64 m.kind,.int .i64 m.n,.string m.ch,.int .i64 m.off,.string m.info,.string m.rest,.string m.dest,.string m.title,.string m.att.id,.slice A9 m.att.cl.length c9,.slice af m.att.pr.length c10] W2):=aen (by rw[←hW2];exact HD1.out.next ((aer _ _).alloc (aeo _) _));have GM:Hid (aW W2 (Rg W0.heap.size W2) a A1 A2):=aen (by rw[←hW2];exact HAT.out.below ((aer _ _).alloc (aeo _) _));have hgw:w.heap.size+1<g12:=by omega
 have hz2:W0.heap.size≤W2.heap.size:=by rw[←hW2];simp;omega
 rw[←yZ];clear hW2 yZ HAT HD1 hz1;have hgl:=gW.out.lt;have aB:Hid (Below W2.heap.size W2 W2):=aen (aer _ _);have bu:Hid (∀W,Below W2.heap.size W2 W→(W.cell? ⟨g12,0,none⟩=some (.string a.id)∧W.cell? ⟨g12,1,none⟩=some (.slice A1 a.cl.length c1)∧W.cell? ⟨g12,2,none⟩=some (.slice A2 a.pr.length c2)∧w.heap.size+1<W.heap.size)):=aen fun W h=>by
  obtain⟨q0,q1,q2,_⟩:=pG (gW.out.below h hgl);exact⟨q0,q1,q2,by have:=h.size;omega⟩
 have uq:Hid (∀W z0 z1 z2 z3 z4 z5 z6 z7 z8 z9 z10,Below W2.heap.size W2 W→((((((((((((W.setCell ⟨w.heap.size+1,0,none⟩ z0).setCell ⟨w.heap.size+1,1,none⟩ z1).setCell ⟨w.heap.size+1,2,none⟩ z2).setCell ⟨w.heap.size+1,3,none⟩ z3).setCell ⟨w.heap.size+1,4,none⟩ z4).setCell ⟨w.heap.size+1,5,none⟩ z5).setCell ⟨w.heap.size+1,6,none⟩ z6).setCell ⟨w.heap.size+1,7,none⟩ z7).setCell ⟨w.heap.size+1,8,none⟩ z8).setCell ⟨w.heap.size+1,9,none⟩ z9).setCell ⟨w.heap.size+1,10,none⟩ z10).cell? ⟨g12,0,none⟩=some (.string a.id)∧(((((((((((W.setCell ⟨w.heap.size+1,0,none⟩ z0).setCell ⟨w.heap.size+1,1,none⟩ z1).setCell ⟨w.heap.size+1,2,none⟩ z2).setCell ⟨w.heap.size+1,3,none⟩ z3).setCell ⟨w.heap.size+1,4,none⟩ z4).setCell ⟨w.heap.size+1,5,none⟩ z5).setCell ⟨w.heap.size+1,6,none⟩ z6).setCell ⟨w.heap.size+1,7,none⟩ z7).setCell ⟨w.heap.size+1,8,none⟩ z8).setCell ⟨w.heap.size+1,9,none⟩ z9).setCell ⟨w.heap.size+1,10,none⟩ z10).cell? ⟨g12,1,none⟩=some (.slice A1 a.cl.length c1)∧(((((((((((W.setCell ⟨w.heap.size+1,0,none⟩ z0).setCell ⟨w.heap.size+1,1,none⟩ z1).setCell ⟨w.heap.size+1,2,none⟩ z2).setCell ⟨w.heap.size+1,3,none⟩ z3).setCell ⟨w.heap.size+1,4,none⟩ z4).setCell ⟨w.heap.size+1,5,none⟩ z5).setCell ⟨w.heap.size+1,6,none⟩ z6).setCell ⟨w.heap.size+1,7,none⟩ z7).setCell ⟨w.heap.size+1,8,none⟩ z8).setCell ⟨w.heap.size+1,9,none⟩ z9).setCell ⟨w.heap.size+1,10,none⟩ z10).cell? ⟨g12,2,none⟩=some (.slice A2 a.pr.length c2)∧w.heap.size+1<(((((((((((W.setCell ⟨w.heap.size+1,0,none⟩ z0).setCell ⟨w.heap.size+1,1,none⟩ z1).setCell ⟨w.heap.size+1,2,none⟩ z2).setCell ⟨w.heap.size+1,3,none⟩ z3).setCell ⟨w.heap.size+1,4,none⟩ z4).setCell ⟨w.heap.size+1,5,none⟩ z5).setCell ⟨w.heap.size+1,6,none⟩ z6).setCell ⟨w.heap.size+1,7,none⟩ z7).setCell ⟨w.heap.size+1,8,none⟩ z8).setCell ⟨w.heap.size+1,9,none⟩ z9).setCell ⟨w.heap.size+1,10,none⟩ z10).heap.size)):=aen fun W z0 z1 z2 z3 z4 z5 z6 z7 z8 z9 z10 h=>by
  obtain⟨q0,q1,q2,_⟩:=pG (ae.grown (gW.out.below h hgl) (aV W (w.heap.size+1) z0 z1 z2 z3 z4 z5 z6 z7 z8 z9 z10) (by simp;omega));exact⟨q0,q1,q2,aeA (by have:=h.size;omega) (aV W (w.heap.size+1) z0 z1 z2 z3 z4 z5 z6 z7 z8 z9 z10).size⟩
 have hw2:IntKind.i64.wrap ((t:Int)+1)=(t:Int)+1:=IntWalk.i64_in _ (by omega);have HBt:=aen (SQ.out W2 (aS.out.below HD2.out.bel));have aa5:Hid (∀W,Below W2.heap.size W2 W→Calls prog 73 #[.slice A zs.length c,.int .i64 i,.int .i64 t] W fun e w'=>e=.returned (.string J)∧Below W.heap.size W w'):=aen fun W h=>SQ.out W (aS.out.below (HD2.out.bel.trans (h.mono HD2.out.bel.size)));obtain⟨s0,s1,s2,_⟩:=bu.out _ aB.out;go_wp2_with fail;refine wp_region_held_drew (S:=fun W'=>W'.cell? ⟨g12,0,none⟩=some (.string a.id)∧W'.cell? ⟨g12,1,none⟩=some (.slice A1 a.cl.length c1)∧W'.cell? ⟨g12,2,none⟩=some (.slice A2 a.pr.length c2)∧w.heap.size+1<W'.heap.size) (by kernel_rfl) (bu.out _ aB.out.drew) (fun hHeld=>?_);refine tk 0 (.slice A zs.length c) rfl hHeld (fun W' hSw=>?_) ?_
 ·obtain⟨h0,h1,h2,h3⟩:=hSw;go_simp
 refine tk 1 (.int .i64 i) rfl hHeld (fun W' hSw=>?_) ?_
 ·obtain⟨h0,h1,h2,h3⟩:=hSw;go_simp
 refine tk 2 (.int .i64 t) rfl hHeld (fun W' hSw=>?_) ?_
 ·obtain⟨h0,h1,h2,h3⟩:=hSw;go_simp
 refine tk 4 (.agg #[.string a.id,.slice A1 a.cl.length c1,.slice A2 a.pr.length c2]) rfl hHeld (fun W' hSw=>?_) ?_
 ·obtain⟨h0,h1,h2,h3⟩:=hSw;go_simp
 refine tk 6 (.int .i64 t) rfl hHeld (fun W' hSw=>?_) ?_
 ·obtain⟨h0,h1,h2,h3⟩:=hSw;go_simp
 refine tk 7 (.int .i64 ((t:Int)+1)) rfl hHeld (fun W' hSw=>?_) ?_
 ·obtain⟨h0,h1,h2,h3⟩:=hSw;go_simp
 refine tk 8 (.slice A zs.length c) rfl hHeld (fun W' hSw=>?_) ?_
 ·obtain⟨h0,h1,h2,h3⟩:=hSw;go_simp
 refine tk 9 (.int .i64 zs.length) rfl hHeld (fun W' hSw=>?_) ?_
 ·obtain⟨h0,h1,h2,h3⟩:=hSw;go_simp
 refine tk 10 (.int .i64 ((min (t+1) zs.length:Nat):Int)) rfl hHeld (fun W' hSw=>?_) ?_
 ·obtain⟨h0,h1,h2,h3⟩:=hSw;go_simp
 refine aC 3 rfl (fun K hK=>?_);go_simp;with_reducible refine(aa5.out _ aB.out.drew).mono ?_
 rintro e w9 ⟨rfl,b8⟩;have b9:Below W2.heap.size W2 w9:=aB.out.drew.trans b8;have eF:=aen (HD2.out.next b9);have kQ:w.heap.size+1<w9.heap.size:=eF.out.res.lt;obtain⟨q0,q1,q2,q3,q4,q5,q6,q7,q8,q9,q10,r0,r1,r2,r3,r4,r5,r6,r7,r8,r9,r10⟩:=ZB.facts eF.out.res;go_simp;refine hK.out _ _ (bu.out _ b9) (fun hHeld=>?_);clear hK K;refine aC 5 rfl (fun K hK=>?_);go_simp;refine hK.out _ _ (hHeld) (fun hHeld=>?_);clear hK K;refine aC 11 rfl (fun K hK=>?_);go_simp;refine hK.out _ _ (uq.out _ _ _ _ _ _ _ _ _ _ _ _ b9) (fun hHeld=>?_);clear hK K;refine aC 12 rfl (fun K hK=>?_);go_simp;refine hK.out _ _ (hHeld) (fun hHeld=>?_);clear hK K;refine aC 13 rfl (fun K hK=>?_);go_simp;refine hK.out _ _ (hHeld) (fun hHeld=>?_);clear hK K;refine wpAnyH_done (by kernel_rfl) ?_ _;go_wp2_with fail;rw[bU.out];exact jG (ax eF.out.res _ _ _ _ _ _ _ _ _ _ _) rfl rfl rfl rfl (kM rfl (iq (att:=a) ((GM.out.below b9).keep (fun x hx=>(aV _ (w.heap.size+1) _ _ _ _ _ _ _ _ _ _ _).block x hx.2 (fun e=>by injection e with e;have:=hx.1;omega)) (fun x hx=>⟨by have:=hx.1;omega,aeA hx.2 (aV _ (w.heap.size+1) _ _ _ _ _ _ _ _ _ _ _).size⟩)) (jg _ _) (bP.none_ _ _)) (au eF.out.bel (Nat.le_succ _) _ _ _ _ _ _ _ _ _ _ _))
theorem aa6(d:Nat)(hd:d≤15)(zs:List ByteArray)(A:Option Addr)(c i B:Nat)(MM:Int)(m:ag)(A9:Option Addr)(c9:Nat)(af:Option Addr)(c10:Nat)(w:World)(hL:aG w A zs MM)(hi:i<zs.length)(hc:zs.length≤c)(hcm:c≤maxLen)(hB:B≤w.heap.size)(ha:aW w (Rg B w) m.att A9 af)(hk:m.kind=0)(hh:gZ zs i=true) :
 Calls prog 39 #[.slice A zs.length c,.int .i64 i,.agg (m.cells (.slice A9 m.att.cl.length c9) (.slice af m.att.pr.length c10)),.int .i64 d] w (iE B (if decide (d+2≤15)=true then some (ou zs i ((gJ (bytesL (ln zs (i+1)))).getD []),eu zs i) else none) w):=by
 have hlen:=hL.len;have aS:=aen hL;have HA:=aen ha;have HS:=aen (lY w (m.cells (.slice A9 m.att.cl.length c9) (.slice af m.att.pr.length c10)));obtain⟨PR,aO⟩:∃PR,PR=if decide (d+2≤15)=true then some (ou zs i ((gJ (bytesL (ln zs (i+1)))).getD []),eu zs i) else none:=⟨_,rfl⟩
 rw[←aO];have hz:∀j,(ln zs j).size≤1000000:=fun j=>aev (dh hL.sz j) (by decide);have AQ:Hid (∀W,W.cell? ⟨0,0,none⟩=some (.int .i64 MM)→Calls prog 77 #[.string (ln zs i),.string (ln zs (i+1))] W fun e w'=>e=.returned (.bool (headB (bytesL (ln zs i)) (bytesL (ln zs (i+1)))))∧Below W.heap.size W w'):=aen fun W h=>Ku (ln zs i) (ln zs (i+1)) MM W (hz i) (hz (i+1)) h;obtain⟨b,off,rfl,hb,hcell⟩:=hL.get (by omega);have bQ:=aen hcell;clear hz hcell;have hh2:i+1<zs.length∧headB (bytesL (ln zs i)) (bytesL (ln zs (i+1)))=true:=by
  unfold gZ at hh;rw[Bool.and_eq_true,decide_eq_true_eq] at hh;exact hh
 have hi1:=hh2.1;have HB:=aen hh2.2;obtain⟨r,hr⟩:∃r,gJ (bytesL (ln zs (i+1)))=some r:=by
  have h:=hh2.2;unfold headB at h;cases hq:gJ (bytesL (ln zs (i+1))) with
  |none=>rw[hq] at h;cases h
  |some r=>exact⟨r,rfl⟩
 rw[hr] at aO;have HQ:Hid (∀W,aG W (some ⟨b,off,none⟩) zs MM→Calls prog 78 #[.slice (some ⟨b,off,none⟩) zs.length c,.int .i64 i,.int .i64 d] W (iE W.heap.size PR W)):=aen fun W eH=>by
  rw[aO];exact aaT d hd zs (some ⟨b,off,none⟩) c i W.heap.size MM W eH hi1 (aeo _) r hr
 clear hh hh2 hr;have z2:(((m.kind:Nat):Int)==2)=false:=kF (by omega);have z3:(((m.kind:Nat):Int)==3)=false:=kF (by omega);have z11:(((m.kind:Nat):Int)==11)=false:=kF (by omega);have z4:(((m.kind:Nat):Int)==4)=false:=kF (by omega);have z7:(((m.kind:Nat):Int)==7)=false:=kF (by omega);have z8:(((m.kind:Nat):Int)==8)=false:=kF (by omega);have z9:(((m.kind:Nat):Int)==9)=false:=kF (by omega);have z10:(((m.kind:Nat):Int)==10)=false:=kF (by omega);have z5:(((m.kind:Nat):Int)==5)=false:=kF (by omega);have z6:(((m.kind:Nat):Int)==6)=false:=kF (by omega);have bU:=aen aO;have HK:=aen hk;clear hL hk ha aO;unfold ag.cells fA at HS;go_enter Tryz.func39,Tryz.ntmps39;unfold ag.cells;go_upto_region 1 with fail
 generalize hW:(w.alloc _).alloc _=W0;have HD:Hid (DW w #[.int .i64 m.kind,.int .i64 m.n,.string m.ch,.int .i64 m.off,.string m.info,.string m.rest,.string m.dest,.string m.title,.string m.att.id,.slice A9 m.att.cl.length c9,.slice af m.att.pr.length c10] W0):=aen (by rw[←hW];exact HS.out);clear hW HS;have eU:=aen (aS.out.below HD.out.bel);have hw0:=HD.out.bel.size;have hw1:=HD.out.res.lt;obtain⟨p0,p1,p2,p3,p4,p5,p6,p7,p8,p9,p10,x0,x1,x2,x3,x4,x5,x6,x7,x8,x9,x10⟩:=az HD.out.aP;clear x0 x1 x2 x3 x4 x5 x6 x7 x8 x9 x10;have aB:Hid (Below W0.heap.size W0 W0):=aen (aer _ _);have bu:Hid (∀W,Below W0.heap.size W0 W→(W.cell? ⟨b,off+i,none⟩=some (.string (ln zs i))∧W.cell? ⟨b,off+(i+1),none⟩=some (.string (ln zs (i+1)))∧Below W0.heap.size W0 W)):=aen fun W h=>
  ⟨((HD.out.bel.trans (h.mono hw0)).cell (p:=⟨b,off+i,none⟩) hb).trans (bQ.out i hi),((HD.out.bel.trans (h.mono hw0)).cell (p:=⟨b,off+(i+1),none⟩) hb).trans (bQ.out (i+1) hi1),h⟩
 have uw:Hid (∀W,Below W0.heap.size W0 W→Calls prog 77 #[.string (ln zs i),.string (ln zs (i+1))] W fun e w'=>e=.returned (.bool true)∧Below W.heap.size W w'):=aen fun W h=>by
  have:=AQ.out W (eU.out.below h).cell
  rwa [HB.out] at this
 have hi0:(0:Int)≤(i:Int)+1:=by omega
 have hi2:(i:Int)+1<(zs.length:Int):=by omega
 have hi3:((i:Int)+1).toNat=i+1:=by omega
 have hw2:IntKind.i64.wrap ((i:Int)+1)=(i:Int)+1:=IntWalk.i64_in _ (by omega);have d1:decide ((i:Int)+1<(zs.length:Int))=true:=aeq (by omega);have d2:decide (i+1<zs.length)=true:=aeq hi1;obtain⟨s0,s1,_⟩:=bu.out _ aB.out;clear p1 p2 p3 p4 p5 p6 p7 p8 p9 p10 AQ;go_wp2_with fail;refine wp_region_held_drew (S:=fun W'=>W'.cell? ⟨b,off+i,none⟩=some (.string (ln zs i))∧W'.cell? ⟨b,off+(i+1),none⟩=some (.string (ln zs (i+1)))∧Below W0.heap.size W0 W') (by kernel_rfl) (bu.out _ aB.out.drew) (fun hHeld=>?_);refine tk 0 (.int .i64 i) rfl hHeld (fun W' hSw=>?_) ?_
 ·obtain⟨h0,h1,h2⟩:=hSw;go_simp
 refine tk 1 (.int .i64 ((i:Int)+1)) rfl hHeld (fun W' hSw=>?_) ?_
 ·obtain⟨h0,h1,h2⟩:=hSw;go_simp
 refine tk 2 (.slice (some ⟨b,off,none⟩) zs.length c) rfl hHeld (fun W' hSw=>?_) ?_
 ·obtain⟨h0,h1,h2⟩:=hSw;go_simp
 refine tk 3 (.int .i64 zs.length) rfl hHeld (fun W' hSw=>?_) ?_
 ·obtain⟨h0,h1,h2⟩:=hSw;go_simp
 refine tk 4 (.bool true) rfl hHeld (fun W' hSw=>?_) ?_
 ·obtain⟨h0,h1,h2⟩:=hSw;go_simp
 refine tk 5 (.bool true) rfl hHeld (fun W' hSw=>?_) ?_
 ·obtain⟨h0,h1,h2⟩:=hSw;go_simp
 refine tk 6 (.slice (some ⟨b,off,none⟩) zs.length c) rfl hHeld (fun W' hSw=>?_) ?_
 ·obtain⟨h0,h1,h2⟩:=hSw;go_simp
 refine tk 7 (.int .i64 i) rfl hHeld (fun W' hSw=>?_) ?_
 ·obtain⟨h0,h1,h2⟩:=hSw;go_simp
 refine tk 8 (.pointer (some ⟨b,off+i,none⟩)) rfl hHeld (fun W' hSw=>?_) ?_
 ·obtain⟨h0,h1,h2⟩:=hSw;go_simp
 refine tk 9 (.string (ln zs i)) rfl hHeld (fun W' hSw=>?_) ?_
 ·obtain⟨h0,h1,h2⟩:=hSw;go_simp
 refine tk 10 (.slice (some ⟨b,off,none⟩) zs.length c) rfl hHeld (fun W' hSw=>?_) ?_
 ·obtain⟨h0,h1,h2⟩:=hSw;go_simp
 refine tk 11 (.int .i64 i) rfl hHeld (fun W' hSw=>?_) ?_
 ·obtain⟨h0,h1,h2⟩:=hSw;go_simp
 refine tk 12 (.int .i64 ((i:Int)+1)) rfl hHeld (fun W' hSw=>?_) ?_
 ·obtain⟨h0,h1,h2⟩:=hSw;go_simp
 refine tk 13 (.pointer (some ⟨b,off+(i+1),none⟩)) rfl hHeld (fun W' hSw=>?_) ?_
 ·obtain⟨h0,h1,h2⟩:=hSw;go_simp
 refine tk 14 (.string (ln zs (i+1))) rfl hHeld (fun W' hSw=>?_) ?_
 ·obtain⟨h0,h1,h2⟩:=hSw;go_simp
 refine aC 15 rfl (fun K hK=>?_);go_simp;with_reducible refine(uw.out _ aB.out.drew).mono ?_
 rintro e W9 ⟨rfl,b8⟩;have b9:Below W0.heap.size W0 W9:=aB.out.drew.trans b8;go_simp;refine hK.out _ _ (bu.out _ b9) (fun hHeld=>?_);clear hK K;refine aC 16 rfl (fun K hK=>?_);go_simp;refine hK.out _ _ (hHeld) (fun hHeld=>?_);clear hK K;refine wpAnyH_done (by kernel_rfl) ?_ _;have eF:=aen (HD.out.next b9);have AU:=aen (eU.out.below b9);have kQ:=b9.size;have xx:=aen (HQ.out W9 AU.out);clear HQ uw bu s0 s1 hHeld;go_wp2_with fail;with_reducible refine(xx.out).mono ?_
 rintro e w2 ⟨b2,hp⟩;have HD2:=aen (eF.out.next b2);have jc:=eF.out.res.lt;have D5:B≤W9.heap.size:=by omega
 obtain⟨k0,k1,k2,k3,k4,k5,k6,k7,k8,k9,k10,y0,y1,y2,y3,y4,y5,y6,y7,y8,y9,aj⟩:=ZB.facts HD2.out.res;clear xx b2;cases PR with
 |none=>
  obtain⟨v,u,⟨i0,i1,s2,s3,s4,s5,s6,A7,n7,c7,A8,n8,c8,D9,n9,d9,gV,n10,d10,rfl⟩,rfl⟩:=hp;go_wp2_with fail;exact jG (ax HD2.out.res _ _ _ _ _ _ _ _ _ _ _) rfl rfl rfl rfl (rH rfl ⟨_,_,_,_,_,_,_,_,_,_,_,_,_,_,_,_,_,_,_,rfl⟩ (au HD2.out.bel (Nat.le_succ _) _ _ _ _ _ _ _ _ _ _ _))
 |some r=>
  obtain⟨bk,tq⟩:=r;obtain⟨v,rfl,hrep⟩:=hp;obtain⟨f0,f1,f2,f3,f4,f5,f6,D9,n9,d9,gV,n10,d10,jX,n11,d11,jY,n12,d12,rfl⟩:=hrep.form;have dB:=aen hrep;clear hrep;go_wp2_with fail;exact jG (ax HD2.out.res _ _ _ _ _ _ _ _ _ _ _) rfl rfl rfl rfl (kM rfl (dB.out.far (aV _ _ _ _ _ _ _ _ _ _ _ _ _) jc D5) (au HD2.out.bel (Nat.le_succ _) _ _ _ _ _ _ _ _ _ _ _))
theorem aa7(d:Nat)(hd:d≤15)(zs:List ByteArray)(A:Option Addr)(c i B:Nat)(MM:Int)(m:ag)(A9:Option Addr)(c9:Nat)(af:Option Addr)(c10:Nat)(w:World)(hL:aG w A zs MM)(hi:i<zs.length)(hc:zs.length≤c)(hcm:c≤maxLen)(hB:B≤w.heap.size)(ha:aW w (Rg B w) m.att A9 af)(hk:m.kind=0)(hh:gZ zs i=false) :
 Calls prog 39 #[.slice A zs.length c,.int .i64 i,.agg (m.cells (.slice A9 m.att.cl.length c9) (.slice af m.att.pr.length c10)),.int .i64 d] w (iE B (some (qE zs i,ig zs i)) w):=by
 have hlen:=hL.len;have aS:=aen hL;have HA:=aen ha;have HS:=aen (lY w (m.cells (.slice A9 m.att.cl.length c9) (.slice af m.att.pr.length c10)));obtain⟨PR,aO⟩:∃PR,PR=some (qE zs i,ig zs i):=⟨_,rfl⟩;rw[←aO];have hz:∀j,(ln zs j).size≤1000000:=fun j=>aev (dh hL.sz j) (by decide);have AQ:Hid (∀W,W.cell? ⟨0,0,none⟩=some (.int .i64 MM)→Calls prog 77 #[.string (ln zs i),.string (ln zs (i+1))] W fun e w'=>e=.returned (.bool (headB (bytesL (ln zs i)) (bytesL (ln zs (i+1)))))∧Below W.heap.size W w'):=aen fun W h=>Ku (ln zs i) (ln zs (i+1)) MM W (hz i) (hz (i+1)) h;obtain⟨b,off,rfl,hb,hcell⟩:=hL.get (by omega);have bQ:=aen hcell;clear hz hcell;have hh2:(decide (i+1<zs.length)&&headB (bytesL (ln zs i)) (bytesL (ln zs (i+1))))=false:=hh;have HQ:Hid (∀W,aG W (some ⟨b,off,none⟩) zs MM→Calls prog 79 #[.slice (some ⟨b,off,none⟩) zs.length c,.int .i64 i] W fun e w'=>(∃v,e=.returned (.tuple #[.agg v,.int .i64 (ig zs i)])∧dw w' (Rg W.heap.size w') v (qE zs i))∧Below W.heap.size W w'):=aen fun W eH=>aaI zs (some ⟨b,off,none⟩) c i W.heap.size MM W eH hi (aeo _);have AA:=aen hh2;clear hh hh2;have z2:(((m.kind:Nat):Int)==2)=false:=kF (by omega);have z3:(((m.kind:Nat):Int)==3)=false:=kF (by omega);have z11:(((m.kind:Nat):Int)==11)=false:=kF (by omega);have z4:(((m.kind:Nat):Int)==4)=false:=kF (by omega);have z7:(((m.kind:Nat):Int)==7)=false:=kF (by omega);have z8:(((m.kind:Nat):Int)==8)=false:=kF (by omega);have z9:(((m.kind:Nat):Int)==9)=false:=kF (by omega);have z10:(((m.kind:Nat):Int)==10)=false:=kF (by omega);have z5:(((m.kind:Nat):Int)==5)=false:=kF (by omega);have z6:(((m.kind:Nat):Int)==6)=false:=kF (by omega);have bU:=aen aO;have HK:=aen hk;clear hL hk ha aO;unfold ag.cells fA at HS;go_enter Tryz.func39,Tryz.ntmps39;unfold ag.cells;go_upto_region 1 with fail
 generalize hW:(w.alloc _).alloc _=W0;have HD:Hid (DW w #[.int .i64 m.kind,.int .i64 m.n,.string m.ch,.int .i64 m.off,.string m.info,.string m.rest,.string m.dest,.string m.title,.string m.att.id,.slice A9 m.att.cl.length c9,.slice af m.att.pr.length c10] W0):=aen (by rw[←hW];exact HS.out);clear hW HS;have eU:=aen (aS.out.below HD.out.bel);have hw0:=HD.out.bel.size;have hw1:=HD.out.res.lt;obtain⟨p0,p1,p2,p3,p4,p5,p6,p7,p8,p9,p10,x0,x1,x2,x3,x4,x5,x6,x7,x8,x9,x10⟩:=az HD.out.aP;clear x0 x1 x2 x3 x4 x5 x6 x7 x8 x9 x10;by_cases hi1:i+1<zs.length
 ·have HB:Hid (headB (bytesL (ln zs i)) (bytesL (ln zs (i+1)))=false):=aen (by have h:=AA.out;rw[aeq hi1] at h;exact h);clear AA;have aB:Hid (Below W0.heap.size W0 W0):=aen (aer _ _);have bu:Hid (∀W,Below W0.heap.size W0 W→(W.cell? ⟨b,off+i,none⟩=some (.string (ln zs i))∧W.cell? ⟨b,off+(i+1),none⟩=some (.string (ln zs (i+1)))∧Below W0.heap.size W0 W)):=aen fun W h=>
   ⟨((HD.out.bel.trans (h.mono hw0)).cell (p:=⟨b,off+i,none⟩) hb).trans (bQ.out i hi),((HD.out.bel.trans (h.mono hw0)).cell (p:=⟨b,off+(i+1),none⟩) hb).trans (bQ.out (i+1) hi1),h⟩
  have uw:Hid (∀W,Below W0.heap.size W0 W→Calls prog 77 #[.string (ln zs i),.string (ln zs (i+1))] W fun e w'=>e=.returned (.bool false)∧Below W.heap.size W w'):=aen fun W h=>by
   have:=AQ.out W (eU.out.below h).cell
   rwa [HB.out] at this
  have hi0:(0:Int)≤(i:Int)+1:=by omega
  have hi2:(i:Int)+1<(zs.length:Int):=by omega
  have hi3:((i:Int)+1).toNat=i+1:=by omega
  have hw2:IntKind.i64.wrap ((i:Int)+1)=(i:Int)+1:=IntWalk.i64_in _ (by omega);have d1:decide ((i:Int)+1<(zs.length:Int))=true:=aeq (by omega);have d2:decide (i+1<zs.length)=true:=aeq hi1;obtain⟨s0,s1,_⟩:=bu.out _ aB.out;clear p1 p2 p3 p4 p5 p6 p7 p8 p9 p10 AQ;go_wp2_with fail;refine wp_region_held_drew (S:=fun W'=>W'.cell? ⟨b,off+i,none⟩=some (.string (ln zs i))∧W'.cell? ⟨b,off+(i+1),none⟩=some (.string (ln zs (i+1)))∧Below W0.heap.size W0 W') (by kernel_rfl) (bu.out _ aB.out.drew) (fun hHeld=>?_);refine tk 0 (.int .i64 i) rfl hHeld (fun W' hSw=>?_) ?_
  ·obtain⟨h0,h1,h2⟩:=hSw;go_simp
  refine tk 1 (.int .i64 ((i:Int)+1)) rfl hHeld (fun W' hSw=>?_) ?_
  ·obtain⟨h0,h1,h2⟩:=hSw;go_simp
  refine tk 2 (.slice (some ⟨b,off,none⟩) zs.length c) rfl hHeld (fun W' hSw=>?_) ?_
  ·obtain⟨h0,h1,h2⟩:=hSw;go_simp
  refine tk 3 (.int .i64 zs.length) rfl hHeld (fun W' hSw=>?_) ?_
  ·obtain⟨h0,h1,h2⟩:=hSw;go_simp
  refine tk 4 (.bool true) rfl hHeld (fun W' hSw=>?_) ?_
  ·obtain⟨h0,h1,h2⟩:=hSw;go_simp
  refine tk 5 (.bool true) rfl hHeld (fun W' hSw=>?_) ?_
  ·obtain⟨h0,h1,h2⟩:=hSw;go_simp
  refine tk 6 (.slice (some ⟨b,off,none⟩) zs.length c) rfl hHeld (fun W' hSw=>?_) ?_
  ·obtain⟨h0,h1,h2⟩:=hSw;go_simp
  refine tk 7 (.int .i64 i) rfl hHeld (fun W' hSw=>?_) ?_
  ·obtain⟨h0,h1,h2⟩:=hSw;go_simp
  refine tk 8 (.pointer (some ⟨b,off+i,none⟩)) rfl hHeld (fun W' hSw=>?_) ?_
  ·obtain⟨h0,h1,h2⟩:=hSw;go_simp
  refine tk 9 (.string (ln zs i)) rfl hHeld (fun W' hSw=>?_) ?_
  ·obtain⟨h0,h1,h2⟩:=hSw;go_simp
  refine tk 10 (.slice (some ⟨b,off,none⟩) zs.length c) rfl hHeld (fun W' hSw=>?_) ?_
  ·obtain⟨h0,h1,h2⟩:=hSw;go_simp
  refine tk 11 (.int .i64 i) rfl hHeld (fun W' hSw=>?_) ?_
  ·obtain⟨h0,h1,h2⟩:=hSw;go_simp
  refine tk 12 (.int .i64 ((i:Int)+1)) rfl hHeld (fun W' hSw=>?_) ?_
  ·obtain⟨h0,h1,h2⟩:=hSw;go_simp
  refine tk 13 (.pointer (some ⟨b,off+(i+1),none⟩)) rfl hHeld (fun W' hSw=>?_) ?_
  ·obtain⟨h0,h1,h2⟩:=hSw;go_simp
  refine tk 14 (.string (ln zs (i+1))) rfl hHeld (fun W' hSw=>?_) ?_
  ·obtain⟨h0,h1,h2⟩:=hSw;go_simp
  refine aC 15 rfl (fun K hK=>?_);go_simp;with_reducible refine(uw.out _ aB.out.drew).mono ?_
  rintro e W9 ⟨rfl,b8⟩;have b9:Below W0.heap.size W0 W9:=aB.out.drew.trans b8;go_simp;refine hK.out _ _ (bu.out _ b9) (fun hHeld=>?_);clear hK K;refine aC 16 rfl (fun K hK=>?_);go_simp;refine hK.out _ _ (hHeld) (fun hHeld=>?_);clear hK K;refine wpAnyH_done (by kernel_rfl) ?_ _;clear uw bu s0 s1 hHeld;have eF:=aen (HD.out.next b9);have AU:=aen (eU.out.below b9);have kQ:=b9.size;have xx:=aen (HQ.out W9 AU.out);clear HQ;go_wp2_with fail;with_reducible refine(xx.out).mono ?_
  rintro e w2 ⟨⟨v,rfl,hrep⟩,b2⟩;have HD2:=aen (eF.out.next b2);have jc:=eF.out.res.lt;have D5:B≤W9.heap.size:=by omega
  obtain⟨f0,f1,f2,f3,f4,f5,f6,D9,n9,d9,gV,n10,d10,jX,n11,d11,jY,n12,d12,rfl⟩:=hrep.form;have dB:=aen (hrep.low ((aer _ w2).alloc (aeo _) (.cells #[.int .i64 f0,.int .i64 f1,.string f2,.string f3,.string f4,.string f5,.string f6,.slice D9 n9 d9,.slice gV n10 d10,.slice jX n11 d11,.slice jY n12 d12] 46)));have HD3:=aen (HD2.out.next ((aer _ w2).alloc (aeo _) (.cells #[.int .i64 f0,.int .i64 f1,.string f2,.string f3,.string f4,.string f5,.string f6,.slice D9 n9 d9,.slice gV n10 d10,.slice jX n11 d11,.slice jY n12 d12] 46)));have D6:=aen (ae.new w2 46 #[.int .i64 f0,.int .i64 f1,.string f2,.string f3,.string f4,.string f5,.string f6,.slice D9 n9 d9,.slice gV n10 d10,.slice jX n11 d11,.slice jY n12 d12]);clear xx b2 hrep;go_upto_region 27 with fail
  generalize hW3:w2.alloc _=W3 at *;generalize w2.heap.size=gv at *;clear hW3;obtain⟨k0,k1,k2,k3,k4,k5,k6,k7,k8,k9,k10,y0,y1,y2,y3,y4,y5,y6,y7,y8,y9,aj⟩:=ZB.facts HD3.out.res;obtain⟨l0,l1,l2,l3,l4,l5,l6,l7,l8,l9,l10,j0,j1,j2,j3,j4,j5,j6,j7,j8,j9,j10⟩:=az D6.out;clear j0 j1 j2 j3 j4 j5 j6 j7 j8 j9 j10 D6;go_wp2_with fail;exact jG (ax HD3.out.res _ _ _ _ _ _ _ _ _ _ _) rfl rfl rfl rfl (kM (by rw[bU.out]) (dB.out.far (aV _ _ _ _ _ _ _ _ _ _ _ _ _) jc D5) (au HD3.out.bel (Nat.le_succ _) _ _ _ _ _ _ _ _ _ _ _))
 ·have d1:decide ((i:Int)+1<(zs.length:Int))=false:=aep (by omega);have d2:decide (i+1<zs.length)=false:=aep hi1;clear AA AQ p1 p2 p3 p4 p5 p6 p7 p8 p9 p10;go_wp2_with fail;go_quiet (fail);have b9:Below W0.heap.size W0 (W0.drewN nq):=below_drewN (aer _ _) nq;generalize W0.drewN nq=W9 at *;have eF:=aen (HD.out.next b9);have AU:=aen (eU.out.below b9);have kQ:=b9.size;have xx:=aen (HQ.out W9 AU.out);clear HQ;go_wp2_with fail;with_reducible refine(xx.out).mono ?_
  rintro e w2 ⟨⟨v,rfl,hrep⟩,b2⟩;have HD2:=aen (eF.out.next b2);have jc:=eF.out.res.lt;have D5:B≤W9.heap.size:=by omega
  obtain⟨f0,f1,f2,f3,f4,f5,f6,D9,n9,d9,gV,n10,d10,jX,n11,d11,jY,n12,d12,rfl⟩:=hrep.form;have dB:=aen (hrep.low ((aer _ w2).alloc (aeo _) (.cells #[.int .i64 f0,.int .i64 f1,.string f2,.string f3,.string f4,.string f5,.string f6,.slice D9 n9 d9,.slice gV n10 d10,.slice jX n11 d11,.slice jY n12 d12] 46)));have HD3:=aen (HD2.out.next ((aer _ w2).alloc (aeo _) (.cells #[.int .i64 f0,.int .i64 f1,.string f2,.string f3,.string f4,.string f5,.string f6,.slice D9 n9 d9,.slice gV n10 d10,.slice jX n11 d11,.slice jY n12 d12] 46)));have D6:=aen (ae.new w2 46 #[.int .i64 f0,.int .i64 f1,.string f2,.string f3,.string f4,.string f5,.string f6,.slice D9 n9 d9,.slice gV n10 d10,.slice jX n11 d11,.slice jY n12 d12]);clear xx b2 hrep;go_upto_region 27 with fail
  generalize hW3:w2.alloc _=W3 at *;generalize w2.heap.size=gv at *;clear hW3;obtain⟨k0,k1,k2,k3,k4,k5,k6,k7,k8,k9,k10,y0,y1,y2,y3,y4,y5,y6,y7,y8,y9,aj⟩:=ZB.facts HD3.out.res;obtain⟨l0,l1,l2,l3,l4,l5,l6,l7,l8,l9,l10,j0,j1,j2,j3,j4,j5,j6,j7,j8,j9,j10⟩:=az D6.out;clear j0 j1 j2 j3 j4 j5 j6 j7 j8 j9 j10 D6;go_wp2_with fail;exact jG (ax HD3.out.res _ _ _ _ _ _ _ _ _ _ _) rfl rfl rfl rfl (kM (by rw[bU.out]) (dB.out.far (aV _ _ _ _ _ _ _ _ _ _ _ _ _) jc D5) (au HD3.out.bel (Nat.le_succ _) _ _ _ _ _ _ _ _ _ _ _))
def D7(r:Option (List BkT × List (Nat × Nat)))(w:World)(e:Ending)(w':World):Prop:=
 Below w.heap.size w w'∧match r with
 |none=>e=.returned qG
 |some p=>∃v A c,e=.returned (.tuple #[v,.slice A p.2.length c,.int .i64 0])∧bP w' (Rg w.heap.size w') v p.1∧ReadsS w' (Rg w.heap.size w') 2 A p.2.length (qF p.2)∧∃A' c',v=.slice A' p.1.length c'∧p.1.length≤c'
theorem aX.cap{w:World}{base n c:Nat}{E:Nat→Prop}{A:Option Addr}{bs:List BkT}(h:aX w base E (.slice A n c) bs):bs.length≤c:=by
 obtain⟨S,vs,hS,hk,ho⟩:=h;obtain⟨A',c',e,h1,h2⟩:∃A' c',Value.slice A n c=.slice A' bs.length c'∧bs.length≤c'∧c'≤maxLen:=by
  rcases ho.2 with ⟨e,h0⟩|⟨g,cap,cur,e,_,_,h1,h2,_⟩
  ·rw[e,h0];exact⟨_,_,rfl,aeo _,Nat.zero_le _⟩
  ·rw[e];exact⟨_,_,rfl,h1,h2⟩
 injection e with _ _ e
 rw[e];exact h1
theorem aa8(n d:Nat)(hnd:n+d=16)(zs:List ByteArray)(A:Option Addr)(c:Nat)(MM:Int)(w:World)(hL:aG w A zs MM)(HA:n≠0→AtP n d zs A c MM) :
 Calls prog 30 #[.slice A zs.length c,.int .i64 d] w (D7 (bg n zs) w):=by
 obtain⟨i0,hi0,hz0,hz1,hz2⟩:=info_parts yL;obtain⟨j0,hj0,hy0,hy1,hy2⟩:=info_parts RN;have HL:=aen hL;have HAt:=aen HA;have hlen:=hL.len;have hwp:=hL.pos;have HM:Hid (∀i W,Calls prog 38 #[.string (ln zs i)] W fun e w'=>∃A c D d,e=.returned (.agg ((ai (ln zs i)).cells (.slice A (ai (ln zs i)).att.cl.length c) (.slice D (ai (ln zs i)).att.pr.length d)))∧aW w' (Rg W.heap.size w') (ai (ln zs i)).att A D∧Below W.heap.size W w'):=aen fun i W=>(CO (ln zs i) W (aev (dh hL.sz i) (by decide))).mono fun e w' h=>by
  obtain⟨⟨_,rfl,C,P,rfl,o⟩,b⟩:=h;obtain⟨A1,c1,A2,c2,rfl,rfl,h⟩:=aW.of_own o;exact⟨A1,c1,A2,c2,rfl,h,b⟩
 have HR0:Hid (bg n zs=(iO (fJ n zs) zs 0).map fun p=>([]++p.1,[]++p.2)):=aen (by
  rw[KN];cases iO (fJ n zs) zs 0 <;> rfl)
 have HK:=aen fun i=>KE (ln zs i);have D8:decide (15<(d:Int))=decide (n=0):=decide_eq_decide.2 (by omega);clear hL HA;go_enter Tryz.func30,Tryz.ntmps30;go_wp2_with fail;go_loopw [7,8,9] (fun v7 v8 v9 wr=>RP n zs w v7 v8 v9 wr) (fun _ _ v9 _=>zs.length - (intOf v9).toNat);case atStart=>exact⟨0,[],[],rfl,Nat.zero_le _,aen (aX.nil _ _ _),World.ownsRow_nil _ _ _ _,aeo _,aeo _,aer _ _,HR0⟩
 case round=>
  obtain⟨i,bs,rs,rfl,hi,bZ,pN,hbi,hri,hbw,HR⟩:=hrel;have dU:=hbw.size;have kP:=aen (HL.out.below hbw);obtain⟨A7,c7,rfl⟩:=bZ.out.own;obtain⟨A8,c8,rfl⟩:=ay pN;by_cases hlt:i<zs.length
  ·obtain⟨b,off,rfl,hb,hcell⟩:=kP.out.get (by omega);have hc0:=hcell i hlt;have GN:=HK.out i;clear hcell;go_wp2_with fail;with_reducible refine(HM.out _ _).mono ?_
   rintro e w1 ⟨A1,c1,A2,c2,rfl,hat,b1⟩;have hz1':=b1.size;cases hbl:aF (ln zs i) with
   |true=>
    have hk1:(ai (ln zs i)).kind=1:=GN.1 hbl;have HRn:Hid (bg n zs=(iO (fJ n zs) zs (i+1)).map fun p=>(bs++p.1,rs++p.2)):=aen (by rw[HR.out,KL _ _ _ hlt hbl]);have kk:(((ai (ln zs i)).kind:Nat):Int)=1:=by omega
    unfold ag.cells;rw[kk];go_wp2_with fail;go_roundw;case rel=>
     have hbb:=fun o=>b1.alloc b1.size o;exact⟨i+1,bs,rs,by go_num,by omega,aen (bZ.out.below (hbb _)),own_below pN (hbb _),by omega,by omega,hbw.trans ((hbb _).mono dU),HRn⟩
    case measure=>simp[intOf];omega
   |false=>
    have hk:=GN.2 hbl;have hst:=aen (RS n zs i hlt hbl);have hk1:((((ai (ln zs i)).kind:Nat):Int)==1)=false:=by rw[aes];omega
    have uz:Hid (n≠0→∀(W:World) (A9:Option Addr) (c9:Nat) (af:Option Addr) (c10:Nat),wr.heap.size≤W.heap.size→aG W (some ⟨b,off,none⟩) zs MM→aW W (Rg wr.heap.size W) (ai (ln zs i)).att A9 af→
     Calls prog 39 #[.slice (some ⟨b,off,none⟩) zs.length c,.int .i64 i,.agg ((ai (ln zs i)).cells (.slice A9 (ai (ln zs i)).att.cl.length c9) (.slice af (ai (ln zs i)).att.pr.length c10)),.int .i64 d] W (iE wr.heap.size (fJ n zs i (ai (ln zs i))) W)):=aen fun h0 W A9 c9 af c10 h1 h2 h3=>HAt.out h0 i wr.heap.size W A9 c9 af c10 hlt hbl h1 h2 h3
    have hto:Hid (∀r,fJ n zs i (ai (ln zs i))=some r→i<r.2∧r.2≤zs.length):=aen fun r e=>Dl n zs i r hlt e;have hn0:Hid (n=0→fJ n zs i (ai (ln zs i))=none):=aen fun e=>by subst e;rfl
    generalize fJ n zs i (ai (ln zs i))=R at *;clear GN HM hk HK HAt;generalize ai (ln zs i)=m at *;unfold ag.cells at uz ⊢;by_cases hn:n=0
    ·have mM:=hn0.out hn;have HE:Hid (bg n zs=none):=aen (by rw[HR.out,hst.out,mM];rfl);rw[aeq hn] at D8;clear uz;go_wp2_with fail;go_ret3;exact⟨hbw.trans ((b1.alloc b1.size _).mono dU),by rw[HE.out];rfl⟩
    ·rw[aep hn] at D8;go_wp2_with fail;with_reducible refine(uz.out hn _ A1 c1 A2 c2 (by simp;omega) (kP.out.below (b1.alloc b1.size _)) (hat.below ((aer _ _).alloc (aeo _) _))).mono ?_
     rintro e w2 ⟨b2,hp⟩;have jA:=b2.size;have b12:Below wr.heap.size wr w2:=(b1.alloc b1.size _).trans (b2.mono (by simp;omega));clear b2 b1 hat hn0;cases R with
     |none=>
      obtain⟨v,u,⟨i0,i1,s2,s3,s4,s5,s6,A7,n7,c7,A8,n8,c8,A9,n9,c9,af,n10,c10,rfl⟩,rfl⟩:=hp;have HE:Hid (bg n zs=none):=aen (by rw[HR.out,hst.out];rfl);clear uz HR hst;go_wp2_with fail;go_ret3;exact⟨hbw.trans ((b12.alloc b12.size _).mono dU),by rw[HE.out];rfl⟩
     |some r=>
      obtain⟨bk,tq⟩:=r;obtain⟨v,rfl,hrep⟩:=hp;have hab:=hrep.form;obtain⟨f0,f1,f2,f3,f4,f5,f6,A9,n9,c9,af,n10,c10,rW,n11,c11,rX,n12,c12,rfl⟩:=hrep.form;have Ea:=hto.out _ rfl;simp only[] at Ea;obtain⟨S,vs,hS,hkk,hown⟩:=bZ.out;have hown2:=own_below hown b12;have vW:=own_below pN b12;have LJ:=b12.size;have hv7:=hown.lt;have Eb:=pN.lt;have dB:=aen hrep;have HKK:=aen hkk;have ji:=aen hS;have LK:=own_ne hown2 vW (by decide);have LM:Hid (bg n zs=(iO (fJ n zs) zs tq).map fun p=>((bs++[bk])++p.1,(rs++[(i,tq)])++p.2)):=aen (by
       rw[HR.out,hst.out];simp only[];cases iO (fJ n zs) zs tq with
       |none=>rfl
       |some q=>simp)
      clear uz HR hst hrep hkk hS hown pN hto bZ;go_wp2_with (at_builtin;refine wpList_append_lies _ rfl _ _ 25 rfl w.heap.size 46 i0 _ 11 192 Tryz.underlying25 hi0 hz0 hz1 hz2 rfl (by decide) _ _ _ rfl ((hown2.alloc _).alloc _) ⟨w2.heap.size+1,0,none⟩ 1 1 _ rfl hab.len ?c1 hab.one (by decide) ?c3 ?c4 ?c5 (w2.heap.size+2) ?c6 ?_);case c3=>unfold maxLen;omega
      case c4=>omega
      case c5=>simp;omega
      case c6=>simp
      intro g7 gm w3 hown3 hgrow hlies hlt3;have vX:=((vW.alloc (.cells #[.int .i64 f0,.int .i64 f1,.string f2,.string f3,.string f4,.string f5,.string f6,.slice A9 n9 c9,.slice af n10 c10,.slice rW n11 c11,.slice rX n12 c12] 46)).alloc (.cells #[.int .i64 f0,.int .i64 f1,.string f2,.string f3,.string f4,.string f5,.string f6,.slice A9 n9 c9,.slice af n10 c10,.slice rW n11 c11,.slice rX n12 c12] 46)).kept hgrow (own_ne vW hown2 (by decide));have jJ:=aen (aX.push ji.out HKK.out (b12.alloc b12.size (.cells #[.int .i64 f0,.int .i64 f1,.string f2,.string f3,.string f4,.string f5,.string f6,.slice A9 n9 c9,.slice af n10 c10,.slice rW n11 c11,.slice rX n12 c12] 46)) (fun k h=>(hv7 k h).2) (fun k h=>(Eb k h).2) dU (by simp;omega) (dB.out.low ((aer _ _).alloc (aeo _) _)) hown3 hgrow hlies (by simp));have hbw3:Below w.heap.size w w3:=(((hbw.trans (b12.mono dU)).alloc (by omega) (.cells #[.int .i64 f0,.int .i64 f1,.string f2,.string f3,.string f4,.string f5,.string f6,.slice A9 n9 c9,.slice af n10 c10,.slice rW n11 c11,.slice rX n12 c12] 46)).alloc (by simp;omega) (.cells #[.int .i64 f0,.int .i64 f1,.string f2,.string f3,.string f4,.string f5,.string f6,.slice A9 n9 c9,.slice af n10 c10,.slice rW n11 c11,.slice rX n12 c12] 46)).grown hgrow (by simp;omega) (fun k hk=>(hv7 k hk).1);have hz3:=hbw3.size;have Ec:=own_ne hown3 vX (by decide);clear hown2 vW hgrow hlies ji HKK dB hv7 Eb b12 hown3 hab LK jA LJ;go_wp2_with (at_builtin;refine wpList_append_lies _ rfl _ _ 30 rfl w.heap.size 34 j0 _ 2 16 Tryz.underlying30 hj0 hy0 hy1 hy2 rfl (by decide) _ _ _ rfl (vX.alloc _) ⟨w3.heap.size,0,none⟩ 1 1 [.int .i64 i,.int .i64 tq] rfl rfl ?d1 ?d2 (by decide) ?d3 ?d4 ?d5 (w3.heap.size+1) ?d6 ?_);case d1=>exact World.news_of_block (t:=34) (fr:=(0,0)) (cs:=#[.int .i64 i,.int .i64 tq]) (heap_alloc_new w3 _)
      case d2=>intro u hu;simp at hu;rcases hu with rfl|rfl <;> rfl
      case d3=>unfold maxLen;omega
      case d4=>omega
      case d5=>simp;omega
      case d6=>simp
      intro g8 aba w4 hown4 hgrow4 Ed hlt4;have nG:=aen ((jJ.out.below ((aer _ _).alloc (aeo _) (.cells #[.int .i64 i,.int .i64 tq] 34))).kept hgrow4 Ec Ed (by simp));have yR:Below w.heap.size w w4:=(hbw3.alloc hz3 (.cells #[.int .i64 i,.int .i64 tq] 34)).grown hgrow4 (by simp;omega) (fun k hk=>(vX.lt k hk).1);clear hgrow4 Ed vX jJ Ec;go_wp2_with fail;go_roundw;case rel=>
       refine⟨tq,bs++[bk],rs++[(i,tq)],rfl,Ea.2,?_,?_,by simp;omega,by simp;omega,yR,LM⟩
       ·have h:=nG.out;exact aen h
       ·rw[aey,←RU];exact hown4
      case measure=>simp[intOf];omega
  ·have HE:Hid (bg n zs=some (bs,rs)):=aen (by rw[HR.out,Gm _ _ _ (by omega)];simp);go_wp2_with fail;go_ret3;refine⟨hbw,?_⟩;rw[HE.out];exact⟨_,_,_,rfl,bZ.out.kids,ReadsS.of_own pN,_,_,rfl,bZ.out.cap⟩
end Go.Proofs.YtpoafhgbhnblmaaGreatDoor
