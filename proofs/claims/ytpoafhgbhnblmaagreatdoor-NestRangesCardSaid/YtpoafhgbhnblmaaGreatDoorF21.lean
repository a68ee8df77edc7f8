import Derived.Test.YtpoafhgbhnblmaaGreatDoorF20
set_option linter.unusedVariables false
set_option linter.unusedSimpArgs false
set_option maxRecDepth 100000
set_option maxHeartbeats 20000000
namespace Go.Proofs.YtpoafhgbhnblmaaGreatDoor
open Go.Proofs.Tryz (prog)
open Go.RowKit
def Gu(S:World→Nat→Prop)(r:Option (BkT × Nat))(w:World)(e:Ending)(w':World):Prop:=
 Below w.heap.size w w'∧match r with
 |none=>∃(v:Array Value) (u:Int),kL v∧e=.returned (.tuple #[.agg v,.int .i64 u,.int .i64 11])
 |some p=>∃v,e=.returned (.tuple #[.agg v,.int .i64 p.2,.int .i64 0])∧dw w' (S w') v p.1
theorem aay{S:World→Nat→Prop}{r:Option (BkT × Nat)}{b:BkT}{t:Nat}{w w':World}{v:Array Value}(hr:r=some (b,t))(hv:dw w' (S w') v b)(hb:Below w.heap.size w w'):Gu S r w (.returned (.tuple #[.agg v,.int .i64 t,.int .i64 0])) w':=by
 subst hr;exact⟨hb,v,rfl,hv⟩
theorem aaz{S:World→Nat→Prop}{r:Option (BkT × Nat)}{u:Int}{w w':World}{v:Array Value}(hr:r=none)(hv:kL v)(hb:Below w.heap.size w w'):Gu S r w (.returned (.tuple #[.agg v,.int .i64 u,.int .i64 11])) w':=by
 subst hr;exact⟨hb,v,u,hv,rfl⟩
theorem aaA(rec:List ByteArray→Option (List BkT))(d:Nat)(hd:d≤15)(zs:List ByteArray)(A:Option Addr)(c i:Nat)(MM:Int)(m:ag)(A9:Option Addr)(c9:Nat)(af:Option Addr)(c10:Nat)(w:World)(hR:uk rec (d+1) MM)(hL:aG w A zs MM)(hi:i<zs.length)(hc:zs.length≤c)(hcm:c≤maxLen)(T:Nat→Prop)(hT:∀g,T g→g<w.heap.size)(ha:aW w T m.att A9 af) :
 Calls prog 74 #[.slice A zs.length c,.int .i64 i,.agg (m.cells (.slice A9 m.att.cl.length c9) (.slice af m.att.pr.length c10)),.int .i64 d] w
  (Gu (fun w' g=>T g∨Rg w.heap.size w' g) ((rec (bz zs (i+1) (bD zs m (i+1)))).map fun k=>(.mk 13 0 m.info ⟨#[]⟩ ⟨#[]⟩ ⟨#[]⟩ m.att ⟨#[]⟩ k,min (bD zs m (i+1)+1) zs.length)) w):=by
 have hlen:=hL.len;have hbd:=Dp zs m i hi;obtain⟨b,off,rfl,hb,hcell⟩:=hL.get (by omega);have aS:=aen hL;have HC:=aen fun W (h:aG W (some ⟨b,off,none⟩) zs MM)=>Lc zs (some ⟨b,off,none⟩) c i MM m A9 m.att.cl.length c9 af m.att.pr.length c10 W h hi;have HR:Hid (∀(W:World) (A':Option Addr) (c':Nat),aG W (some ⟨b,off,none⟩) zs MM→(A'=some ⟨b,off+(i+1),none⟩∨bD zs m (i+1)=i+1)→bD zs m (i+1) - (i+1)≤c'→c'≤maxLen→
  Calls prog 30 #[.slice A' (bD zs m (i+1) - (i+1)) c',.int .i64 ((d+1:Nat):Int)] W fun e w'=>
   (match rec (bz zs (i+1) (bD zs m (i+1))) with
    |none=>e=.returned qG
    |some bs=>∃A1 c1 A2 n2 c2,e=.returned (.tuple #[.slice A1 bs.length c1,.slice A2 n2 c2,.int .i64 0])∧bP w' (Rg W.heap.size w') (.slice A1 bs.length c1) bs)∧Below W.heap.size W w'):=aen fun W A' c' h1 h2 h3 h4=>by
  have hl:=jE zs (i+1) (bD zs m (i+1)) hbd.1 hbd.2;have:=hR (bz zs (i+1) (bD zs m (i+1))) A' c' W (h1.xn (i+1) _ hbd.1 hbd.2 A' h2) (by omega) h4
  rwa [hl] at this
 have HS:=aen (lY w (m.cells (.slice A9 m.att.cl.length c9) (.slice af m.att.pr.length c10)));have HA:=aen ha;have yK:=aen hT;obtain⟨R,hRr⟩:∃R,R=rec (bz zs (i+1) (bD zs m (i+1))):=⟨_,rfl⟩;rw[←hRr] at HR ⊢;obtain⟨t,ht⟩:∃t,t=bD zs m (i+1):=⟨_,rfl⟩;rw[←ht] at HC HR hbd ⊢;have mP:∀w:World,(Builtin.min_ #[3,3] 3 #[.int .i64 ((t:Int)+1),.int .i64 zs.length]).run prog w=.ok (.int .i64 ((min (t+1) zs.length:Nat):Int)) w:=fun w=>by
  rw[run_min_int2];congr 2;split <;> omega
 have kN:=aen (show (d:Int)+1=((d+1:Nat):Int) by omega);unfold maxLen at hcm;clear hL hcell hR ha ht hRr hT;unfold ag.cells fA at HS;unfold yM ag.cells at HC;unfold ag.cells;go_enter Tryz.func74,Tryz.ntmps74;have HB0:=aen HS.out.bel;obtain⟨p0,p1,p2,p3,p4,p5,p6,p7,p8,p9,p10,x0,x1,x2,x3,x4,x5,x6,x7,x8,x9,x10⟩:=az HS.out.aP;go_wp2_with fail;with_reducible refine(HC.out _ (aS.out.below HB0.out)).mono ?_
 rintro e w1 ⟨⟨vC,vP,rfl,ho⟩,b1⟩;obtain⟨A1,c1,rfl⟩:=ay ho.cls;obtain⟨A2,c2,rfl⟩:=ay ho.aH;have jU:=aen (HS.out.next b1);clear ho b1 HC p0 p1 p2 p3 p4 p5 p6 p7 p8 p9 p10 x0 x1 x2 x3 x4 x5 x6 x7 x8 x9 x10 HS HB0;go_wp2_with fail;all_goals
  rw[kN.out];generalize hW:w1.alloc _=W2;have HS2:=aen (hW ▸ jU.out.next ((aer _ w1).alloc (aeo _) _));clear hW;with_reducible refine(HR.out _ _ _ (aS.out.below HS2.out.bel) (by first|exact .inl rfl|exact .inr (by omega)) (by omega) (by unfold maxLen;omega)).mono ?_
  rintro e w3 ⟨hp,b3⟩;have rJ:=aen (HS2.out.next b3);have hz3:=b3.size;have Dq:=HS2.out.res.lt;obtain⟨p0,p1,p2,p3,p4,p5,p6,p7,p8,p9,p10,x0,x1,x2,x3,x4,x5,x6,x7,x8,x9,x10⟩:=az rJ.out.aP;obtain⟨k0,k1,k2,k3,k4,k5,k6,k7,k8,k9,k10,y0,y1,y2,y3,y4,y5,y6,y7,y8,y9,aj⟩:=ZB.facts rJ.out.res;have yO:Hid (∀z0 z1 z2 z3 z4 z5 z6 z7 z8 z9 z10,Below w.heap.size w (((((((((((w3.setCell ⟨w.heap.size+1,0,none⟩ z0).setCell ⟨w.heap.size+1,1,none⟩ z1).setCell ⟨w.heap.size+1,2,none⟩ z2).setCell ⟨w.heap.size+1,3,none⟩ z3).setCell ⟨w.heap.size+1,4,none⟩ z4).setCell ⟨w.heap.size+1,5,none⟩ z5).setCell ⟨w.heap.size+1,6,none⟩ z6).setCell ⟨w.heap.size+1,7,none⟩ z7).setCell ⟨w.heap.size+1,8,none⟩ z8).setCell ⟨w.heap.size+1,9,none⟩ z9).setCell ⟨w.heap.size+1,10,none⟩ z10)):=aen fun z0 z1 z2 z3 z4 z5 z6 z7 z8 z9 z10=>au rJ.out.bel (Nat.le_succ _) z0 z1 z2 z3 z4 z5 z6 z7 z8 z9 z10;cases R with
  |none=>
   subst hp;unfold qG;clear HR b3;go_wp2_with fail;exact Rj (ax rJ.out.res _ _ _ _ _ _ _ _ _ _ _) rfl rfl rfl rfl (aaz rfl ⟨_,_,_,_,_,_,_,_,_,_,_,_,_,_,_,_,_,_,_,rfl⟩ (yO.out _ _ _ _ _ _ _ _ _ _ _))
  |some bs=>
   obtain⟨A3,c3,A4,n4,c4,rfl,hk⟩:=hp;have HK:=aen hk;clear HR hk b3;go_wp2_with fail;exact Rj (ax rJ.out.res _ _ _ _ _ _ _ _ _ _ _) rfl rfl rfl rfl (aay rfl (iq (att:=m.att) (HA.out.keep (fun g hg=>(yO.out _ _ _ _ _ _ _ _ _ _ _).block g (yK.out g hg)) fun g hg=>.inl hg) (jg _ _) ((HK.out.far (B':=w.heap.size) (aV _ _ _ _ _ _ _ _ _ _ _ _ _) Dq (by omega)).keep (fun _ _=>rfl) fun g hg=>.inr hg)) (yO.out _ _ _ _ _ _ _ _ _ _ _))
def iP(zs:List ByteArray)(i t n k:Nat):List ByteArray:=((bz zs (i+1) t).take k).map fun z=>aT z n
theorem Sl(zs:List ByteArray)(i t n k:Nat)(h2:t≤zs.length)(hk:i+1+k<t):strs (iP zs i t n (k+1))=strs (iP zs i t n k)++[.string (aT (ln zs (i+1+k)) n)]:=by
 have hl:(bz zs (i+1) t).length=t - (i+1):=jE _ _ _ (by omega) h2;unfold iP strs;rw[List.take_succ_eq_append_getElem (by omega),List.map_append,List.map_append];rw[yF _ k (by omega),Gh zs _ _ _ hk];rfl
theorem uo(zs:List ByteArray)(i t n:Nat)(h1:i+1≤t)(h2:t≤zs.length):iP zs i t n (t - (i+1))=(bz zs (i+1) t).map fun z=>aT z n:=by
 unfold iP;rw[List.take_of_length_le (by rw[jE _ _ _ h1 h2];exact aeo _)]
def aaB(zs:List ByteArray)(i t n:Nat)(MK:Array Value)(w:World)(v11 v32:Value)(wr:World):Prop:=
 ∃k:Nat,v32=.int .i64 k∧i+1+k≤t∧wr.ownsRow (w.heap.size+2) 9 1 v11 k (strs (iP zs i t n k))∧DW w MK wr
theorem aaC(zs:List ByteArray)(A:Option Addr)(c i B:Nat)(MM:Int)(m:ag)(A9:Option Addr)(c9:Nat)(af:Option Addr)(c10:Nat)(w:World)(hL:aG w A zs MM)(hi:i<zs.length)(hc:zs.length≤c)(hcm:c≤maxLen)(hB:B≤w.heap.size)(ho:m.off≤1000000) :
 Calls prog 71 #[.slice A zs.length c,.int .i64 i,.agg (m.cells (.slice A9 m.att.cl.length c9) (.slice af m.att.pr.length c10))] w
  (iE B (some (.mk 3 0 m.info (mk (fC ((bz zs (i+1) (bD zs m (i+1))).map fun z=>aT z m.off))) ⟨#[]⟩ ⟨#[]⟩ ak ⟨#[]⟩ [],min (bD zs m (i+1)+1) zs.length)) w):=by
 have hlen:=hL.len;have hbd:=Dp zs m i hi;obtain⟨i0,hi0,hz0,hz1,hz2⟩:=info_parts ru;obtain⟨b,off,rfl,hb,hcell⟩:=hL.get (by omega);have bQ:=aen hcell;have aS:=aen hL;have HC:=aen fun W (h:aG W (some ⟨b,off,none⟩) zs MM)=>Lc zs (some ⟨b,off,none⟩) c i MM m A9 m.att.cl.length c9 af m.att.pr.length c10 W h hi;have bH:Hid (∀j W,Calls prog 107 #[.string (ln zs j),.int .i64 (m.off:Nat)] W fun e w'=>e=.returned (.string (aT (ln zs j) m.off))∧W=w'):=aen fun j W=>Fq (ln zs j) m.off W (aev (dh hL.sz j) (by decide)) ho;have HS:=aen (lY w (m.cells (.slice A9 m.att.cl.length c9) (.slice af m.att.pr.length c10)));obtain⟨t,ht⟩:∃t,t=bD zs m (i+1):=⟨_,rfl⟩;rw[←ht] at HC hbd ⊢;rw[←uo zs i t m.off hbd.1 hbd.2];have yP:=aen fun k=>Sl zs i t m.off k hbd.2;have HJ:=aen fun (A':Option Addr) (c':Nat) (W:World) (h:Reads W W.heap.size 1 A' (t - (i+1)) (strs (iP zs i t m.off (t - (i+1)))))=>Ro (iP zs i t m.off (t - (i+1))) A' c' W.heap.size W (by
  have hl:(iP zs i t m.off (t - (i+1))).length=t - (i+1):=by rw[uo zs i t m.off hbd.1 hbd.2,List.length_map,jE _ _ _ hbd.1 hbd.2]
  rw[hl];exact h) (aeo _) (by
  rw[uo zs i t m.off hbd.1 hbd.2,List.length_map,jE _ _ _ hbd.1 hbd.2];omega) (fun z hz=>by
  rw[uo zs i t m.off hbd.1 hbd.2] at hz;obtain⟨y,hy,rfl⟩:=List.mem_map.1 hz;exact aev (KY _ _) (hL.sz y (Gp hy)))
 have hsl:(iP zs i t m.off (t - (i+1))).length=t - (i+1):=by rw[uo zs i t m.off hbd.1 hbd.2,List.length_map,jE _ _ _ hbd.1 hbd.2]
 rw[hsl] at HJ;have mP:∀w:World,(Builtin.min_ #[3,3] 3 #[.int .i64 ((t:Int)+1),.int .i64 zs.length]).run prog w=.ok (.int .i64 ((min (t+1) zs.length:Nat):Int)) w:=fun w=>by
  rw[run_min_int2];congr 2;split <;> omega
 have hmk:∀W:World,(Instr.makeSlice 22 (.int .i64 0) (.int .i64 ((t:Int) - (i:Int) - 1))).run prog W=.ok (.slice (some ⟨W.heap.size,0,none⟩) 0 (t - (i+1))) (W.alloc (.cells (List.replicate (t - (i+1)) (Value.string ⟨#[]⟩)).toArray 9)):=fun W=>by
  have h:=run_make (P:=prog) W 22 9 i0 (.string ⟨#[]⟩) Tryz.underlying22 hi0 hz0 .i64 .i64 0 (t - (i+1):Nat) (by omega) (by omega) (by rw[hz2];omega) (by omega);rw[show (t:Int) - (i:Int) - 1=((t - (i+1):Nat):Int) by omega];rw[Int.toNat_natCast,hz1,Nat.mul_one] at h;rw[h];have:(Value.string ⟨#[]⟩).cells=#[Value.string ⟨#[]⟩]:=rfl;rw[this,QN];rfl
 have hsub:(t:Int) - (i:Int) - 1=((t - (i+1):Nat):Int):=by omega
 have dG:Hid (strs (iP zs i t m.off 0)=[]):=aen (by unfold iP strs;simp);clear hsub hL hcell ht hsl;unfold maxLen at hcm;unfold ag.cells fA at HS;unfold yM ag.cells at HC;unfold ag.cells;go_enter Tryz.func71,Tryz.ntmps71;have HB0:=aen HS.out.bel;obtain⟨p0,p1,p2,p3,p4,p5,p6,p7,p8,p9,p10,x0,x1,x2,x3,x4,x5,x6,x7,x8,x9,x10⟩:=az HS.out.aP;go_wp2_with fail;with_reducible refine(HC.out _ (aS.out.below HB0.out)).mono ?_
 rintro e w1 ⟨⟨vC,vP,rfl,ho⟩,b1⟩;obtain⟨A1,c1,rfl⟩:=ay ho.cls;obtain⟨A2,c2,rfl⟩:=ay ho.aH;have jU:=aen (HS.out.next b1);clear ho b1 HC p0 p1 p2 p3 p4 p5 p6 p7 p8 p9 p10 x0 x1 x2 x3 x4 x5 x6 x7 x8 x9 x10 HS HB0;by_cases hci:c=i+1;all_goals
  go_upto_block 0 with fail
  go_cut [11] (fun s11 wx=>wx.ownsRow (w.heap.size+2) 9 1 s11 (t - (i+1)) (strs (iP zs i t m.off (t - (i+1))))∧DW w (m.cells (.slice A9 m.att.cl.length c9) (.slice af m.att.pr.length c10)) wx);case first=>
   go_wp2_with fail;go_loopw [11,32] (fun v11 v32 wr=>aaB zs i t m.off (m.cells (.slice A9 m.att.cl.length c9) (.slice af m.att.pr.length c10)) w v11 v32 wr) (fun _ v32 _=>t - (intOf v32).toNat);case atStart=>
    refine⟨0,rfl,by omega,?_,jU.out.next (((aer _ _).alloc (aeo _) _).alloc (by simp) _)⟩;rw[dG.out];have h:=fun o=>World.ownsRow_made (base:=w.heap.size+2) (size:=1) (e:=9) (w1.alloc o) (List.replicate (t - (i+1)) (Value.string ⟨#[]⟩)).toArray (t - (i+1)) (by have:=jU.out.res.lt;simp;omega) (by unfold maxLen;omega) (by simp);simp only[sZ] at h;simp only[List.toArray_replicate] at h;exact h _
   case round=>
    obtain⟨k,rfl,hk,hown,di⟩:=hrel;have HWr:=aen di;have hrz:=di.bel.size;have hlz:=di.res.lt;by_cases hlt:i+1+k<t
    ·first
     |(exfalso;omega)
     |skip
     all_goals
      have hc0:wr.cell? ⟨b,off+(i+1)+k,none⟩=some (.string (ln zs (i+1+k))):=(di.bel.cell (p:=⟨b,off+(i+1)+k,none⟩) hb).trans (by rw[Nat.add_assoc off];exact bQ.out (i+1+k) (by omega));obtain⟨p0,p1,p2,p3,p4,p5,p6,p7,p8,p9,p10,x0,x1,x2,x3,x4,x5,x6,x7,x8,x9,x10⟩:=az di.aP;have Lj:=aen fun W=>bH.out (i+1+k) W;have HE:=aen (yP.out k hlt);clear di bH p0 p1 p2 p4 p5 p6 p7 p8 p9 p10 x0 x1 x2 x3 x4 x5 x6 x7 x8 x9 x10;generalize aT (ln zs (i+1+k)) m.off=y at *;generalize ln zs (i+1+k)=z at *;go_wp2_with fail;with_reducible refine(Lj.out _).mono ?_
      rintro e w2 ⟨rfl,rfl⟩;go_wp2_with (at_builtin;refine wpList_append_own _ rfl _ _ 22 rfl (w.heap.size+2) 9 i0 _ 1 16 Tryz.underlying22 hi0 hz0 hz1 hz2 rfl (by decide) _ _ _ rfl (hown.alloc _) ⟨wr.heap.size,0,none⟩ 1 1 [.string y] rfl rfl ?c1 ?c2 ?c3 ?c4 ?c5 ?_);case c1=>
       intro j u hj;match j,hj with
       |0,hj=>simp at hj;subst hj;simp[Addr.add]
      case c2=>intro u hu;simp at hu;subst hu;rfl
      case c3=>unfold maxLen;omega
      case c4=>omega
      case c5=>simp;omega
      intro v' w2 hown3 hgrow _;have HW2:Hid (DW w (m.cells (.slice A9 m.att.cl.length c9) (.slice af m.att.pr.length c10)) w2):=aen ⟨(ae.alloc HWr.out.aP _).grown hgrow (fun e=>by have:=(hown.lt _ e.symm).1;omega),ae.grown (ae.alloc HWr.out.res _) hgrow (fun e=>by have:=(hown.lt _ e.symm).1;omega),(HWr.out.bel.alloc hrz _).grown hgrow (by simp;omega) (fun k hk=>by have:=(hown.lt k hk).1;omega)⟩;clear hown hgrow;go_wp2_with fail;go_roundw;case rel=>exact⟨k+1,by go_num,by omega,by rw[HE.out];exact hown3,HW2.out⟩
      case measure=>simp[intOf];omega
    ·have hkt:k=t - (i+1):=by omega
     subst hkt;have HOW:=aen hown;clear hown di yP hlt;go_wp2_with fail;go_meet;exact⟨HOW.out,HWr.out⟩
  case rest=>
   obtain⟨hown,hW⟩:=hcut;have HW:=aen hW;have HOW:=aen hown;have hrz:=hW.bel.size;have hlz:=hW.res.lt;obtain⟨A3,c3,rfl⟩:=ay hown;have xu:=aen fun W (h:Below wc.heap.size wc W)=>HJ.out A3 c3 W ((Reads.of_own hown).below h |>.more h.size);clear hown hW HJ bH yP dG jU hmk;go_wp2_with fail;have HB0:=aen (aer wc.heap.size wc);have bu:Hid (∀W',Below wc.heap.size wc W'→(W'.cell? ⟨w.heap.size,4,none⟩=some (.string m.info)∧Below (w.heap.size+1) wc W')):=aen fun W' h=>⟨(HW.out.aP.below h (by omega)).cell 4,h.mono (by omega)⟩;have uq:Hid (∀W' z0 z1 z2 z3 z4 z5 z6 z7 z8 z9 z10,Below wc.heap.size wc W'→((((((((((((W'.setCell ⟨w.heap.size+1,0,none⟩ z0).setCell ⟨w.heap.size+1,1,none⟩ z1).setCell ⟨w.heap.size+1,2,none⟩ z2).setCell ⟨w.heap.size+1,3,none⟩ z3).setCell ⟨w.heap.size+1,4,none⟩ z4).setCell ⟨w.heap.size+1,5,none⟩ z5).setCell ⟨w.heap.size+1,6,none⟩ z6).setCell ⟨w.heap.size+1,7,none⟩ z7).setCell ⟨w.heap.size+1,8,none⟩ z8).setCell ⟨w.heap.size+1,9,none⟩ z9).setCell ⟨w.heap.size+1,10,none⟩ z10).cell? ⟨w.heap.size,4,none⟩=some (.string m.info)∧Below (w.heap.size+1) wc (((((((((((W'.setCell ⟨w.heap.size+1,0,none⟩ z0).setCell ⟨w.heap.size+1,1,none⟩ z1).setCell ⟨w.heap.size+1,2,none⟩ z2).setCell ⟨w.heap.size+1,3,none⟩ z3).setCell ⟨w.heap.size+1,4,none⟩ z4).setCell ⟨w.heap.size+1,5,none⟩ z5).setCell ⟨w.heap.size+1,6,none⟩ z6).setCell ⟨w.heap.size+1,7,none⟩ z7).setCell ⟨w.heap.size+1,8,none⟩ z8).setCell ⟨w.heap.size+1,9,none⟩ z9).setCell ⟨w.heap.size+1,10,none⟩ z10))):=aen fun W' z0 z1 z2 z3 z4 z5 z6 z7 z8 z9 z10 h=>⟨((ae.grown (HW.out.aP.below h (by omega)) (aV W' (w.heap.size+1) z0 z1 z2 z3 z4 z5 z6 z7 z8 z9 z10) (by simp)).cell 4),au (h.mono (by omega)) (aeo _) z0 z1 z2 z3 z4 z5 z6 z7 z8 z9 z10⟩;have hw1:IntKind.i64.wrap ((t:Int)+1)=(t:Int)+1:=IntWalk.i64_in _ (by omega);refine wp_region_held_drew (S:=fun W'=>W'.cell? ⟨w.heap.size,4,none⟩=some (.string m.info)∧Below (w.heap.size+1) wc W') (by kernel_rfl) (bu.out _ HB0.out.drew) (fun hHeld=>?_);refine tk 0 (.pointer (some ⟨w.heap.size,4,none⟩)) rfl hHeld (fun W' hSw=>?_) ?_
   ·obtain⟨h0,h1⟩:=hSw;go_simp
   refine tk 1 (.string m.info) rfl hHeld (fun W' hSw=>?_) ?_
   ·obtain⟨h0,h1⟩:=hSw;go_simp
   refine tk 2 (.slice A3 (t - (i+1)) c3) rfl hHeld (fun W' hSw=>?_) ?_
   ·obtain⟨h0,h1⟩:=hSw;go_simp
   refine tk 5 (.int .i64 t) rfl hHeld (fun W' hSw=>?_) ?_
   ·obtain⟨h0,h1⟩:=hSw;go_simp
   refine tk 6 (.int .i64 ((t:Int)+1)) rfl hHeld (fun W' hSw=>?_) ?_
   ·obtain⟨h0,h1⟩:=hSw;go_simp
   refine tk 7 (.slice (some ⟨b,off,none⟩) zs.length c) rfl hHeld (fun W' hSw=>?_) ?_
   ·obtain⟨h0,h1⟩:=hSw;go_simp
   refine tk 8 (.int .i64 zs.length) rfl hHeld (fun W' hSw=>?_) ?_
   ·obtain⟨h0,h1⟩:=hSw;go_simp
   refine tk 9 (.int .i64 ((min (t+1) zs.length:Nat):Int)) rfl hHeld (fun W' hSw=>?_) ?_
   ·obtain⟨h0,h1⟩:=hSw;go_simp
   refine aC 3 rfl (fun K hK=>?_);go_simp;with_reducible refine(xu.out _ HB0.out.drew).mono ?_
   rintro e W9 ⟨rfl,b8⟩;have b9:Below wc.heap.size wc W9:=HB0.out.drew.trans b8;obtain⟨q0,q1,q2,q3,q4,q5,q6,q7,q8,q9,q10,r0,r1,r2,r3,r4,r5,r6,r7,r8,r9,r10⟩:=ZB.facts (HW.out.res.below (w:=w) b9);have hqz:w.heap.size+1<W9.heap.size:=by have:=b9.size;omega
   go_simp;refine hK.out _ _ (bu.out _ b9) (fun hHeld=>?_);clear hK K;refine aC 4 rfl (fun K hK=>?_);go_simp;refine hK.out _ _ hHeld (fun _=>?_);clear hK K;refine aC 10 rfl (fun K hK=>?_);go_simp;refine hK.out _ _ (uq.out _ _ _ _ _ _ _ _ _ _ _ _ b9) (fun hHeld=>?_);clear hK K;refine aC 11 rfl (fun K hK=>?_);go_simp;refine hK.out _ _ hHeld (fun _=>?_);clear hK K;refine aC 12 rfl (fun K hK=>?_);go_simp;refine hK.out _ _ hHeld (fun _=>?_);clear hK K;refine wpAnyH_done (by kernel_rfl) ?_ _;go_wp2_with fail;exact aan (ax (HW.out.res.below (w:=w) b9) _ _ _ _ _ _ _ _ _ _ _) rfl rfl rfl rfl (kM rfl (iq (att:=ak) (aW.empty _ _ _ _) (jg _ _) (bP.none_ _ _)) (HW.out.bel.trans ((au (b9.mono (by omega)) (Nat.le_succ _) _ _ _ _ _ _ _ _ _ _ _))))
structure LW(w:World)(MK LB:Array Value)(W:World):Prop where
 aP:ae W w.heap.size 74 MK
 res:ZB W (w.heap.size+1)
 lst:ae W (w.heap.size+2) 46 LB
 bel:Below w.heap.size w W
theorem LW.next{w W W':World}{MK LB:Array Value}(h:LW w MK LB W)(hb:Below W.heap.size W W'):LW w MK LB W':=
 ⟨h.aP.below hb h.aP.lt,h.res.below (w:=w) hb,h.lst.below hb h.lst.lt,h.bel.trans (hb.mono h.bel.size)⟩
def dL(kind level:Int)(vK:Value):Array Value:=#[.int .i64 kind,.int .i64 level,.string ⟨#[]⟩,.string ⟨#[]⟩,.string ⟨#[]⟩,.string ⟨#[]⟩,.string ⟨#[]⟩,.slice none 0 0,.slice none 0 0,.slice none 0 0,vK]
theorem Sm(w:World)(MK:Array Value)(k l:Int):LW w MK (dL k l (.slice none 0 0)) (((w.alloc (.cells MK 74)).alloc (.cells fA 46)).alloc (.cells (dL k l (.slice none 0 0)) 46)):=by
 have h:=lY w MK;refine⟨h.aP.alloc _,ae.alloc h.res _,?_,h.bel.alloc h.bel.size _⟩;have h2:=ae.new ((w.alloc (.cells MK 74)).alloc (.cells fA 46)) 46 (dL k l (.slice none 0 0));simp at h2;exact h2
theorem aX.far{w w':World}{base g:Nat}{E:Nat→Prop}{v:Value}{bs:List BkT}(h:aX w base E v bs)(hg:w.grownBy w' (some g))(hlt:g<base):aX w' base E v bs:=by
 obtain⟨S,vs,hS,hk,ho⟩:=h;refine⟨S,vs,fun x hx=>⟨(hS x hx).1,aeA (hS x hx).2.1 hg.size,(hS x hx).2.2⟩,hk.keep (fun x hx=>hg.block x (hS x hx).2.1 fun e=>?_) fun _ h=>h,ho.kept hg ?_⟩
 ·injection e with e;have:=(hS x hx).1;omega
 ·rcases ho.2 with ⟨rfl,_⟩|⟨g',cap,cur,rfl,hb,_⟩
  ·exact .inl rfl
  ·right;intro e;have:g'=g:=by simpa [Value.ownBlock] using e
   omega
theorem bP.low{w:World}{B B':Nat}{v:Value}{bs:List BkT}(h:bP w (Rg B w) v bs)(hB:B'≤B):bP w (Rg B' w) v bs:=
 h.keep (fun _ _=>rfl) fun g hg=>⟨aev hB hg.1,hg.2⟩
theorem LW.grown{w W W':World}{MK LB:Array Value}{tmp:Obj}{row:Option Nat}(h:LW w MK LB W)(hg:(W.alloc tmp).grownBy W' row)(hr:∀k,row=some k→w.heap.size+3≤k):LW w MK LB W':=
 ⟨(h.aP.alloc _).grown hg (fun e=>by have:=hr _ e.symm;omega),ae.grown (ae.alloc h.res _) hg (fun e=>by have:=hr _ e.symm;omega),(h.lst.alloc _).grown hg (fun e=>by have:=hr _ e.symm;omega),
  (h.bel.alloc h.bel.size _).grown hg (by simp;exact Nat.le_succ_of_le h.bel.size) (fun k e=>by have:=hr k e;omega)⟩
theorem LW.store{w W:World}{MK:Array Value}{k l:Int}{v v':Value}(h:LW w MK (dL k l v) W):LW w MK (dL k l v') (W.setCell ⟨w.heap.size+2,10,none⟩ v'):=
 ⟨h.aP.far (by simp) _,ae.far h.res (by simp) _,h.lst.bJ 10 v',h.bel.setCell (p:=⟨w.heap.size+2,10,none⟩) (by simp) _⟩
theorem LW.mark{w W:World}{LB:Array Value}{z0 z1 z2 z3 z4 z5 z6 z7 z8 z9 z10:Value}(h:LW w #[z0,z1,z2,z3,z4,z5,z6,z7,z8,z9,z10] LB W)(y0 y1 y2 y3 y4 y5 y6 y7 y8 y9 aj:Value):LW w #[y0,y1,y2,y3,y4,y5,y6,y7,y8,y9,aj] LB ((((((((((((W.setCell ⟨w.heap.size,0,none⟩ y0).setCell ⟨w.heap.size,1,none⟩ y1).setCell ⟨w.heap.size,2,none⟩ y2).setCell ⟨w.heap.size,3,none⟩ y3).setCell ⟨w.heap.size,4,none⟩ y4).setCell ⟨w.heap.size,5,none⟩ y5).setCell ⟨w.heap.size,6,none⟩ y6).setCell ⟨w.heap.size,7,none⟩ y7).setCell ⟨w.heap.size,8,none⟩ y8).setCell ⟨w.heap.size,9,none⟩ y9).setCell ⟨w.heap.size,10,none⟩ aj).drewN 1):=
 ⟨ae.drewN (ax h.aP y0 y1 y2 y3 y4 y5 y6 y7 y8 y9 aj) 1,ae.drewN (ae.grown h.res (aV W w.heap.size y0 y1 y2 y3 y4 y5 y6 y7 y8 y9 aj) (by simp)) 1,ae.drewN (h.lst.grown (aV W w.heap.size y0 y1 y2 y3 y4 y5 y6 y7 y8 y9 aj) (by simp)) 1,below_drewN (au h.bel (aeo _) y0 y1 y2 y3 y4 y5 y6 y7 y8 y9 aj) 1⟩
structure lZ(m:ag):Prop where
 off:m.off≤1000000
 rest:m.rest.size≤100000
 info:m.kind=6→m.info.size≤1000000
theorem Gv(s:ByteArray)(hs:s.size≤100000)(h:(ai s).kind=5∨(ai s).kind=6):lZ (ai s):=
 ⟨aev (Dj s).2 (by omega),aev (Gg s (by omega)).1 hs,fun h6=>aev (KD s h6) (by omega)⟩
theorem Sr{a b:ag}(h:iL a b=true):a.kind=b.kind:=by
 unfold iL at h;rw[decide_eq_true_eq] at h;exact h.1
def aaD(rec:List ByteArray→Option (List BkT))(zs:List ByteArray)(lk ll:Nat)(full:Option (List BkT × Nat))(w:World)(v1:Value)(wr:World):Prop:=
 ∃(i:Nat) (m:ag) (A9:Option Addr) (n9 c9:Nat) (af:Option Addr) (n10 c10:Nat) (vK:Value) (its:List BkT),v1=.int .i64 i∧i<zs.length∧lZ m∧(m.kind=5∨m.kind=6)∧
  LW w (m.cells (.slice A9 n9 c9) (.slice af n10 c10)) (dL lk ll vK) wr∧Hid (aX wr (w.heap.size+3) (fun _=>False) vK its)∧its.length≤i∧Hid (full=(jH rec zs i m).map fun r=>(its++r.1,r.2))
theorem nC{W:World}{g:Nat}{k l:Int}{vK:Value}(h:ae W g 46 (dL k l vK)):W.cell? ⟨g,0,none⟩=some (.int .i64 k)∧W.cell? ⟨g,1,none⟩=some (.int .i64 l)∧W.cell? ⟨g,2,none⟩=some (.string ⟨#[]⟩)∧W.cell? ⟨g,3,none⟩=some (.string ⟨#[]⟩)∧W.cell? ⟨g,4,none⟩=some (.string ⟨#[]⟩)∧W.cell? ⟨g,5,none⟩=some (.string ⟨#[]⟩)∧W.cell? ⟨g,6,none⟩=some (.string ⟨#[]⟩)∧W.cell? ⟨g,7,none⟩=some (.slice none 0 0)∧W.cell? ⟨g,8,none⟩=some (.slice none 0 0)∧W.cell? ⟨g,9,none⟩=some (.slice none 0 0)∧W.cell? ⟨g,10,none⟩=some vK∧W.frozen? ⟨g,0,none⟩=false∧W.frozen? ⟨g,1,none⟩=false∧W.frozen? ⟨g,2,none⟩=false∧W.frozen? ⟨g,3,none⟩=false∧W.frozen? ⟨g,4,none⟩=false∧W.frozen? ⟨g,5,none⟩=false∧W.frozen? ⟨g,6,none⟩=false∧W.frozen? ⟨g,7,none⟩=false∧W.frozen? ⟨g,8,none⟩=false∧W.frozen? ⟨g,9,none⟩=false∧W.frozen? ⟨g,10,none⟩=false:=az h
theorem aaE(rec:List ByteArray→Option (List BkT))(d:Nat)(hd:d≤15)(zs:List ByteArray)(A:Option Addr)(c i B:Nat)(MM:Int)(m:ag)(A9:Option Addr)(n9 c9:Nat)(af:Option Addr)(n10 c10:Nat)(w:World)(hR:d+1≤15→uk rec (d+2) MM)(hL:aG w A zs MM)(hi:i<zs.length)(hc:zs.length≤c)(hcm:c≤maxLen)(hB:B≤w.heap.size)(hok:lZ m)(rD:m.kind=5∨m.kind=6) :
 Calls prog 76 #[.slice A zs.length c,.int .i64 i,.agg (m.cells (.slice A9 n9 c9) (.slice af n10 c10)),.int .i64 d] w
  (iE B (if decide (d+1≤15)=true then (jH rec zs i m).map (fun r=>(lW m r.1,r.2)) else none) w):=by
 have hlen:=hL.len;obtain⟨lk,hlk⟩:∃lk:Nat,lk=if m.kind=6 then 8 else 7:=⟨_,rfl⟩
 obtain⟨ll,hll⟩:∃ll:Nat,ll=if m.kind=6 then m.n else 0:=⟨_,rfl⟩
 have Dt:Hid (∀kids,lW m kids=.mk lk ll ⟨#[]⟩ ⟨#[]⟩ ⟨#[]⟩ ⟨#[]⟩ ak ⟨#[]⟩ kids):=aen fun kids=>by rw[hlk,hll];rfl
 obtain⟨full,hfull⟩:∃full,full=jH rec zs i m:=⟨_,rfl⟩;rw[←hfull];obtain⟨PR,aO⟩:∃PR,PR=if decide (d+1≤15)=true then full.map (fun r=>(lW m r.1,r.2)) else none:=⟨_,rfl⟩
 rw[←aO];have bU:=aen aO;have dG:Hid (full=(jH rec zs i m).map fun r=>(([]:List BkT)++r.1,r.2)):=aen (by rw[hfull];cases jH rec zs i m <;> rfl);have qI:=aen hok;have yQ:=aen rD;clear aO hfull hok rD;have aS:=aen hL;have HS:=aen (Sm w (m.cells (.slice A9 n9 c9) (.slice af n10 c10)));have Gw:=aen (HS.out 7 0);have Ll:Hid (LW w (m.cells (.slice A9 n9 c9) (.slice af n10 c10)) (dL lk ll (.slice none 0 0)) (((w.alloc (.cells (m.cells (.slice A9 n9 c9) (.slice af n10 c10)) 74)).alloc (.cells fA 46)).alloc (.cells (dL lk ll (.slice none 0 0)) 46))):=aen (HS.out lk ll);clear HS;unfold dL fA ag.cells at Gw;go_enter Tryz.func76,Tryz.ntmps76;unfold ag.cells;go_upto_if 22 with fail
 go_cut [] (fun wx=>LW w (m.cells (.slice A9 n9 c9) (.slice af n10 c10)) (dL lk ll (.slice none 0 0)) wx);case first=>
  rcases yQ.out with h5|h6
  ·have e1:lk=7:=by rw[hlk,if_neg (by omega)]
   have e2:ll=0:=by rw[hll,if_neg (by omega)]
   have z1:(((m.kind:Nat):Int)==6)=false:=kF (by omega);have E1:=aen e1;have E2:=aen e2;clear hlk hll h5 e1 e2 Ll;go_wp2_with fail;go_meet;rw[E1.out,E2.out];exact Gw.out
  ·have e1:lk=8:=by rw[hlk,if_pos h6]
   have e2:ll=m.n:=by rw[hll,if_pos h6]
   have z1:(((m.kind:Nat):Int)==6)=true:=kT (by omega);have E1:=aen e1;have E2:=aen e2;clear hlk hll h6 e1 e2 Gw;go_wp2_with fail;go_meet;have h:=Ll.out;rw[E1.out,E2.out] at h ⊢;exact h
 case rest=>
 have HW:=aen hcut;clear Gw Ll hcut hlk hll;by_cases hd2:d+1≤15;case neg=>
  have d1:decide (15<(d:Int)+1)=true:=aeq (by omega);obtain⟨k0,k1,k2,k3,k4,k5,k6,k7,k8,k9,k10,y0,y1,y2,y3,y4,y5,y6,y7,y8,y9,aj⟩:=ZB.facts HW.out.res;clear hR;go_wp2_with fail;exact Gi (ax HW.out.res _ _ _ _ _ _ _ _ _ _ _) rfl rfl rfl rfl (rH (by rw[bU.out,if_neg (by rw[decide_eq_true_eq];exact hd2)]) ⟨_,_,_,_,_,_,_,_,_,_,_,_,_,_,_,_,_,_,_,rfl⟩ (au HW.out.bel (Nat.le_succ _) _ _ _ _ _ _ _ _ _ _ _))
 have d1:decide (15<(d:Int)+1)=false:=aep (by omega);have gU:=aen (hR hd2);obtain⟨i0,hi0,hz0,hz1,hz2⟩:=info_parts yL;obtain⟨b,off,rfl,hb,hcell⟩:=hL.get (by omega);have bQ:=aen hcell;have hdd:(d:Int)+2=((d+2:Nat):Int):=by omega
 have kN:=aen hdd;have HM:Hid (∀j W,Calls prog 38 #[.string (ln zs j)] W fun e w'=>∃A c D d,e=.returned (.agg ((ai (ln zs j)).cells (.slice A (ai (ln zs j)).att.cl.length c) (.slice D (ai (ln zs j)).att.pr.length d)))∧Below W.heap.size W w'):=aen fun j W=>(CO (ln zs j) W (aev (dh hL.sz j) (by decide))).mono fun e w'=>yE;have dm:Hid (∀j W,Calls prog 57 #[.string (ln zs j)] W fun e w'=>e=.returned (.bool (aF (ln zs j)))∧W=w'):=aen fun j W=>wS (ln zs j) W (aev (dh hL.sz j) (by decide));have jh:=aen fun (i:Nat) (hi:i<zs.length) (m:ag) (ho:lZ m) (A9:Option Addr) (n9 c9:Nat) (af:Option Addr) (n10 c10:Nat) (W:World) (h:aG W (some ⟨b,off,none⟩) zs MM)=>RJ zs (some ⟨b,off,none⟩) c i MM m A9 n9 c9 af n10 c10 W h hi hc hcm ho.off ho.rest;have Du:=aen fun i m h=>Rw rec zs i m h;have Dv:Hid (∀j,(ai (ln zs j)).kind=5∨(ai (ln zs j)).kind=6→lZ (ai (ln zs j))):=aen fun j h=>Gv (ln zs j) (dh hL.sz j) h;have HSame:Hid (∀(a b:ag),lZ a→b.off≤2000000→(b.kind=6→b.info.size≤1000000)→∀(A1 A2 A3 A4:Option Addr) (n1 c1 n2 c2 n3 c3 n4 c4:Nat) W,Calls prog 118 #[.agg (a.cells (.slice A1 n1 c1) (.slice A2 n2 c2)),.agg (b.cells (.slice A3 n3 c3) (.slice A4 n4 c4))] W fun e w'=>e=.returned (.bool (iL a b))∧Below W.heap.size W w'):=aen fun a b ha hb hi A1 A2 A3 A4 n1 c1 n2 c2 n3 c3 n4 c4 W=>Y2 a b A1 A2 A3 A4 n1 c1 n2 c2 n3 c3 n4 c4 W (aev ha.off (by decide)) hb hi;have gK:Hid (∀j,(ai (ln zs j)).off≤2000000∧((ai (ln zs j)).kind=6→(ai (ln zs j)).info.size≤1000000)):=aen fun j=>⟨by have h1:=(Dj (ln zs j)).2;have h2:=dh hL.sz j;omega,fun h6=>aev (KD _ h6) (aev (dh hL.sz j) (by decide))⟩;have Dw:Hid (PR=full.map (fun r=>(lW m r.1,r.2))):=aen (by rw[bU.out,if_pos (aeq hd2)]);clear hL hcell hR hdd bU;go_wp2_with fail;go_loopw [1] (fun v1 wr=>aaD rec zs lk ll full w v1 wr) (fun v1 _=>zs.length - (intOf v1).toNat);case atStart=>exact⟨i,m,A9,n9,c9,af,n10,c10,_,[],rfl,hi,qI.out,yQ.out,HW.out,aen (aX.nil _ _ _),Nat.zero_le _,dG.out⟩
 case round=>
  clear HW dG qI yQ hi d1;obtain⟨i',m',B9,e9,f9,rM,e10,f10,vK,its,rfl,hi',hok',Dx,eH,bZ,hit,oz⟩:=hrel;have qJ:=aen eH;have hbw:=eH.bel;have dU:=hbw.size;have hll:=eH.lst.lt;have kP:=aen (aS.out.below hbw);obtain⟨p0,p1,p2,p3,p4,p5,p6,p7,p8,p9,p10,x0,x1,x2,x3,x4,x5,x6,x7,x8,x9,x10⟩:=az eH.aP;have Gx:=aen fun W h=>jh.out i' hi' m' hok' B9 e9 f9 rM e10 f10 W h;have bH:=aen (Du.out i' m' hi');have hcb:=yG zs i' m' hi';have Lm:=aen hok';have Lp:=aen Dx;unfold yH ag.cells at Gx;obtain⟨AK,cK,rfl⟩:=bZ.out.own;clear jh Du eH Dx hok';generalize aQ zs i' m'=CL at *;obtain⟨inner,tt⟩:=CL;simp only[] at Gx bH hcb;go_wp2_with fail;with_reducible refine(Gx.out _ kP.out).mono ?_
  rintro e w1 ⟨⟨A1,c1,rfl,hc1,hc2,hLn⟩,b1⟩;have rO:=aen (gU.out inner A1 c1 w1 hLn hc1 hc2);have hz1':=b1.size;clear Gx hLn p0 p1 p2 p3 p4 p5 p6 p7 p8 p9 p10 x0 x1 x2 x3 x4 x5 x6 x7 x8 x9 x10;go_wp2_with fail;rw[kN.out];with_reducible refine(rO.out).mono ?_
  rintro e w2 ⟨hp,b2⟩;have b12:=b1.trans (b2.mono hz1');have jA:=b2.size;have nD:=aen (qJ.out.next b12);clear rO b1 b2;cases hrc:rec inner with
  |none=>
   rw[hrc] at hp;have HE:Hid (full=none):=aen (by rw[oz.out,bH.out,hrc];rfl);clear hrc bH oz b12;subst hp;unfold qG;obtain⟨k0,k1,k2,k3,k4,k5,k6,k7,k8,k9,k10,y0,y1,y2,y3,y4,y5,y6,y7,y8,y9,aj⟩:=ZB.facts nD.out.res;go_wp2_with fail;exact Gi (ax nD.out.res _ _ _ _ _ _ _ _ _ _ _) rfl rfl rfl rfl (rH (by rw[Dw.out,HE.out];rfl) ⟨_,_,_,_,_,_,_,_,_,_,_,_,_,_,_,_,_,_,_,rfl⟩ (au nD.out.bel (Nat.le_succ _) _ _ _ _ _ _ _ _ _ _ _))
  |some kids=>
   rw[hrc] at hp;rw[hrc] at bH;clear hrc;obtain⟨A5,c5,A6,n6,c6,rfl,hk⟩:=hp;have dB:=aen (Gs (kind:=9) (hk.low hz1'));obtain⟨S,vs,hS,hkk,hown⟩:=bZ.out;have hown2:=own_below hown b12;have hv7:=hown.lt;have HKK:=aen hkk;have ji:=aen hS;have rP:=aen b12;have hab:kL #[.int .i64 9,.int .i64 0,.string ⟨#[]⟩,.string ⟨#[]⟩,.string ⟨#[]⟩,.string ⟨#[]⟩,.string ⟨#[]⟩,.slice none 0 0,.slice none 0 0,.slice none 0 0,.slice A5 kids.length c5]:=⟨_,_,_,_,_,_,_,_,_,_,_,_,_,_,_,_,_,_,_,rfl⟩;obtain⟨k0,k1,k2,k3,k4,k5,k6,k7,k8,k9,k10,y0,y1,y2,y3,y4,y5,y6,y7,y8,y9,aj⟩:=nC nD.out.lst;have Dy:=nD.out.lst.lt;clear hk hkk hS hown bZ k0 k1 k2 k3 k4 k5 k6 k7 k8 k9 y0 y1 y2 y3 y4 y5 y6 y7 y8 y9 aj b12;go_wp2_with (at_builtin;refine wpList_append_lies _ rfl _ _ 25 rfl (w.heap.size+3) 46 i0 _ 11 192 Tryz.underlying25 hi0 hz0 hz1 hz2 rfl (by decide) _ _ _ rfl (hown2.alloc _) ⟨w2.heap.size,0,none⟩ 1 1 _ rfl hab.len ?c1 hab.one (by decide) ?c3 ?c4 ?c5 (w2.heap.size+1) ?c6 ?_);case c3=>unfold maxLen;omega
   case c4=>omega
   case c5=>simp;omega
   case c6=>simp
   intro g7 gm w3 hown3 hgrow hlies hlt3;have jJ:=aen (aX.push (E:=fun _=>False) ji.out HKK.out rP.out (fun k h=>(hv7 k h).2) (fun k h=>h.elim) (by omega) rP.out.size dB.out hown3 hgrow hlies (Nat.le_succ _));have oC:=aen (nD.out.grown hgrow (fun k e=>(hown2.lt k e).1));have nG:=aen (jJ.out.far (jo (vg w3 (some (w.heap.size+2))) 10 (.slice (some ⟨g7,0,none⟩) (its.length+1) gm)) (by omega));have jK:=aen (oC.out.store (v':=.slice (some ⟨g7,0,none⟩) (its.length+1) gm));obtain⟨k0,k1,k2,k3,k4,k5,k6,k7,k8,k9,k10,y0,y1,y2,y3,y4,y5,y6,y7,y8,y9,aj⟩:=nC oC.out.lst;have Dz:=oC.out.lst.lt;clear jJ nD hgrow hlies hown3 hown2 ji HKK rP dB hv7 hab k0 k1 k2 k3 k4 k5 k6 k7 k8 k9 y0 y1 y2 y3 y4 y5 y6 y7 y8 y9;go_upto_region 11 with fail
   generalize vT:w3.setCell _ _=W4;replace jK:Hid (LW w (m'.cells (.slice B9 e9 f9) (.slice rM e10 f10)) (dL lk ll (.slice (some ⟨g7,0,none⟩) (its.length+1) gm)) W4):=aen (by rw[←vT];exact jK.out);replace nG:Hid (aX W4 (w.heap.size+3) (fun _=>False) (.slice (some ⟨g7,0,none⟩) (its.length+1) gm) (its++[fe 9 kids])):=aen (by rw[←vT];exact nG.out);clear vT k10 aj Dz oC Dy;have yR:=jK.out.bel;have vz:=yR.size;have hn:=Dk zs tt hcb.2;have pJ:Hid (∀j,tt≤j→j≤zs.length→(∀k,tt≤k→k<j→aF (ln zs k)=true)→(j<zs.length→aF (ln zs j)=false)→dS zs tt=j):=aen fun j h1 h2 h3 h4=>rC _ _ _ _ h1 h2 (fun k a b=>by rw[h3 k a b];rfl) (fun h=>by rw[h4 h];rfl);go_upto_block 2 with fail
   go_cut [17] (fun Jz wx=>Jz=.int .i64 (dS zs tt)∧W4=wx);case first=>
    go_wp2_with fail;go_loop [17] (fun v17=>∃j:Nat,v17=.int .i64 j∧tt≤j∧j≤zs.length∧Hid (∀k,tt≤k→k<j→aF (ln zs k)=true)) (fun v=>zs.length - (intOf v).toNat);case atStart=>exact⟨tt,rfl,aeo _,hcb.2,aen fun k h1 h2=>absurd h2 (by omega)⟩
    case round=>
     obtain⟨j,rfl,hj1,hj,pK⟩:=hrel;by_cases hlt:j<zs.length
     ·have hc0:W4.cell? ⟨b,off+j,none⟩=some (.string (ln zs j)):=(yR.cell (p:=⟨b,off+j,none⟩) hb).trans (bQ.out j hlt);have HB1:=aen fun W=>dm.out j W;cases hbz:aF (ln zs j) with
      |true=>
       rw[hbz] at HB1;have HX:Hid (∀k,tt≤k→k<j+1→aF (ln zs k)=true):=aen fun k h1 h2=>by
        by_cases e:k=j
        ·rw[e];exact hbz
        ·exact pK.out k h1 (by omega)
       clear hbz dm pJ pK;go_wp2_with fail;with_reducible refine(HB1.out _).mono ?_
       rintro e w9 ⟨rfl,rfl⟩;go_wp2_with fail;go_round;case rel=>exact⟨j+1,by go_num,by omega,by omega,HX⟩
       case measure=>simp[intOf];omega
      |false=>
       rw[hbz] at HB1;have HX:=aen (pJ.out j hj1 hj pK.out (fun _=>hbz));clear hbz dm pJ pK;go_wp2_with fail;with_reducible refine(HB1.out _).mono ?_
       rintro e w9 ⟨rfl,rfl⟩;go_wp2_with fail;go_meet;exact⟨by rw[HX.out],rfl⟩
     ·have HX:=aen (pJ.out j hj1 hj pK.out (fun h=>absurd h hlt));clear dm pJ pK;go_wp2_with fail;go_meet;exact⟨by rw[HX.out],rfl⟩
   case rest=>
   obtain⟨rfl,rfl⟩:=hcut;clear pJ;generalize dS zs tt=nx at *;have HS2:Hid (jH rec zs i' m'=if nx<zs.length∧iL m' (ai (ln zs nx))=true then (jH rec zs nx (ai (ln zs nx))).map fun r=>(fe 9 kids :: r.1,r.2) else some ([fe 9 kids],tt)):=aen bH.out;clear bH;have hil:its.length+1≤nx:=by omega
   by_cases hlt:nx<zs.length
   ·have hc0:W4.cell? ⟨b,off+nx,none⟩=some (.string (ln zs nx)):=(yR.cell (p:=⟨b,off+nx,none⟩) hb).trans (bQ.out nx hlt);have rQ:=aen fun W=>HM.out nx W;have Ar:=aen (gK.out nx);have Au:=aen (Dv.out nx);clear HM gK Dv;generalize ai (ln zs nx)=mn at *;unfold ag.cells at rQ;go_wp2_with fail;with_reducible refine(rQ.out _).mono ?_
    rintro e w5 ⟨D1,d1,D2,d2,rfl,b5⟩;have nH:=aen (jK.out.next b5);have uu:=aen (nG.out.below b5);have aaF:=aen nH.out.lst.lt;have yS:=aen (ae.new w5 74 #[.int .i64 mn.kind,.int .i64 mn.n,.string mn.ch,.int .i64 mn.off,.string mn.info,.string mn.rest,.string mn.dest,.string mn.title,.string mn.att.id,.slice D1 mn.att.cl.length d1,.slice D2 mn.att.pr.length d2]);have rU:=aen (nH.out.next ((aer _ w5).alloc (aeo _) (.cells #[.int .i64 mn.kind,.int .i64 mn.n,.string mn.ch,.int .i64 mn.off,.string mn.info,.string mn.rest,.string mn.dest,.string mn.title,.string mn.att.id,.slice D1 mn.att.cl.length d1,.slice D2 mn.att.pr.length d2] 74)));have yT:=aen (uu.out.below ((aer _ w5).alloc (aeo _) (.cells #[.int .i64 mn.kind,.int .i64 mn.n,.string mn.ch,.int .i64 mn.off,.string mn.info,.string mn.rest,.string mn.dest,.string mn.title,.string mn.att.id,.slice D1 mn.att.cl.length d1,.slice D2 mn.att.pr.length d2] 74)));have xw:=aen fun W=>HSame.out m' mn Lm.out Ar.out.1 Ar.out.2 B9 rM D1 D2 e9 f9 e10 f10 mn.att.cl.length d1 mn.att.pr.length d2 W;unfold ag.cells at xw;clear HSame rQ b5 nH uu jK nG;go_upto_region 17 with fail
    generalize DC:w5.alloc _=W6;replace yS:Hid (ae W6 w5.heap.size 74 #[.int .i64 mn.kind,.int .i64 mn.n,.string mn.ch,.int .i64 mn.off,.string mn.info,.string mn.rest,.string mn.dest,.string mn.title,.string mn.att.id,.slice D1 mn.att.cl.length d1,.slice D2 mn.att.pr.length d2]):=aen (by rw[←DC];exact yS.out);replace rU:Hid (LW w (m'.cells (.slice B9 e9 f9) (.slice rM e10 f10)) (dL lk ll (.slice (some ⟨g7,0,none⟩) (its.length+1) gm)) W6):=aen (by rw[←DC];exact rU.out);replace yT:Hid (aX W6 (w.heap.size+3) (fun _=>False) (.slice (some ⟨g7,0,none⟩) (its.length+1) gm) (its++[fe 9 kids])):=aen (by rw[←DC];exact yT.out);have ad2:w.heap.size+2<w5.heap.size:=by
     have h1:=rU.out.lst.lt;have h2:W6.heap.size=w5.heap.size+1:=by rw[←DC];simp
     have h3:=yS.out.lt;have h4:=aaF.out;omega
    clear DC;generalize w5.heap.size=g5 at *;obtain⟨p0,p1,p2,p3,p4,p5,p6,p7,p8,p9,p10,x0,x1,x2,x3,x4,x5,x6,x7,x8,x9,x10⟩:=az rU.out.aP;obtain⟨q0,q1,q2,q3,q4,q5,q6,q7,q8,q9,q10,r0,r1,r2,r3,r4,r5,r6,r7,r8,r9,r10⟩:=az yS.out;clear x0 x1 x2 x3 x4 x5 x6 x7 x8 x9 x10 r0 r1 r2 r3 r4 r5 r6 r7 r8 r9 r10;go_wp2_with fail;with_reducible refine(xw.out _).mono ?_
    rintro e w7 ⟨rfl,b7⟩;have nI:=aen (rU.out.next b7);have DD:=aen (yT.out.below b7);have aaG:=aen (yS.out.below b7 yS.out.lt);clear rU yT yS b7 xw p0 p1 p2 p3 p4 p5 p6 p7 p8 p9 p10 q0 q1 q2 q3 q4 q5 q6 q7 q8 q9 q10;cases hsm:iL m' mn with
    |true=>
     have hkk:=Sr hsm;have Gy:Hid (full=(jH rec zs nx mn).map fun r=>((its++[fe 9 kids])++r.1,r.2)):=aen (by
      rw[oz.out,HS2.out,if_pos ⟨hlt,hsm⟩];cases jH rec zs nx mn with
      |none=>rfl
      |some q=>simp)
     have DF:Hid (mn.kind=5∨mn.kind=6):=aen (by rw[←hkk];exact Lp.out);have Ae:=aen (Au.out DF.out);obtain⟨p0,p1,p2,p3,p4,p5,p6,p7,p8,p9,p10,x0,x1,x2,x3,x4,x5,x6,x7,x8,x9,x10⟩:=az nI.out.aP;obtain⟨q0,q1,q2,q3,q4,q5,q6,q7,q8,q9,q10,r0,r1,r2,r3,r4,r5,r6,r7,r8,r9,r10⟩:=az aaG.out;have hml:=nI.out.aP.lt;have HG:=aen (ae.lt nI.out.res);clear hsm hkk HS2 oz r0 r1 r2 r3 r4 r5 r6 r7 r8 r9 r10;go_wp2_with fail;go_region;all_goals
      go_wp2_with fail;refine⟨⟨nx,mn,D1,_,d1,D2,_,d2,_,its++[fe 9 kids],rfl,hlt,Ae.out,DF.out,nI.out.mark _ _ _ _ _ _ _ _ _ _ _,aen ((aX.far DD.out (aV _ _ _ _ _ _ _ _ _ _ _ _ _) (by omega)).below (below_drewN (aer _ _) 1)),by simp;omega,Gy.out⟩,by simp[intOf];omega⟩
    |false=>
     have lC:Hid (full=some (its++[fe 9 kids],tt)):=aen (by
      rw[oz.out,HS2.out,if_neg (fun h=>by rw[hsm] at h;exact Bool.false_ne_true h.2)];rfl)
     obtain⟨k0,k1,k2,k3,k4,k5,k6,k7,k8,k9,k10,y0,y1,y2,y3,y4,y5,y6,y7,y8,y9,aj⟩:=ZB.facts nI.out.res;obtain⟨l0,l1,l2,l3,l4,l5,l6,l7,l8,l9,l10,j0,j1,j2,j3,j4,j5,j6,j7,j8,j9,j10⟩:=nC nI.out.lst;clear hsm HS2 oz j0 j1 j2 j3 j4 j5 j6 j7 j8 j9 j10;go_wp2_with fail;exact Gi (ax nI.out.res _ _ _ _ _ _ _ _ _ _ _) rfl rfl rfl rfl (kM (by rw[Dw.out,lC.out];show some (lW m _,tt)=_;rw[Dt.out]) (iq (att:=ak) (aW.empty _ _ _ _) (jg _ _) ((aX.kids (DD.out.far (aV _ _ _ _ _ _ _ _ _ _ _ _ _) (by omega))).low (by omega))) (au nI.out.bel (Nat.le_succ _) _ _ _ _ _ _ _ _ _ _ _))
   ·have lC:Hid (full=some (its++[fe 9 kids],tt)):=aen (by
     rw[oz.out,HS2.out,if_neg (fun h=>hlt h.1)];rfl)
    obtain⟨k0,k1,k2,k3,k4,k5,k6,k7,k8,k9,k10,y0,y1,y2,y3,y4,y5,y6,y7,y8,y9,aj⟩:=ZB.facts jK.out.res;obtain⟨l0,l1,l2,l3,l4,l5,l6,l7,l8,l9,l10,j0,j1,j2,j3,j4,j5,j6,j7,j8,j9,j10⟩:=nC jK.out.lst;clear HS2 oz j0 j1 j2 j3 j4 j5 j6 j7 j8 j9 j10;go_wp2_with fail;exact Gi (ax jK.out.res _ _ _ _ _ _ _ _ _ _ _) rfl rfl rfl rfl (kM (by rw[Dw.out,lC.out];show some (lW m _,tt)=_;rw[Dt.out]) (iq (att:=ak) (aW.empty _ _ _ _) (jg _ _) ((aX.kids (nG.out.far (aV _ _ _ _ _ _ _ _ _ _ _ _ _) (by omega))).low (by omega))) (au jK.out.bel (Nat.le_succ _) _ _ _ _ _ _ _ _ _ _ _))
def dV(zs:List ByteArray)(i k:Nat):List ByteArray:=(bz zs i k).map fun z=>mk (trimS (bytesL z))
theorem Ss(zs:List ByteArray)(i k:Nat)(h:i≤k)(hk:k<zs.length):strs (dV zs i (k+1))=strs (dV zs i k)++[.string (mk (trimS (bytesL (ln zs k))))]:=by
 unfold dV strs;rw[Gt zs i k h hk,List.map_append,List.map_append];rfl
theorem Lr(zs:List ByteArray)(i k:Nat)(h:i≤k)(hk:k≤zs.length):(dV zs i k).length=k - i:=by unfold dV;rw[List.length_map,jE _ _ _ h hk]
theorem own_drewN{w:World}{base size n:Nat}{e:TypeId}{v:Value}{xs:List Value}(h:w.ownsRow base e size v n xs)(k:Nat):(w.drewN k).ownsRow base e size v n xs:=h
theorem pM{w:World}{S:Nat→Prop}{v:Value}{s:ByteArray}(h:ik w S v s):∃A n c,v=.slice A n c:=by
 unfold ik at h;by_cases hz:s.size=0
 ·rw[if_pos hz] at h;exact⟨_,_,_,h⟩
 ·rw[if_neg hz] at h;obtain⟨A,c,e,_⟩:=h;exact⟨_,_,_,e⟩
theorem DI{w w':World}{B B' g:Nat}{v:Value}{s:ByteArray}(h:ik w (Rg B w) v s)(hg:w.grownBy w' (some g))(hlt:g<B)(hB:B'≤B):ik w' (Rg B' w') v s:=
 h.keep (fun x hx=>hg.block x hx.2 fun e=>by injection e with e;have:=hx.1;omega) fun x hx=>⟨by have:=hx.1;omega,aeA hx.2 hg.size⟩
theorem DJ{w:World}{S:Nat→Prop}{kind:Nat}{line:ByteArray}{vL:Value}(hl:ik w S vL line):dw w S #[.int .i64 kind,.int .i64 (0:Nat),.string ⟨#[]⟩,.string ⟨#[]⟩,.string ⟨#[]⟩,.string ⟨#[]⟩,.string ⟨#[]⟩,.slice none 0 0,.slice none 0 0,vL,.slice none 0 0] (jV kind line):=
 iq (att:=ak) (aW.empty _ _ _ _) hl (bP.none_ _ _)
def oD(zs:List ByteArray)(j:Nat):Bool:=!decide (kindOf zs j=0)||gZ zs j
theorem Su(zs:List ByteArray)(i:Nat)(hi:i<zs.length):i+1≤ig zs i∧ig zs i≤zs.length:=by
 have:=mZ (oD zs) zs.length (i+1) (by omega);exact⟨this.1,this.2.1⟩
theorem Sv(zs:List ByteArray)(i k:Nat)(hM:∀z∈zs,z.size≤100000):∀z∈dV zs i k,z.size≤100000:=by
 intro z hz;unfold dV at hz;obtain⟨y,hy,rfl⟩:=List.mem_map.1 hz;rw[mk_size];have h1:=pY (bytesL y);rw[bytesL_length] at h1;exact aev h1 (hM y (Gp hy))
def aaH(zs:List ByteArray)(i:Nat)(w:World)(v6 v7:Value)(wr:World):Prop:=
 ∃k:Nat,v7=.int .i64 k∧i+1≤k∧k≤zs.length∧wr.ownsRow (w.heap.size+1) 9 1 v6 (k - i) (strs (dV zs i k))∧ZB wr w.heap.size∧Below w.heap.size w wr∧Hid (∀j,i+1≤j→j<k→oD zs j=false)
theorem Gz(i0 i1:Int)(s2:ByteArray)(i3:Int)(s4 s5 s6 s7 s8:ByteArray)(v9 v10:Value)(W:World):(Instr.field 74 (.agg #[.int .i64 i0,.int .i64 i1,.string s2,.int .i64 i3,.string s4,.string s5,.string s6,.string s7,.string s8,v9,v10]) 0).run prog W=.ok (.int .i64 i0) W:=by kernel_rfl
theorem aaI(zs:List ByteArray)(A:Option Addr)(c i B:Nat)(MM:Int)(w:World)(hL:aG w A zs MM)(hi:i<zs.length)(hB:B≤w.heap.size) :
 Calls prog 79 #[.slice A zs.length c,.int .i64 i] w fun e w'=>(∃v,e=.returned (.tuple #[.agg v,.int .i64 (ig zs i)])∧dw w' (Rg B w') v (qE zs i))∧Below w.heap.size w w':=by
 obtain⟨i0,hi0,hz0,hz1,hz2⟩:=info_parts ru;have hlen:=hL.len;obtain⟨b,off,rfl,hb,hcell⟩:=hL.get (by omega);have bQ:=aen hcell;have aS:=aen hL;have HM:Hid (∀j W,Calls prog 38 #[.string (ln zs j)] W fun e w'=>∃A c D d,e=.returned (.agg ((ai (ln zs j)).cells (.slice A (ai (ln zs j)).att.cl.length c) (.slice D (ai (ln zs j)).att.pr.length d)))∧Below W.heap.size W w'):=aen fun j W=>(CO (ln zs j) W (aev (dh hL.sz j) (by decide))).mono fun e w'=>yE;have dZ:Hid (∀j W,Calls prog 105 #[.string (ln zs j)] W fun e w'=>e=.returned (.string (mk (trimS (bytesL (ln zs j)))))∧W=w'):=aen fun j W=>uT (ln zs j) W (aev (dh hL.sz j) (by decide));have uw:Hid (∀j W,W.cell? ⟨0,0,none⟩=some (.int .i64 MM)→Calls prog 77 #[.string (ln zs j),.string (ln zs (j+1))] W fun e w'=>e=.returned (.bool (headB (bytesL (ln zs j)) (bytesL (ln zs (j+1)))))∧Below W.heap.size W w'):=aen fun j W h=>Ku (ln zs j) (ln zs (j+1)) MM W (aev (dh hL.sz j) (by decide)) (aev (dh hL.sz _) (by decide)) h;have HZ0:=aen (ae.new w 46 fA);unfold fA at HZ0;have HB0:Hid (∀o,Below w.heap.size w (w.alloc o)):=aen fun o=>(aer _ w).alloc (aeo _) _;have tN:Hid (strs (dV zs i (i+1))=[.string (mk (trimS (bytesL (ln zs i))))]):=aen (by rw[Ss zs i i (aeo _) hi,show strs (dV zs i i)=[] by unfold dV bz strs;simp];rfl);have GG:=aen fun k=>Ss zs i k;have bH:Hid (∀k,i+1≤k→k≤zs.length→(∀j,i+1≤j→j<k→oD zs j=false)→(k<zs.length→oD zs k=true)→ig zs i=k):=aen fun k h1 h2 h3 h4=>rC _ _ _ _ h1 h2 h3 h4;have hT0:=hcell i hi;have HT0:=aen fun W=>dZ.out i W;have HF:=aen Gz;have hpb:=Su zs i hi;have qH:=aen (Sv zs i (ig zs i) hL.sz);have Aw:=aen (Lr zs i (ig zs i) (by omega) hpb.2);clear hL hcell;generalize mk (trimS (bytesL (ln zs i)))=y0 at *;generalize hzi:ln zs i=zi at hT0 HT0;clear hzi;have Sz:∀o,(w.alloc o).cell? ⟨b,off+i,none⟩=some (.string zi):=fun o=>((HB0.out o).cell (p:=⟨b,off+i,none⟩) hb).trans hT0;have SA:=aen (Sz (.cells #[.int .i64 0,.int .i64 0,.string ⟨#[]⟩,.string ⟨#[]⟩,.string ⟨#[]⟩,.string ⟨#[]⟩,.string ⟨#[]⟩,.slice none 0 0,.slice none 0 0,.slice none 0 0,.slice none 0 0] 46));clear Sz hT0;have hc1:=SA.out;go_enter Tryz.func79,Tryz.ntmps79;go_wp2_with fail;with_reducible refine(HT0.out _).mono ?_
 rintro e w1 ⟨rfl,rfl⟩;clear hc1 SA HT0;go_upto_block 0 with fail
 go_cut [6,7] (fun s6 s7 wx=>s7=.int .i64 (ig zs i)∧wx.ownsRow (w.heap.size+1) 9 1 s6 (ig zs i - i) (strs (dV zs i (ig zs i)))∧ZB wx w.heap.size∧Below w.heap.size w wx);case first=>
  go_wp2_with fail;go_loopw [6,7] (fun v6 v7 wr=>aaH zs i w v6 v7 wr) (fun _ v7 _=>zs.length - (intOf v7).toNat);case atStart=>
   refine⟨i+1,by go_num,aeo _,by omega,?_,ae.alloc HZ0.out _,(HB0.out _).alloc (by simp) _,aen fun j h1 h2=>absurd h2 (by omega)⟩;rw[tN.out,show i+1 - i=1 by omega];have h:=World.ownsRow_lit (base:=w.heap.size+1) (size:=1) (e:=9) (w.alloc (.cells #[.int .i64 0,.int .i64 0,.string ⟨#[]⟩,.string ⟨#[]⟩,.string ⟨#[]⟩,.string ⟨#[]⟩,.string ⟨#[]⟩,.slice none 0 0,.slice none 0 0,.slice none 0 0,.slice none 0 0] 46)) #[.string y0] 1 (by simp) (by decide) rfl;simp only[sZ] at h;exact h
  case round=>
   clear HZ0 HB0 tN;obtain⟨k,rfl,hk1,hk,hown,hZ,hbw,Hno⟩:=hrel;have dU:=hbw.size;have hzl:=ae.lt hZ;have aU:=aen hZ;have HOr:=aen hown;have HT:Hid ((k<zs.length→oD zs k=true)→ig zs i=k):=aen (bH.out k hk1 hk Hno.out);by_cases hlt:k<zs.length
   ·have hc0:wr.cell? ⟨b,off+k,none⟩=some (.string (ln zs k)):=(hbw.cell (p:=⟨b,off+k,none⟩) hb).trans (bQ.out k hlt);have lX:=aen fun W=>HM.out k W;have HE:=aen (GG.out k (by omega) hlt);have hkk:Hid (kindOf zs k=(ai (ln zs k)).kind):=aen rfl;have hsp:Hid (oD zs k=(!decide (kindOf zs k=0)||gZ zs k)):=aen rfl;have hhd:Hid (gZ zs k=(decide (k+1<zs.length)&&headB (bytesL (ln zs k)) (bytesL (ln zs (k+1))))):=aen rfl;have Az:=aen fun W=>dZ.out k W;have GH:=aen fun W=>uw.out k W;clear HM hZ dZ uw bH GG hown;generalize ai (ln zs k)=m at *;unfold ag.cells at lX;by_cases h0:m.kind=0
    ·have z1:(((m.kind:Nat):Int)==0)=true:=kT (by omega);have z2:((m.kind:Nat)==0)=true:=by rw[beq_iff_eq];exact h0
     have hfd:=HF.out;generalize hyk:mk (trimS (bytesL (ln zs k)))=yk at *;clear hyk;by_cases hk2:k+1<zs.length
     ·have d1:decide ((k:Int)+1<(zs.length:Int))=true:=aeq (by omega);have d2:decide (k+1<zs.length)=true:=aeq hk2;have SB:Hid (gZ zs k=headB (bytesL (ln zs k)) (bytesL (ln zs (k+1)))):=aen (by rw[hhd.out,d2];rfl);have hsp2:Hid (oD zs k=headB (bytesL (ln zs k)) (bytesL (ln zs (k+1)))):=aen (by rw[hsp.out,hkk.out,aeq h0,SB.out];rfl);have hc2:w.cell? ⟨b,off+(k+1),none⟩=some (.string (ln zs (k+1))):=bQ.out (k+1) hk2;have HC2:=aen hc2;clear hsp hhd SB hkk h0 hc2 HF;go_wp2_with fail;with_reducible refine(lX.out _).mono ?_
      rintro e w2 ⟨A1,c1,A2,c2,rfl,b1⟩;have hz1':=b1.size;have qK:=aen (own_below HOr.out b1);have uy:=aen (aU.out.below (w:=w) b1);have eP:=aen (hbw.trans (b1.mono dU));have SC:=aen (aS.out.below eP.out);have AA:Hid (∀W,Below w2.heap.size w2 W→Calls prog 77 #[.string (ln zs k),.string (ln zs (k+1))] W fun e w'=>e=.returned (.bool (headB (bytesL (ln zs k)) (bytesL (ln zs (k+1)))))∧Below W.heap.size W w'):=aen fun W h=>GH.out W (SC.out.below h).cell;have nJ:=aen (aer w2.heap.size w2);have bu:Hid (∀W,Below w2.heap.size w2 W→(W.cell? ⟨b,off+k,none⟩=some (.string (ln zs k))∧W.cell? ⟨b,off+(k+1),none⟩=some (.string (ln zs (k+1)))∧Below w2.heap.size w2 W)):=aen fun W h=>
       ⟨((eP.out.trans (h.mono eP.out.size)).cell (p:=⟨b,off+k,none⟩) hb).trans (bQ.out k hlt),((eP.out.trans (h.mono eP.out.size)).cell (p:=⟨b,off+(k+1),none⟩) hb).trans HC2.out,h⟩
      clear b1 GH SC HC2 hc0;have s9:=bu.out _ nJ.out;generalize headB (bytesL (ln zs k)) (bytesL (ln zs (k+1)))=hd at *;generalize ln zs (k+1)=AB at *;generalize ln zs k=zk at *;obtain⟨s90,s91,s92⟩:=s9;go_wp2_with fail;have hi1:(0:Int)≤(k:Int)+1:=by omega
      have hi2:(k:Int)+1<(zs.length:Int):=by omega
      have hi3:((k:Int)+1).toNat=k+1:=by omega
      have hw1:IntKind.i64.wrap ((k:Int)+1)=(k:Int)+1:=IntWalk.i64_in _ (by omega);refine wp_region_held_drew (S:=fun W'=>W'.cell? ⟨b,off+k,none⟩=some (.string zk)∧W'.cell? ⟨b,off+(k+1),none⟩=some (.string AB)∧Below w2.heap.size w2 W') (by kernel_rfl) (bu.out _ nJ.out.drew) (fun hHeld=>?_);refine tk 0 (.int .i64 k) rfl hHeld (fun W' hSw=>?_) ?_
      ·obtain⟨h0,h1,h2⟩:=hSw;go_simp
      refine tk 1 (.int .i64 ((k:Int)+1)) rfl hHeld (fun W' hSw=>?_) ?_
      ·obtain⟨h0,h1,h2⟩:=hSw;go_simp
      refine tk 2 (.slice (some ⟨b,off,none⟩) zs.length c) rfl hHeld (fun W' hSw=>?_) ?_
      ·obtain⟨h0,h1,h2⟩:=hSw;go_simp
      refine tk 3 (.int .i64 zs.length) rfl hHeld (fun W' hSw=>?_) ?_
      ·obtain⟨h0,h1,h2⟩:=hSw;go_simp
      refine tk 4 (.bool true) rfl hHeld (fun W' hSw=>?_) ?_
      ·obtain⟨h0,h1,h2⟩:=hSw;go_simp
      refine tk 5 (.bool true) rfl hHeld (fun W' hSw=>?_) ?_
      ·obtain⟨h0,h1,h2⟩:=hSw;go_simp
      refine tk 6 (.slice (some ⟨b,off,none⟩) zs.length c) rfl hHeld (fun W' hSw=>?_) ?_
      ·obtain⟨h0,h1,h2⟩:=hSw;go_simp
      refine tk 7 (.int .i64 k) rfl hHeld (fun W' hSw=>?_) ?_
      ·obtain⟨h0,h1,h2⟩:=hSw;go_simp
      refine tk 8 (.pointer (some ⟨b,off+k,none⟩)) rfl hHeld (fun W' hSw=>?_) ?_
      ·obtain⟨h0,h1,h2⟩:=hSw;go_simp
      refine tk 9 (.string zk) rfl hHeld (fun W' hSw=>?_) ?_
      ·obtain⟨h0,h1,h2⟩:=hSw;go_simp
      refine tk 10 (.slice (some ⟨b,off,none⟩) zs.length c) rfl hHeld (fun W' hSw=>?_) ?_
      ·obtain⟨h0,h1,h2⟩:=hSw;go_simp
      refine tk 11 (.int .i64 k) rfl hHeld (fun W' hSw=>?_) ?_
      ·obtain⟨h0,h1,h2⟩:=hSw;go_simp
      refine tk 12 (.int .i64 ((k:Int)+1)) rfl hHeld (fun W' hSw=>?_) ?_
      ·obtain⟨h0,h1,h2⟩:=hSw;go_simp
      refine tk 13 (.pointer (some ⟨b,off+(k+1),none⟩)) rfl hHeld (fun W' hSw=>?_) ?_
      ·obtain⟨h0,h1,h2⟩:=hSw;go_simp
      refine tk 14 (.string AB) rfl hHeld (fun W' hSw=>?_) ?_
      ·obtain⟨h0,h1,h2⟩:=hSw;go_simp
      refine aC 15 rfl (fun K hK=>?_);go_simp;with_reducible refine(AA.out _ nJ.out.drew).mono ?_
      rintro e W9 ⟨rfl,b8⟩;have b9:Below w2.heap.size w2 W9:=nJ.out.drew.trans b8;go_simp;refine hK.out _ _ (bu.out _ b9) (fun hHeld=>?_);clear hK K;refine aC 16 rfl (fun K hK=>?_);go_simp;refine hK.out _ _ (hHeld) (fun _=>?_);clear hK K;refine wpAnyH_done (by kernel_rfl) ?_ _;all_goals
       cases hd with
       |true=>
        have HQ:=aen (HT.out fun _=>hsp2.out);clear HT hsp2 HE Az Hno;go_wp2_with fail;go_meet;rw[HQ.out];exact⟨rfl,own_below qK.out b9,uy.out.below (w:=w) b9,eP.out.trans (b9.mono eP.out.size)⟩
       |false=>
        have gQ:Hid (∀j,i+1≤j→j<k+1→oD zs j=false):=aen fun j h1 h2=>by
         by_cases e:j=k
         ·rw[e];exact hsp2.out
         ·exact Hno.out j h1 (by omega)
        clear HT hsp2 Hno;replace qK:=aen (own_below qK.out b9);replace uy:=aen (uy.out.below (w:=w) b9);replace eP:=aen (eP.out.trans (b9.mono eP.out.size));obtain⟨t90,t91,t92⟩:=bu.out _ b9;clear s90 s91 s92 t91 t92 bu nJ AA;go_wp2_with fail;with_reducible refine(Az.out _).mono ?_
        rintro e w5 ⟨rfl,rfl⟩;go_wp2_with (at_builtin;refine wpList_append_own _ rfl _ _ 22 rfl (w.heap.size+1) 9 i0 _ 1 16 Tryz.underlying22 hi0 hz0 hz1 hz2 rfl (by decide) _ _ _ rfl (qK.out.alloc _) ⟨W9.heap.size,0,none⟩ 1 1 [.string yk] rfl rfl ?c1 ?c2 ?c3 ?c4 ?c5 ?_);case c1=>
         intro j u hj;match j,hj with
         |0,hj=>simp at hj;subst hj;simp[Addr.add]
        case c2=>intro u hu;simp at hu;subst hu;rfl
        case c3=>unfold maxLen;omega
        case c4=>omega
        case c5=>have:=eP.out.size;have:=uy.out.lt;simp;omega
        intro v' w6 hown3 hgrow _;have nZ:Hid (ZB w6 w.heap.size):=aen (ae.grown (ae.alloc uy.out _) hgrow (fun e=>by have:=(qK.out.lt _ e.symm).1;omega));have qp:Hid (Below w.heap.size w w6):=aen ((eP.out.alloc eP.out.size _).grown hgrow (by simp;exact Nat.le_succ_of_le eP.out.size) (fun g hg=>by have:=(qK.out.lt g hg).1;omega));clear hgrow;go_wp2_with fail;go_roundw;case rel=>exact⟨k+1,by go_num,by omega,by omega,by rw[show k+1 - i=k - i+1 by omega,HE.out];exact hown3,nZ.out,qp.out,gQ⟩
        case measure=>simp[intOf];omega
     ·have d1:decide ((k:Int)+1<(zs.length:Int))=false:=aep (by omega);have d2:decide (k+1<zs.length)=false:=aep hk2;have gQ:Hid (∀j,i+1≤j→j<k+1→oD zs j=false):=aen fun j h1 h2=>by
       by_cases e:j=k
       ·rw[e,hsp.out,hkk.out,aeq h0,hhd.out,d2];rfl
       ·exact Hno.out j h1 (by omega)
      clear hsp hhd hkk h0 HF HT Hno GH;go_wp2_with fail;with_reducible refine(lX.out _).mono ?_
      rintro e w2 ⟨A1,c1,A2,c2,rfl,b1⟩;have hz1':=b1.size;have qK:=aen (own_below HOr.out b1);have uy:=aen (aU.out.below (w:=w) b1);have eP:=aen (hbw.trans (b1.mono dU));have hc3:w2.cell? ⟨b,off+k,none⟩=some (.string (ln zs k)):=(eP.out.cell (p:=⟨b,off+k,none⟩) hb).trans (bQ.out k hlt);clear b1 hc0;generalize ln zs k=zk at *;go_wp2_with fail;go_quiet (fail);replace qK:=aen (own_drewN qK.out nq);replace uy:Hid (ZB (w2.drewN nq) w.heap.size):=aen uy.out;replace eP:=aen (below_drewN eP.out nq);replace hc3:(w2.drewN nq).cell? ⟨b,off+k,none⟩=some (.string zk):=hc3;generalize w2.drewN nq=W5 at *;go_wp2_with fail;with_reducible refine(Az.out _).mono ?_
      rintro e w5 ⟨rfl,rfl⟩;go_wp2_with (at_builtin;refine wpList_append_own _ rfl _ _ 22 rfl (w.heap.size+1) 9 i0 _ 1 16 Tryz.underlying22 hi0 hz0 hz1 hz2 rfl (by decide) _ _ _ rfl (qK.out.alloc _) ⟨W5.heap.size,0,none⟩ 1 1 [.string yk] rfl rfl ?c1 ?c2 ?c3 ?c4 ?c5 ?_);case c1=>
       intro j u hj;match j,hj with
       |0,hj=>simp at hj;subst hj;simp[Addr.add]
      case c2=>intro u hu;simp at hu;subst hu;rfl
      case c3=>unfold maxLen;omega
      case c4=>omega
      case c5=>have:=eP.out.size;have:=uy.out.lt;simp;omega
      intro v' w6 hown3 hgrow _;have nZ:Hid (ZB w6 w.heap.size):=aen (ae.grown (ae.alloc uy.out _) hgrow (fun e=>by have:=(qK.out.lt _ e.symm).1;omega));have qp:Hid (Below w.heap.size w w6):=aen ((eP.out.alloc eP.out.size _).grown hgrow (by simp;exact Nat.le_succ_of_le eP.out.size) (fun g hg=>by have:=(qK.out.lt g hg).1;omega));clear hgrow;go_wp2_with fail;go_roundw;case rel=>exact⟨k+1,by go_num,by omega,by omega,by rw[show k+1 - i=k - i+1 by omega,HE.out];exact hown3,nZ.out,qp.out,gQ⟩
      case measure=>simp[intOf];omega
    ·have z1:(((m.kind:Nat):Int)==0)=false:=kF (by omega);have z2:((m.kind:Nat)==0)=false:=by rw[aes];exact h0
     have HQ:=aen (HT.out fun _=>by rw[hsp.out,hkk.out,aep h0];rfl);clear h0 hkk HT hsp hhd HE Az GH Hno;have hfd:=HF.out;go_wp2_with fail;with_reducible refine(lX.out _).mono ?_
     rintro e w2 ⟨A1,c1,A2,c2,rfl,b1⟩;have hz1':=b1.size;go_wp2_with fail;go_meet;rw[HQ.out];exact⟨rfl,own_below HOr.out b1,aU.out.below (w:=w) b1,hbw.trans (b1.mono dU)⟩
   ·have HQ:=aen (HT.out fun h=>absurd h hlt);clear HM hZ HT Hno hown dZ uw bH GG;go_wp2_with fail;go_meet;rw[HQ.out];exact⟨rfl,HOr.out,aU.out,hbw⟩
 case rest=>
 obtain⟨rfl,hown,hZ,hbw⟩:=hcut;have dU:=hbw.size;have hzl:=ae.lt hZ;have aU:=aen hZ;obtain⟨A9,c9,rfl,hc1,hc2⟩:=Aq hown;have HJ:=aen (ZZ (dV zs i (ig zs i)) A9 c9 wc.heap.size ⟨#[10]⟩ wc (by rw[Aw.out];exact Reads.of_own hown) (aeo _) (by rw[Aw.out];exact hc1) (by rw[Aw.out];omega) (aev (Kv 100000 _ qH.out) (by rw[Aw.out];exact aev (Nat.mul_le_mul_right _ (by omega:ig zs i - i≤10000)) (by decide))) (by decide) (by decide));rw[Aw.out] at HJ;have yU:Hid (qE zs i=jV 1 (mk (joinL ⟨#[10]⟩ (dV zs i (ig zs i))))):=aen rfl;have fU:=aen fun W=>KX (mk (joinL ⟨#[10]⟩ (dV zs i (ig zs i)))) W;clear hown hZ HZ0 HB0 tN GG bH HF HM dZ uw qH Aw;generalize mk (joinL ⟨#[10]⟩ (dV zs i (ig zs i)))=X at *;go_wp2_with fail;with_reducible refine(HJ.out).mono ?_
 rintro e w2 ⟨rfl,b2⟩;have HZ2:=aen (aU.out.below (w:=w) b2);have HB2:=aen (hbw.trans (b2.mono dU));have jA:=b2.size;clear b2 HJ;go_wp2_with fail;with_reducible refine(fU.out _).mono ?_
 rintro e w3 ⟨v,rfl,hsrc,b3⟩;obtain⟨Av,nv,cv,rfl⟩:=pM hsrc;have HZ3:=aen (HZ2.out.below (w:=w) b3);have HB3:=aen (HB2.out.trans (b3.mono HB2.out.size));have DK:=aen hsrc;obtain⟨k0,k1,k2,k3,k4,k5,k6,k7,k8,k9,k10,x0,x1,x2,x3,x4,x5,x6,x7,x8,x9,x10⟩:=ZB.facts HZ3.out;clear hsrc b3 fU;go_wp2_with fail;refine aao (ax HZ3.out _ _ _ _ _ _ _ _ _ _ _) rfl rfl rfl ⟨⟨_,rfl,?_⟩,au HB3.out (aeo _) _ _ _ _ _ _ _ _ _ _ _⟩;rw[yU.out];exact DJ (DI DK.out (aV _ _ _ _ _ _ _ _ _ _ _ _ _) (by omega) (by omega))
end Go.Proofs.YtpoafhgbhnblmaaGreatDoor
