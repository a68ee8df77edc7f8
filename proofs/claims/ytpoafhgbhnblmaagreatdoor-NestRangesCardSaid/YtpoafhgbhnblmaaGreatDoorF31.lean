import Derived.Test.YtpoafhgbhnblmaaGreatDoorF30
set_option linter.unusedVariables false
set_option linter.unusedSimpArgs false
set_option maxRecDepth 100000
set_option maxHeartbeats 20000000
namespace Go.Proofs.YtpoafhgbhnblmaaGreatDoor
open Go.Proofs.Tryz (prog)
open Go.RowKit
def MP(zs:List ByteArray)(i:Nat)(m:ag)(MK:Array Value)(w:World)(v11 v12:Value)(wr:World):Prop:=
 ∃k:Nat,v12=.int .i64 ((i+1+k:Nat):Int)∧i+1+k≤gy zs i m∧wr.ownsRow (w.heap.size+1) 9 1 v11 (k+1) (strs (takeC zs i m k))∧jf w MK wr
theorem Uf(zs:List ByteArray)(A:Option Addr)(c i:Nat)(MM:Int)(m:ag)(A9:Option Addr)(n9 c9:Nat)(af:Option Addr)(n10 c10:Nat)(w:World)(hL:aG w A zs MM)(hi:i<zs.length)(hc:zs.length≤c)(hcm:c≤maxLen)(ho:m.off≤1000000)(hr:m.rest.size≤100000) :
 Calls prog 86 #[.slice A zs.length c,.int .i64 i,.agg (m.cells (.slice A9 n9 c9) (.slice af n10 c10))] w (yH (aQ zs i m) MM w):=by
 have hbd:=Gl zs i m hi;have hok:=aen (RD zs i m hi hL.sz hr);have hlen:=hL.len;obtain⟨b,off,rfl,hb,hcell⟩:=hL.get (by omega);have bQ:=aen hcell;have dm:Hid (∀j W,Calls prog 17 #[.string (ln zs j)] W fun e w'=>e=.returned (.bool (aF (ln zs j)))∧W=w'):=aen fun j W=>Gj (ln zs j) W (aev (dh hL.sz j) (by decide));have aB:Hid (∀W,Calls prog 17 #[.string m.rest] W fun e w'=>e=.returned (.bool (aF m.rest))∧W=w'):=aen fun W=>Gj m.rest W (by omega);have gK:Hid (∀j W,Calls prog 26 #[.string (ln zs j)] W fun e w'=>e=.returned (.int .i64 (ah (ln zs j) 0))∧W=w'):=aen fun j W=>BH (ln zs j) W (aev (dh hL.sz j) (by decide));have bH:Hid (∀j W,Calls prog 133 #[.string (ln zs j),.int .i64 (m.off:Nat)] W fun e w'=>e=.returned (.string (aT (ln zs j) m.off))∧W=w'):=aen fun j W=>Rq (ln zs j) m.off W (aev (dh hL.sz j) (by decide)) ho;have ni:Hid (uh zs i m=(aF m.rest&&(decide (zs.length≤i+1)||aF (ln zs (i+1))))):=aen rfl;have aS:=aen hL;have HW0:=aen (jf.start w (m.cells (.slice A9 n9 c9) (.slice af n10 c10)));clear hL hcell;by_cases hno:uh zs i m=true
 ·have HF:Hid (aQ zs i m=([],i+1)):=aen (by unfold aQ;rw[if_pos hno]);have hbr:aF m.rest=true:=by rw[ni.out,Bool.and_eq_true] at hno;exact hno.1
  rw[hbr] at aB;unfold ag.cells;by_cases h1:zs.length≤i+1
  ·have d1:decide ((zs.length:Int)≤(i:Int)+1)=true:=aeq (by omega);clear ni hno hbr dm gK bH;go_enter Tryz.func86,Tryz.ntmps86;go_wp2_with fail;with_reducible refine(aB.out _).mono ?_
   rintro e w1 ⟨rfl,rfl⟩;go_wp2_with fail;go_ret2;rw[HF.out];exact⟨⟨_,_,rfl,aeo _,Nat.zero_le _,⟨Reads.none_,Nat.zero_le _,fun z hz=>absurd hz (by simp),(aS.out.below HW0.out.2).cell⟩⟩,HW0.out.2⟩
  ·have d1:decide ((zs.length:Int)≤(i:Int)+1)=false:=aep (by omega);have hb1:aF (ln zs (i+1))=true:=by
    rw[ni.out,Bool.and_eq_true,Bool.or_eq_true] at hno;rcases hno.2 with h|h
    ·rw[decide_eq_true_eq] at h;omega
    ·exact h
   have HB1:=aen fun W=>dm.out (i+1) W;rw[hb1] at HB1;have hc1:=(HW0.out.2.cell (p:=⟨b,off+(i+1),none⟩) hb).trans (bQ.out (i+1) (by omega));unfold ag.cells at hc1;have hi1:(0:Int)≤(i:Int)+1:=by omega
   clear ni hno hbr dm gK bH hb1;go_enter Tryz.func86,Tryz.ntmps86;go_wp2_with fail;with_reducible refine(aB.out _).mono ?_
   rintro e w1 ⟨rfl,rfl⟩;go_wp2_with fail;with_reducible refine(HB1.out _).mono ?_
   rintro e w1 ⟨rfl,rfl⟩;go_wp2_with fail;go_ret2;rw[HF.out];exact⟨⟨_,_,rfl,aeo _,Nat.zero_le _,⟨Reads.none_,Nat.zero_le _,fun z hz=>absurd hz (by simp),(aS.out.below HW0.out.2).cell⟩⟩,HW0.out.2⟩
 have hno:uh zs i m=false:=by simpa using hno
 have HF:=aen (RG zs i m hbd.2 hbd.1 hno);have pF:Hid ((aF m.rest&&(decide (zs.length≤i+1)||aF (ln zs (i+1))))=false):=aen (by rw[←ni.out];exact hno);clear ni hno;go_enter Tryz.func86,Tryz.ntmps86;unfold ag.cells;go_upto_region 2 with fail
 go_cut [30] (fun La wx=>La=.bool false∧jf w (m.cells (.slice A9 n9 c9) (.slice af n10 c10)) wx);case first=>
  by_cases hbr:aF m.rest=true
  ·rw[hbr,Bool.true_and,Bool.or_eq_false_iff] at pF;rw[hbr] at aB;have h1:¬zs.length≤i+1:=of_decide_eq_false pF.out.1;have d1:decide ((zs.length:Int)≤(i:Int)+1)=false:=aep (by omega);have HB1:=aen fun W=>dm.out (i+1) W;rw[pF.out.2] at HB1;have hc1:=(HW0.out.2.cell (p:=⟨b,off+(i+1),none⟩) hb).trans (bQ.out (i+1) (by omega));unfold ag.cells at hc1;clear pF hbr dm gK bH HF;go_wp2_with fail;with_reducible refine(aB.out _).mono ?_
   rintro e w1 ⟨rfl,rfl⟩;go_wp2_with fail;with_reducible refine(HB1.out _).mono ?_
   rintro e w1 ⟨rfl,rfl⟩;go_wp2_with fail;go_meet;exact⟨rfl,HW0.out⟩
  ·have hbr:aF m.rest=false:=by simpa using hbr
   rw[hbr] at aB;clear pF hbr dm gK bH HF;go_wp2_with fail;with_reducible refine(aB.out _).mono ?_
   rintro e w1 ⟨rfl,rfl⟩;go_wp2_with fail;go_meet;exact⟨rfl,HW0.out⟩
 case rest=>
 obtain⟨rfl,hW⟩:=hcut;have HW:=aen hW;clear hW HW0 pF aB;go_upto_block 0 with fail
 go_cut [9] (fun s9 wx=>s9=.int .i64 (gy zs i m)∧jf w (m.cells (.slice A9 n9 c9) (.slice af n10 c10)) wx);case first=>
  go_wp2_with fail;go_loopw [9,10] (fun v9 v10 wr=>RH zs i m (m.cells (.slice A9 n9 c9) (.slice af n10 c10)) w v9 v10 wr) (fun _ v10 _=>zs.length - (intOf v10).toNat);case atStart=>exact⟨i+1,by go_num,by rw[Nat.sub_self];first | rfl | (show Value.int _ _=_;go_num),aeo _,by omega,HW.out,aen fun k h1 h2=>absurd h2 (by omega)⟩
  case round=>
   clear HW;obtain⟨j,rfl,rfl,hj1,hj,di,Hno⟩:=hrel;have HWr:=aen di;by_cases hlt:j<zs.length
   ·have d0:decide ((j:Int)<(zs.length:Int))=true:=aeq (by omega);have d00:decide (j<zs.length)=true:=aeq hlt;have hc0:=(di.2.cell (p:=⟨b,off+j,none⟩) hb).trans (bQ.out j hlt);have HB1:=aen fun W=>dm.out j W;have HI1:=aen fun W=>gK.out j W;have lz:Hid (pq zs m j=(!aF (ln zs j)&&decide (ah (ln zs j) 0<m.off))):=aen rfl;have pg:=aen (RI (jI zs) (i+1) j hj1);have HAt:=aen (Gq zs i j m hj1 hj Hno.out);have hnb:Hid (jI zs j=!aF (ln zs j)):=aen rfl;have hil:=kC (ln zs j);obtain⟨k0,k1,k2,k3,k4,k5,k6,k7,k8,k9,k10,y0,y1,y2,y3,y4,y5,y6,y7,y8,y9,aj⟩:=az di.1;clear di dm gK bH HF k0 k1 k2 k4 k5 k6 k7 k8 k9 k10 y0 y1 y2 y3 y4 y5 y6 y7 y8 y9 aj;generalize ah (ln zs j) 0=ind at *;generalize ln zs j=z at *;cases hbz:aF z with
    |true=>
     rw[hbz] at HB1 lz hnb;have gQ:Hid (∀k,i+1≤k→k<j+1→pq zs m k=false):=aen fun k h1 h2=>by
      by_cases e:k=j
      ·rw[e,lz.out];rfl
      ·exact Hno.out k h1 (by omega)
     have yI:Hid (iD (jI zs) (i+1) (j+1 - (i+1))=iD (jI zs) (i+1) (j - (i+1))):=aen (by rw[pg.out,hnb.out];rfl);clear lz pg hnb HAt Hno hbz HI1;generalize iD (jI zs) (i+1) (j - (i+1))=t at *;go_wp2_with fail;go_quiet ((go_at_call 17;exact yw (HB1.out _)));go_wp2_with fail;with_reducible refine(HB1.out _).mono ?_
     rintro e w1 ⟨rfl,rfl⟩;go_wp2_with fail;go_roundw;case rel=>exact⟨j+1,by go_num,by rw[yI.out],by omega,by omega,⟨ae.drewN HWr.out.1 _,below_drewN HWr.out.2 _⟩,gQ⟩
     case measure=>simp[intOf];omega
    |false=>
     rw[hbz] at HB1 lz hnb;by_cases hst:ind<m.off
     ·have z1:decide ((m.off:Int)≤(ind:Int))=false:=aep (by omega);have z2:decide (m.off≤ind)=false:=aep (by omega);have HT:=aen (HAt.out fun _=>by rw[lz.out,aeq hst];rfl);clear lz pg hnb HAt Hno hbz hst;generalize iD (jI zs) (i+1) (j - (i+1))=t at *;go_wp2_with fail;go_quiet (first|(go_at_call 17;exact yw (HB1.out _))|(go_at_call 26;exact yw (HI1.out _)));go_wp2_with fail;go_meet;exact⟨by rw[HT.out],ae.drewN HWr.out.1 _,below_drewN HWr.out.2 _⟩
     ·have z1:decide ((m.off:Int)≤(ind:Int))=true:=aeq (by omega);have z2:decide (m.off≤ind)=true:=aeq (by omega);have gQ:Hid (∀k,i+1≤k→k<j+1→pq zs m k=false):=aen fun k h1 h2=>by
       by_cases e:k=j
       ·rw[e,lz.out,aep hst];rfl
       ·exact Hno.out k h1 (by omega)
      have yI:Hid (iD (jI zs) (i+1) (j+1 - (i+1))=j+1):=aen (by rw[pg.out,hnb.out];rfl);clear lz pg hnb HAt Hno hbz hst;generalize iD (jI zs) (i+1) (j - (i+1))=t at *;go_wp2_with fail;go_quiet (first|(go_at_call 17;exact yw (HB1.out _))|(go_at_call 26;exact yw (HI1.out _)));go_wp2_with fail;with_reducible refine(HB1.out _).mono ?_
      rintro e w1 ⟨rfl,rfl⟩;go_wp2_with fail;go_roundw;case rel=>exact⟨j+1,by go_num,by rw[yI.out];go_num,by omega,by omega,⟨ae.drewN HWr.out.1 _,below_drewN HWr.out.2 _⟩,gQ⟩
      case measure=>simp[intOf];omega
   ·have d0:decide ((j:Int)<(zs.length:Int))=false:=aep (by omega);have d00:decide (j<zs.length)=false:=aep hlt;have HT:=aen (Gq zs i j m hj1 hj Hno.out (fun h=>absurd h hlt));clear di HF dm gK bH Hno;generalize iD (jI zs) (i+1) (j - (i+1))=t at *;go_wp2_with fail;go_quiet (fail);go_wp2_with fail;go_meet;exact⟨by rw[HT.out],ae.drewN HWr.out.1 _,below_drewN HWr.out.2 _⟩
 case rest=>
 obtain⟨rfl,hW⟩:=hcut;have HW:=aen hW;obtain⟨i0,hi0,hz0,hz1,hz2⟩:=info_parts ru;obtain⟨k0,k1,k2,k3,k4,k5,k6,k7,k8,k9,k10,y0,y1,y2,y3,y4,y5,y6,y7,y8,y9,aj⟩:=az hW.1;have hwz:w.heap.size<wc.heap.size:=hW.1.lt;have HT0:Hid (strs (takeC zs i m 0)=[.string m.rest]):=aen rfl;have vM:=aen fun k=>RE zs i m k hbd.1 hbd.2;have yJ:=aen fun k=>RF zs i m k hbd.2;have rF:Hid (∀(k:Nat) (v11 v12:Value) (wr:World),v12=.int .i64 ((i+1+k:Nat):Int)→i+1+k≤gy zs i m→wr.ownsRow (w.heap.size+1) 9 1 v11 (k+1) (strs (takeC zs i m k))→jf w (m.cells (.slice A9 n9 c9) (.slice af n10 c10)) wr→MP zs i m (m.cells (.slice A9 n9 c9) (.slice af n10 c10)) w v11 v12 wr):=aen fun k _ _ _ h1 h2 h3 h4=>⟨k,h1,h2,h3,h4⟩;clear hW gK dm k0 k1 k2 k3 k4 k6 k7 k8 k9 k10 y0 y1 y2 y3 y4 y5 y6 y7 y8 y9 aj;obtain⟨tt,xq⟩:∃tt,tt=gy zs i m:=⟨_,rfl⟩;rw[←xq] at hbd HF vM yJ rF ⊢;have yK:=aen xq;clear xq;unfold maxLen at hcm;have vN:Hid ((wc.alloc (.cells #[.string m.rest] 9)).ownsRow (w.heap.size+1) 9 1 (.slice (some ⟨wc.heap.size,0,none⟩) 1 1) 1 (strs (takeC zs i m 0))):=aen (World.ownsRow_lit wc #[.string m.rest] 1 hwz (by decide) rfl);have HW1:Hid (∀o,jf w (m.cells (.slice A9 n9 c9) (.slice af n10 c10)) (wc.alloc o)):=aen fun o=>HW.out.next ((aer _ _).alloc (aeo _) _)
 go_wp2_with fail;go_loopw [11,12] (fun v11 v12 wr=>MP zs i m (m.cells (.slice A9 n9 c9) (.slice af n10 c10)) w v11 v12 wr) (fun _ v12 _=>tt - (intOf v12).toNat);case atStart=>exact rF.out 0 _ _ _ (by first|rfl|go_num) (by omega) vN.out (HW1.out _)
 case round=>
  clear vN HW1 HW;obtain⟨k,rfl,hk,hown,di⟩:=hrel;rw[←yK.out] at hk;have HWr:=aen di;have hrz:=di.2.size;have hlz:=di.1.lt;by_cases hlt:i+1+k<tt
  ·have hc0:wr.cell? ⟨b,off+(i+1+k),none⟩=some (.string (ln zs (i+1+k))):=(di.2.cell (p:=⟨b,off+(i+1+k),none⟩) hb).trans (bQ.out (i+1+k) (by omega));obtain⟨p0,p1,p2,p3,p4,p5,p6,p7,p8,p9,p10,x0,x1,x2,x3,x4,x5,x6,x7,x8,x9,x10⟩:=az di.1;have jU:=aen fun W=>bH.out (i+1+k) W;have HE:=aen (yJ.out k hlt);have hjl:i+1+k<zs.length:=by omega
   have MQ:Hid (∀v11 wr,wr.ownsRow (w.heap.size+1) 9 1 v11 (k+1+1) (strs (takeC zs i m (k+1)))→jf w (m.cells (.slice A9 n9 c9) (.slice af n10 c10)) wr→MP zs i m (m.cells (.slice A9 n9 c9) (.slice af n10 c10)) w v11 (.int .i64 (((i+1+k:Nat):Int)+1)) wr):=aen fun v11 wr h1 h2=>rF.out (k+1) _ _ _ (by show Value.int _ _=Value.int _ _;first | rfl | (congr 1;omega)) (by have:=yK.out;omega) h1 h2;clear di bH p0 p1 p2 p4 p5 p6 p7 p8 p9 p10 x0 x1 x2 x3 x4 x5 x6 x7 x8 x9 x10;have Ug:=aen (bQ.out (i+1+k) hjl);generalize aT (ln zs (i+1+k)) m.off=y at *;generalize ln zs (i+1+k)=z at *;have hkj:i+1≤i+1+k:=by omega
   have hk1:k+1≤i+1+k:=by omega
   generalize i+1+k=j at *;have bu:Hid (∀W,jf w (m.cells (.slice A9 n9 c9) (.slice af n10 c10)) W→(W.cell? ⟨b,off+j,none⟩=some (.string z)∧W.cell? ⟨w.heap.size,3,none⟩=some (.int .i64 m.off))):=aen fun W h=>by
    have:=Ug.out;exact⟨(h.2.cell (p:=⟨b,off+j,none⟩) hb).trans this,h.1.cell 3⟩
   clear Ug;obtain⟨AO,cO,rfl⟩:=ay hown;go_wp2_with fail;refine wp_region_held_drew (S:=fun W'=>W'.cell? ⟨b,off+j,none⟩=some (.string z)∧W'.cell? ⟨w.heap.size,3,none⟩=some (.int .i64 m.off)) (by kernel_rfl) (bu.out _ (HWr.out.next (aer _ _).drew)) (fun hHeld=>?_);refine tk 0 (.slice AO (k+1) cO) rfl hHeld (fun W' hSw=>?_) ?_
   ·obtain⟨h0,h1⟩:=hSw;go_simp
   refine tk 1 (.slice (some ⟨b,off,none⟩) zs.length c) rfl hHeld (fun W' hSw=>?_) ?_
   ·obtain⟨h0,h1⟩:=hSw;go_simp
   refine tk 2 (.int .i64 j) rfl hHeld (fun W' hSw=>?_) ?_
   ·obtain⟨h0,h1⟩:=hSw;go_simp
   refine tk 3 (.pointer (some ⟨b,off+j,none⟩)) rfl hHeld (fun W' hSw=>?_) ?_
   ·obtain⟨h0,h1⟩:=hSw;go_simp
   refine tk 4 (.string z) rfl hHeld (fun W' hSw=>?_) ?_
   ·obtain⟨h0,h1⟩:=hSw;go_simp
   refine tk 5 (.pointer (some ⟨w.heap.size,3,none⟩)) rfl hHeld (fun W' hSw=>?_) ?_
   ·obtain⟨h0,h1⟩:=hSw;go_simp
   refine tk 6 (.int .i64 m.off) rfl hHeld (fun W' hSw=>?_) ?_
   ·obtain⟨h0,h1⟩:=hSw;go_simp
   refine aC 7 rfl (fun K hK=>?_);go_simp;with_reducible refine(jU.out _).mono ?_
   rintro e Bd ⟨rfl,hw0⟩;have oI:Below wr.heap.size wr Bd:=by rw[←hw0];exact(aer _ _).drew
   clear hw0;go_simp;refine hK.out _ _ (bu.out _ (HWr.out.next oI)) (fun hHeld=>?_);clear hK K;have kQ:=oI.size;have zA:=own_below hown oI;refine aC 8 rfl (fun K hK=>?_);go_simp;refine hK.out _ _ (bu.out _ (HWr.out.next (oI.alloc oI.size _))) (fun hHeld=>?_);clear hK K;refine aC 9 rfl (fun K hK=>?_);refine step_append_lies _ rfl (.tmp 74) (.tmp 82) 22 rfl (w.heap.size+1) 9 i0 _ 1 16 Tryz.underlying22 hi0 hz0 hz1 hz2 rfl (by decide) _ _ _ rfl (zA.alloc _) ⟨Bd.heap.size,0,none⟩ 1 1 [.string y] rfl rfl ?c1 ?c2 (by decide) ?c3 ?c4 ?c5 (Bd.heap.size+1) ?c6 ?_;case c1=>exact World.news_of_block (t:=9) (fr:=(0,0)) (cs:=#[.string y]) (heap_alloc_new Bd _)
   case c2=>intro u hu;simp at hu;subst hu;rfl
   case c3=>unfold maxLen;omega
   case c4=>omega
   case c5=>simp;omega
   case c6=>simp
   intro g7 gm w2 hown3 hgrow hlies hlt3;have Be:=fun k hk=>(zA.lt k hk).1;have HW2:Hid (jf w (m.cells (.slice A9 n9 c9) (.slice af n10 c10)) w2):=aen ⟨(ae.alloc (HWr.out.next oI).1 _).grown hgrow (fun e=>by have:=Be _ e.symm;omega),((HWr.out.next oI).2.alloc (HWr.out.next oI).2.size _).grown hgrow (by simp;exact Nat.le_succ_of_le (HWr.out.next oI).2.size) (fun k hk=>by have:=Be k hk;omega)⟩;refine hK.out _ _ (bu.out _ HW2.out) (fun hHeld=>?_);clear hK K;refine aC 10 rfl (fun K hK=>?_);go_simp;refine hK.out _ _ (hHeld) (fun _=>?_);clear hK K;refine wpAnyH_done (by kernel_rfl) ?_ _;clear hown hgrow zA;go_wp2_with fail;go_roundw;case rel=>exact MQ.out _ _ (by rw[HE.out];exact hown3) HW2.out
   case measure=>simp[intOf];omega
  ·have hkt:i+1+k=tt:=by omega
   have hkk:k=tt - (i+1):=by omega
   have d0:decide (((i+1+k:Nat):Int)<(tt:Int))=false:=aep (by omega);have HOW:=aen hown;clear hown di rF yJ;rw[hkt];go_wp2_with fail;go_ret2;rw[HF.out];rw[←hkk];rw[←hkk] at HF;have hlen1:=vM.out k (by omega);obtain⟨A,cc,rfl,hc1,hc2⟩:=Aq HOW.out;rw[HF.out] at hok;refine⟨⟨A,cc,by rw[hlen1];rfl,by rw[hlen1];exact hc1,hc2,⟨?_,aev hok.out.1 hlen,hok.out.2,(aS.out.below HWr.out.2).cell⟩⟩,HWr.out.2⟩;rw[hlen1];exact Reads.of_own HOW.out
theorem acI(i0 i1:Int)(s2:ByteArray)(i3:Int)(s4 s5 s6 s7 s8:ByteArray)(v9 v10:Value)(W:World):(Instr.field 74 (.agg #[.int .i64 i0,.int .i64 i1,.string s2,.int .i64 i3,.string s4,.string s5,.string s6,.string s7,.string s8,v9,v10]) 5).run prog W=.ok (.string s5) W:=by kernel_rfl
def Ht(t:Nat)(r:Option (List BkT))(w:World)(e:Ending)(w':World):Prop:=
 Below w.heap.size w w'∧∃v,e=.returned (.tuple #[.agg v,.int .i64 t,.bool r.isSome])∧kL v∧∀k,r=some k→dw w' (Rg w.heap.size w') v (fe 9 k)
theorem acJ(rec:List ByteArray→Option (List BkT))(d:Nat)(hd:d≤16)(zs:List ByteArray)(A:Option Addr)(c i:Nat)(MM:Int)(m:ag)(A9:Option Addr)(n9 c9:Nat)(af:Option Addr)(n10 c10:Nat)(w:World)(hR:Bc rec (d+1) MM)(hL:aG w A zs MM)(hi:i<zs.length)(hc:zs.length≤c)(hcm:c≤maxLen)(hok:lZ m) :
 Calls prog 135 #[.slice A zs.length c,.int .i64 i,.agg (m.cells (.slice A9 n9 c9) (.slice af n10 c10)),.int .i64 d] w
  (Ht (aQ zs i m).2 (if decide (d≤15)=true then rec (aQ zs i m).1 else none) w):=by
 have aS:=aen hL;have jh:=aen fun W (h:aG W A zs MM)=>Uf zs A c i MM m A9 n9 c9 af n10 c10 W h hi hc hcm hok.off hok.rest;have gU:=aen hR;have HS:=aen (lY w (m.cells (.slice A9 n9 c9) (.slice af n10 c10)));have hdd:((d:Nat):Int)≤16:=by omega
 have kN:=aen (show (d:Int)+1=((d+1:Nat):Int) by omega);clear hL hR;unfold yH ag.cells at jh;unfold ag.cells fA at HS;unfold ag.cells;generalize aQ zs i m=CL at *;obtain⟨inner,tt⟩:=CL;simp only[] at jh ⊢;obtain⟨PR,aO⟩:∃PR,PR=if decide (d≤15)=true then rec inner else none:=⟨_,rfl⟩
 rw[←aO];have bU:=aen aO;clear aO;go_enter Tryz.func135,Tryz.ntmps135;have HB0:=aen HS.out.bel;obtain⟨p0,p1,p2,p3,p4,p5,p6,p7,p8,p9,p10,x0,x1,x2,x3,x4,x5,x6,x7,x8,x9,x10⟩:=az HS.out.aP;go_wp2_with fail;with_reducible refine(jh.out _ (aS.out.below HB0.out)).mono ?_
 rintro e w1 ⟨⟨A1,c1,rfl,hc1,hc2,hLn⟩,b1⟩;have jU:=aen (HS.out.next b1);have rO:=aen (gU.out inner A1 c1 w1 hLn hc1 hc2);clear b1 jh gU hLn p0 p1 p2 p3 p4 p5 p6 p7 p8 p9 p10 x0 x1 x2 x3 x4 x5 x6 x7 x8 x9 x10 HS HB0;go_wp2_with fail;rw[kN.out];with_reducible refine(rO.out).mono ?_
 rintro e w3 ⟨hp,b3⟩;have rJ:=aen (jU.out.next b3);have hz3:=b3.size;have Dq:=jU.out.res.lt;have hz0:=jU.out.bel.size;obtain⟨k0,k1,k2,k3,k4,k5,k6,k7,k8,k9,k10,y0,y1,y2,y3,y4,y5,y6,y7,y8,y9,aj⟩:=ZB.facts rJ.out.res;have yO:Hid (∀z0 z1 z2 z3 z4 z5 z6 z7 z8 z9 z10,Below w.heap.size w (((((((((((w3.setCell ⟨w.heap.size+1,0,none⟩ z0).setCell ⟨w.heap.size+1,1,none⟩ z1).setCell ⟨w.heap.size+1,2,none⟩ z2).setCell ⟨w.heap.size+1,3,none⟩ z3).setCell ⟨w.heap.size+1,4,none⟩ z4).setCell ⟨w.heap.size+1,5,none⟩ z5).setCell ⟨w.heap.size+1,6,none⟩ z6).setCell ⟨w.heap.size+1,7,none⟩ z7).setCell ⟨w.heap.size+1,8,none⟩ z8).setCell ⟨w.heap.size+1,9,none⟩ z9).setCell ⟨w.heap.size+1,10,none⟩ z10)):=aen fun z0 z1 z2 z3 z4 z5 z6 z7 z8 z9 z10=>au rJ.out.bel (Nat.le_succ _) z0 z1 z2 z3 z4 z5 z6 z7 z8 z9 z10;clear b3 rO;cases hr:rec inner with
 |none=>
  rw[hr] at hp;have HQ:Hid (PR=none):=aen (by rw[bU.out,hr];split <;> rfl);subst hp;unfold zy;clear hr bU;go_wp2_with fail;refine MN (ax rJ.out.res _ _ _ _ _ _ _ _ _ _ _) rfl rfl rfl rfl ⟨yO.out _ _ _ _ _ _ _ _ _ _ _,_,by rw[HQ.out];rfl,⟨_,_,_,_,_,_,_,_,_,_,_,_,_,_,_,_,_,_,_,rfl⟩,fun k h=>?_⟩;rw[HQ.out] at h;cases h
 |some bs=>
  rw[hr] at hp;obtain⟨A3,c3,A4,n4,c4,rfl,hk⟩:=hp;have HK:=aen hk;by_cases h15:d≤15
  ·have HQ:Hid (PR=some bs):=aen (by rw[bU.out,if_pos (aeq h15),hr]);have d1:decide ((d:Int)≤15)=true:=aeq (by omega);clear hr hk bU;go_wp2_with fail;refine MN (ax rJ.out.res _ _ _ _ _ _ _ _ _ _ _) rfl rfl rfl rfl ⟨yO.out _ _ _ _ _ _ _ _ _ _ _,_,by rw[HQ.out];rfl,⟨_,_,_,_,_,_,_,_,_,_,_,_,_,_,_,_,_,_,_,rfl⟩,fun k h=>?_⟩;rw[HQ.out] at h;injection h with h
   rw[←h];exact Gs (HK.out.far (aV _ _ _ _ _ _ _ _ _ _ _ _ _) Dq (by omega))
  ·have HQ:Hid (PR=none):=aen (by rw[bU.out,if_neg (by rw[decide_eq_true_eq];exact h15)]);have d1:decide ((d:Int)≤15)=false:=aep (by omega);clear hr hk bU;go_wp2_with fail;refine MN (ax rJ.out.res _ _ _ _ _ _ _ _ _ _ _) rfl rfl rfl rfl ⟨yO.out _ _ _ _ _ _ _ _ _ _ _,_,by rw[HQ.out];rfl,⟨_,_,_,_,_,_,_,_,_,_,_,_,_,_,_,_,_,_,_,rfl⟩,fun k h=>?_⟩;rw[HQ.out] at h;cases h
theorem acK(rec:List ByteArray→Option (List BkT))(d:Nat)(hd:d≤15)(zs:List ByteArray)(A:Option Addr)(c i B:Nat)(MM:Int)(w:World)(hR:Bc rec (d+1) MM)(hL:aG w A zs MM)(hi:i<zs.length)(hB:B≤w.heap.size) :
 Calls prog 82 #[.slice A zs.length c,.int .i64 i,.int .i64 d] w (uG B ((rec (je zs i)).map fun k=>(fe 6 k,lu zs i)) w):=by
 obtain⟨i0,hi0,hz0,hz1,hz2⟩:=info_parts ru;have hlen:=hL.len;obtain⟨b,off,rfl,hb,hcell⟩:=hL.get (by omega);have bQ:=aen hcell;have aS:=aen hL;have HM:Hid (∀j W,Calls prog 80 #[.string (ln zs j)] W fun e w'=>∃A c D d,e=.returned (.agg ((ai (ln zs j)).cells (.slice A (ai (ln zs j)).att.cl.length c) (.slice D (ai (ln zs j)).att.pr.length d)))∧Below W.heap.size W w'):=aen fun j W=>(Hg (ln zs j) W (aev (dh hL.sz j) (by decide))).mono fun e w'=>yE;have gU:=aen hR;have HZ0:=aen (ae.new w 46 #[.int .i64 0,.int .i64 0,.string ⟨#[]⟩,.string ⟨#[]⟩,.string ⟨#[]⟩,.string ⟨#[]⟩,.string ⟨#[]⟩,.slice none 0 0,.slice none 0 0,.slice none 0 0,.slice none 0 0]);have HB0:Hid (∀o,Below w.heap.size w (w.alloc o)):=aen fun o=>(aer _ w).alloc (aeo _) _;have hdi:((d:Nat):Int)≤15:=by omega
 have Ld:=aen (Si zs i (by omega) hL.sz);have HF:=aen Gz;have Uh:=aen acI;clear hL hcell hR;go_enter Tryz.func82,Tryz.ntmps82;go_upto_block 0 with fail
 go_cut [9,10] (fun s9 s10 wx=>s10=.int .i64 (lu zs i)∧wx.ownsRow (w.heap.size+1) 9 1 s9 (lu zs i - i) (strs (je zs i))∧ZB wx w.heap.size∧Below w.heap.size w wx);case first=>
  go_wp2_with fail;go_loopw [9,10] (fun v9 v10 wr=>Sj zs i w v9 v10 wr) (fun _ v10 _=>zs.length - (intOf v10).toNat);case atStart=>exact⟨i,rfl,aeo _,by omega,by rw[Nat.sub_self,show strs (um zs i i)=[] by unfold um bz strs;simp];exact World.ownsRow_nil _ _ _ _,HZ0.out,HB0.out _,aen fun j h1 h2=>absurd h2 (by omega)⟩
  case round=>
   clear HZ0 HB0;obtain⟨k,rfl,hik,hk,hown,hZ,hbw,Hq⟩:=hrel;have dU:=hbw.size;have hzl:=ae.lt hZ;have aU:=aen hZ;have HT:Hid (∀h:k<zs.length→kindOf zs k≠4,lu zs i=k):=aen fun h=>rC _ _ _ _ hik hk (fun j h1 h2=>by rw[Hq.out j h1 h2];rfl) (fun hl=>by rw[aep (h hl)];rfl);by_cases hlt:k<zs.length
   ·have hc0:wr.cell? ⟨b,off+k,none⟩=some (.string (ln zs k)):=(hbw.cell (p:=⟨b,off+k,none⟩) hb).trans (bQ.out k hlt);have HCx:Hid (∀W,Below wr.heap.size wr W→W.cell? ⟨b,off+k,none⟩=some (.string (ln zs k))):=aen fun W h=>(h.cell (p:=⟨b,off+k,none⟩) (by show b<_;omega)).trans hc0;have lX:=aen fun W=>HM.out k W;have HE:=aen (RZ zs i k hik hlt);have hkk:Hid (kindOf zs k=(ai (ln zs k)).kind):=aen rfl;clear HM hZ;generalize ai (ln zs k)=m at *;generalize ln zs k=zk at *;unfold ag.cells at lX;by_cases h4:m.kind=4
    ·have z1:(((m.kind:Nat):Int)==4)=true:=kT (by omega);have z2:((m.kind:Nat)==4)=true:=by rw[beq_iff_eq];exact h4
     have Le:Hid (∀j,i≤j→j<k+1→kindOf zs j=4):=aen fun j h1 h2=>by
      by_cases e:j=k
      ·rw[e,hkk.out];exact h4
      ·exact Hq.out j h1 (by omega)
     have hfd:=HF.out;clear h4 hkk HT Hq;go_wp2_with fail;with_reducible refine(lX.out _).mono ?_
     rintro e w1 ⟨A1,c1,A2,c2,rfl,b1⟩;have hz1':=b1.size;have hc1:=HCx.out _ b1;clear hc0;go_wp2_with fail;with_reducible refine(lX.out _).mono ?_
     rintro e w2 ⟨A3,c3,A4,c4,rfl,b2⟩;have b12:=b1.trans (b2.mono hz1');have jA:=b12.size;have hown1:=own_below hown b12;have hf5:=Uh.out;clear hown hc1 hfd;go_wp2_with (at_builtin;refine wpList_append_own _ rfl _ _ 22 rfl (w.heap.size+1) 9 i0 _ 1 16 Tryz.underlying22 hi0 hz0 hz1 hz2 rfl (by decide) _ _ _ rfl (hown1.alloc _) ⟨w2.heap.size,0,none⟩ 1 1 [.string m.rest] rfl rfl ?c1 ?c2 ?c3 ?c4 ?c5 ?_);case c1=>
      intro j u hj;match j,hj with
      |0,hj=>simp at hj;subst hj;simp[Addr.add]
     case c2=>intro u hu;simp at hu;subst hu;rfl
     case c3=>unfold maxLen;omega
     case c4=>omega
     case c5=>simp;omega
     intro v' w3 hown3 hgrow _;have HZ2:Hid (ZB w3 w.heap.size):=aen (ae.grown (ae.alloc (aU.out.below (w:=w) b12) _) hgrow (fun e=>by have:=(hown1.lt _ e.symm).1;omega));have HB2:Hid (Below w.heap.size w w3):=aen (((hbw.trans (b12.mono dU)).alloc (by omega) _).grown hgrow (by simp;omega) (fun g hg=>by have:=(hown1.lt g hg).1;omega));clear hown1 hgrow;go_wp2_with fail;go_roundw;case rel=>exact⟨k+1,by go_num,by omega,by omega,by rw[show k+1 - i=k - i+1 by omega,HE.out];exact hown3,HZ2.out,HB2.out,Le⟩
     case measure=>simp[intOf];omega
    ·have z1:(((m.kind:Nat):Int)==4)=false:=kF (by omega);have z2:((m.kind:Nat)==4)=false:=by rw[aes];exact h4
     have HQ:=aen (HT.out fun _=>by rw[hkk.out];exact h4);have hfd:=HF.out;have HOW:=aen hown;clear h4 hkk HT Hq hown;go_wp2_with fail;with_reducible refine(lX.out _).mono ?_
     rintro e w1 ⟨A1,c1,A2,c2,rfl,b1⟩;have hz1':=b1.size;go_wp2_with fail;go_meet;rw[HQ.out];refine⟨rfl,?_,aU.out.below (w:=w) b1,hbw.trans (b1.mono dU)⟩;unfold je;rw[HQ.out];exact own_below HOW.out b1
   ·have HQ:=aen (HT.out fun h=>absurd h hlt);clear HM hZ HT Hq;go_wp2_with fail;go_meet;rw[HQ.out];refine⟨rfl,?_,aU.out,hbw⟩;unfold je;rw[HQ.out];exact hown
 case rest=>
 obtain⟨rfl,hown,hZ,hbw⟩:=hcut;have dU:=hbw.size;have hzl:=ae.lt hZ;have aU:=aen hZ;have og:(je zs i).length=lu zs i - i:=by
  have:=mZ (fun j=>!decide (kindOf zs j=4)) zs.length i (by omega);exact RY zs i _ this.1 this.2.1
 have Lh:lu zs i≤zs.length:=(mZ (fun j=>!decide (kindOf zs j=4)) zs.length i (by omega)).2.1;obtain⟨A9,c9,rfl,hc1,hc2⟩:=Aq hown;have Dn:Hid (aG wc A9 (je zs i) MM):=aen (by
  refine⟨by rw[og];exact Reads.of_own hown,by omega,fun z hz=>?_,(aS.out.below hbw).cell⟩;exact Ld.out z hz)
 have HC:=aen (gU.out (je zs i) A9 c9 wc Dn.out (by omega) hc2);rw[og] at HC;have hdd:(d:Int)+1=((d+1:Nat):Int):=by omega
 have kN:=aen hdd;clear HZ0 HB0 HM gU hown hZ og Lh Dn hdd HF Uh;go_wp2_with fail;rw[kN.out];with_reducible refine(HC.out).mono ?_
 rintro e w2 ⟨hp,b2⟩;have HZ2:=aen (aU.out.below (w:=w) b2);have HB2:=aen (hbw.trans (b2.mono dU));obtain⟨k0,k1,k2,k3,k4,k5,k6,k7,k8,k9,k10,y0,y1,y2,y3,y4,y5,y6,y7,y8,y9,aj⟩:=ZB.facts HZ2.out;cases pI:rec (je zs i) with
 |none=>
  have ny:=aen pI;rw[pI] at hp;subst hp;unfold zy;clear HC pI;go_wp2_with fail;exact Ud (ax HZ2.out _ _ _ _ _ _ _ _ _ _ _) rfl rfl rfl rfl (Ba (by rw[ny.out];rfl) ⟨_,_,_,_,_,_,_,_,_,_,_,_,_,_,_,_,_,_,_,rfl⟩ (au HB2.out (aeo _) _ _ _ _ _ _ _ _ _ _ _))
 |some bs=>
  have ny:=aen pI;rw[pI] at hp;obtain⟨A1,c1,A2,n2,c2,rfl,hk⟩:=hp;have HK:=aen hk;clear HC hk pI;go_wp2_with fail;exact Ud (ax HZ2.out _ _ _ _ _ _ _ _ _ _ _) rfl rfl rfl rfl (oH (by rw[ny.out];rfl) (Gs (HK.out.far (aV _ _ _ _ _ _ _ _ _ _ _ _ _) hzl (by omega))) (au HB2.out (aeo _) _ _ _ _ _ _ _ _ _ _ _))
def zB(rec:List ByteArray→Option (List BkT))(b:Bool)(zs:List ByteArray)(i:Nat)(m:ag):Option (List BkT):=if b=true then rec (aQ zs i m).1 else none
def wu(rec:List ByteArray→Option (List BkT))(b:Bool)(zs:List ByteArray)(i:Nat)(m:ag):Option (List BkT × Nat):=if b=true then jH rec zs i m else none
def Es(rec:List ByteArray→Option (List BkT))(b:Bool)(zs:List ByteArray)(its:List BkT)(tt:Nat)(m:ag):Option (List BkT × Nat):=
 if dS zs tt<zs.length∧iL m (ai (ln zs (dS zs tt)))=true then (wu rec b zs (dS zs tt) (ai (ln zs (dS zs tt)))).map fun r=>(its++r.1,r.2) else some (its,tt)
theorem Ui(rec:List ByteArray→Option (List BkT))(b:Bool)(zs:List ByteArray)(i:Nat)(m:ag)(h:i<zs.length)(its:List BkT):(wu rec b zs i m).map (fun r=>(its++r.1,r.2))=
 match zB rec b zs i m with
 |none=>none
 |some k=>Es rec b zs (its++[fe 9 k]) (aQ zs i m).2 m:=by
 unfold wu zB;cases b with
 |false=>rfl
 |true=>
  simp only[if_true];rw[Rw rec zs i m h];cases rec (aQ zs i m).1 with
  |none=>rfl
  |some k=>
   simp only[];unfold Es wu;simp only[if_true];split
   ·cases jH rec zs (dS zs (aQ zs i m).2) (ai (ln zs (dS zs (aQ zs i m).2))) with
    |none=>rfl
    |some q=>simp
   ·rfl
theorem LW.set0{w W:World}{MK:Array Value}{k k' l:Int}{v:Value}(h:LW w MK (dL k l v) W):LW w MK (dL k' l v) (W.setCell ⟨w.heap.size+2,0,none⟩ (.int .i64 k')):=
 ⟨h.aP.far (by simp) _,ae.far h.res (by simp) _,h.lst.bJ 0 (.int .i64 k'),h.bel.setCell (p:=⟨w.heap.size+2,0,none⟩) (by simp) _⟩
theorem LW.set1{w W:World}{MK:Array Value}{k l l':Int}{v:Value}(h:LW w MK (dL k l v) W):LW w MK (dL k l' v) (W.setCell ⟨w.heap.size+2,1,none⟩ (.int .i64 l')):=
 ⟨h.aP.far (by simp) _,ae.far h.res (by simp) _,h.lst.bJ 1 (.int .i64 l'),h.bel.setCell (p:=⟨w.heap.size+2,1,none⟩) (by simp) _⟩
theorem LW.acM{w W:World}{LB:Array Value}{z0 z1 z2 z3 z4 z5 z6 z7 z8 z9 z10:Value}(h:LW w #[z0,z1,z2,z3,z4,z5,z6,z7,z8,z9,z10] LB W)(y0 y1 y2 y3 y4 y5 y6 y7 y8 y9 aj:Value):LW w #[y0,y1,y2,y3,y4,y5,y6,y7,y8,y9,aj] LB (((((((((((W.setCell ⟨w.heap.size,0,none⟩ y0).setCell ⟨w.heap.size,1,none⟩ y1).setCell ⟨w.heap.size,2,none⟩ y2).setCell ⟨w.heap.size,3,none⟩ y3).setCell ⟨w.heap.size,4,none⟩ y4).setCell ⟨w.heap.size,5,none⟩ y5).setCell ⟨w.heap.size,6,none⟩ y6).setCell ⟨w.heap.size,7,none⟩ y7).setCell ⟨w.heap.size,8,none⟩ y8).setCell ⟨w.heap.size,9,none⟩ y9).setCell ⟨w.heap.size,10,none⟩ aj):=
 ⟨ax h.aP y0 y1 y2 y3 y4 y5 y6 y7 y8 y9 aj,ae.grown h.res (aV W w.heap.size y0 y1 y2 y3 y4 y5 y6 y7 y8 y9 aj) (by simp),h.lst.grown (aV W w.heap.size y0 y1 y2 y3 y4 y5 y6 y7 y8 y9 aj) (by simp),au h.bel (aeo _) y0 y1 y2 y3 y4 y5 y6 y7 y8 y9 aj⟩
def MR(rec:List ByteArray→Option (List BkT))(b:Bool)(zs:List ByteArray)(lk ll:Nat)(full:Option (List BkT × Nat))(w:World)(v13 v14:Value)(wr:World):Prop:=
 ∃(m:ag) (A9:Option Addr) (n9 c9:Nat) (af:Option Addr) (n10 c10:Nat) (AK:Option Addr) (nK cK:Nat) (tt:Nat),v13=.int .i64 tt∧LW w (m.cells (.slice A9 n9 c9) (.slice af n10 c10)) (dL lk ll (.slice AK nK cK)) wr∧
  ((v14=.bool false∧Hid (full=none))∨(v14=.bool true∧∃its,lZ m∧(m.kind=5∨m.kind=6)∧tt≤zs.length∧its.length≤tt∧Hid (aX wr (w.heap.size+3) (fun _=>False) (.slice AK nK cK) its)∧Hid (full=Es rec b zs its tt m)))
theorem acN(rec:List ByteArray→Option (List BkT))(d:Nat)(hd:d≤15)(zs:List ByteArray)(A:Option Addr)(c i B:Nat)(MM:Int)(m:ag)(A9:Option Addr)(n9 c9:Nat)(af:Option Addr)(n10 c10:Nat)(w:World)(hR:Bc rec (d+2) MM)(hL:aG w A zs MM)(hi:i<zs.length)(hc:zs.length≤c)(hcm:c≤maxLen)(hB:B≤w.heap.size)(hok:lZ m)(rD:m.kind=5∨m.kind=6) :
 Calls prog 87 #[.slice A zs.length c,.int .i64 i,.agg (m.cells (.slice A9 n9 c9) (.slice af n10 c10)),.int .i64 d] w
  (uG B (if decide (d+1≤15)=true then (jH rec zs i m).map (fun r=>(lW m r.1,r.2)) else none) w):=by
 have hlen:=hL.len;obtain⟨lk,hlk⟩:∃lk:Nat,lk=if m.kind=6 then 8 else 7:=⟨_,rfl⟩
 obtain⟨ll,hll⟩:∃ll:Nat,ll=if m.kind=6 then m.n else 0:=⟨_,rfl⟩
 have Dt:Hid (∀kids,lW m kids=.mk lk ll ⟨#[]⟩ ⟨#[]⟩ ⟨#[]⟩ ⟨#[]⟩ ak ⟨#[]⟩ kids):=aen fun kids=>by rw[hlk,hll];rfl
 obtain⟨q,hq⟩:∃q,q=decide (d+1≤15):=⟨_,rfl⟩;obtain⟨full,hfull⟩:∃full,full=wu rec q zs i m:=⟨_,rfl⟩;obtain⟨PR,aO⟩:∃PR,PR=if decide (d+1≤15)=true then (jH rec zs i m).map (fun r=>(lW m r.1,r.2)) else none:=⟨_,rfl⟩
 rw[←aO];have bU:Hid (PR=full.map fun r=>(lW m r.1,r.2)):=aen (by
  rw[aO,hfull,←hq];unfold wu;cases q <;> rfl)
 have dG:Hid (full=match zB rec q zs i m with | none=>none | some k=>Es rec q zs ([]++[fe 9 k]) (aQ zs i m).2 m):=aen (by
  rw[←Ui rec q zs i m hi [],hfull];cases wu rec q zs i m <;> rfl)
 have qI:=aen hok;have yQ:=aen rD;have aS:=aen hL;have HS:=aen (Sm w (m.cells (.slice A9 n9 c9) (.slice af n10 c10)) 7 0);obtain⟨i0,hi0,hz0,hz1,hz2⟩:=info_parts yL;obtain⟨b,off,rfl,hb,hcell⟩:=hL.get (by omega);have bQ:=aen hcell;have kN:=aen (show (d:Int)+1=((d+1:Nat):Int) by omega);have hdd:((d:Nat):Int)≤15:=by omega
 have Uj:Hid (∀j W,Calls prog 80 #[.string (ln zs j)] W fun e w'=>∃A c D d,e=.returned (.agg ((ai (ln zs j)).cells (.slice A (ai (ln zs j)).att.cl.length c) (.slice D (ai (ln zs j)).att.pr.length d)))∧Below W.heap.size W w'):=aen fun j W=>(Hg (ln zs j) W (aev (dh hL.sz j) (by decide))).mono fun e w'=>yE;have dm:Hid (∀j W,Calls prog 17 #[.string (ln zs j)] W fun e w'=>e=.returned (.bool (aF (ln zs j)))∧W=w'):=aen fun j W=>Gj (ln zs j) W (aev (dh hL.sz j) (by decide));have MS:=aen fun (i:Nat) (hi:i<zs.length) (m:ag) (ho:lZ m) (A9:Option Addr) (n9 c9:Nat) (af:Option Addr) (n10 c10:Nat) (W:World) (h:aG W (some ⟨b,off,none⟩) zs MM)=>(show Calls prog 135 #[.slice (some ⟨b,off,none⟩) zs.length c,.int .i64 i,.agg (m.cells (.slice A9 n9 c9) (.slice af n10 c10)),.int .i64 ((d+1:Nat):Int)] W (Ht (aQ zs i m).2 (zB rec q zs i m) W) from by
  have:=acJ rec (d+1) (by omega) zs (some ⟨b,off,none⟩) c i MM m A9 n9 c9 af n10 c10 W hR h hi hc hcm ho;rw[←hq] at this;exact this)
 have Du:=aen fun i m h its=>Ui rec q zs i m h its;have Dv:Hid (∀j,(ai (ln zs j)).kind=5∨(ai (ln zs j)).kind=6→lZ (ai (ln zs j))):=aen fun j h=>Gv (ln zs j) (dh hL.sz j) h;have HSame:Hid (∀(a b:ag),lZ a→b.off≤2000000→(b.kind=6→b.info.size≤1000000)→∀(A1 A2 A3 A4:Option Addr) (n1 c1 n2 c2 n3 c3 n4 c4:Nat) W,Calls prog 136 #[.agg (a.cells (.slice A1 n1 c1) (.slice A2 n2 c2)),.agg (b.cells (.slice A3 n3 c3) (.slice A4 n4 c4))] W fun e w'=>e=.returned (.bool (iL a b))∧Below W.heap.size W w'):=aen fun a b ha hb hi A1 A2 A3 A4 n1 c1 n2 c2 n3 c3 n4 c4 W=>acG a b A1 A2 A3 A4 n1 c1 n2 c2 n3 c3 n4 c4 W (aev ha.off (by decide)) hb hi;have gK:Hid (∀j,(ai (ln zs j)).off≤2000000∧((ai (ln zs j)).kind=6→(ai (ln zs j)).info.size≤1000000)):=aen fun j=>⟨by have h1:=(Dj (ln zs j)).2;have h2:=dh hL.sz j;omega,fun h6=>aev (KD _ h6) (aev (dh hL.sz j) (by decide))⟩;have hcb:=yG zs i m hi;clear aO hfull hok rD hL hcell hR hq;unfold dL fA ag.cells at HS;go_enter Tryz.func87,Tryz.ntmps87;unfold ag.cells;go_upto_if 22 with fail
 go_cut [] (fun wx=>LW w (m.cells (.slice A9 n9 c9) (.slice af n10 c10)) (dL lk ll (.slice none 0 0)) wx);case first=>
  generalize hW:World.alloc _ _=W0;have Et:Hid (LW w (m.cells (.slice A9 n9 c9) (.slice af n10 c10)) (dL 7 0 (.slice none 0 0)) W0):=aen (by rw[←hW];exact HS.out);clear hW HS;have hl0:=Et.out.lst.lt;obtain⟨k0,k1,k2,k3,k4,k5,k6,k7,k8,k9,k10,y0,y1,y2,y3,y4,y5,y6,y7,y8,y9,aj⟩:=nC Et.out.lst;obtain⟨p0,p1,p2,p3,p4,p5,p6,p7,p8,p9,p10,x0,x1,x2,x3,x4,x5,x6,x7,x8,x9,x10⟩:=az Et.out.aP;rcases yQ.out with h5|h6
  ·have e1:lk=7:=by rw[hlk,if_neg (by omega)]
   have e2:ll=0:=by rw[hll,if_neg (by omega)]
   have z1:(((m.kind:Nat):Int)==6)=false:=kF (by omega);have E1:=aen e1;have E2:=aen e2;clear hlk hll h5 e1 e2;go_wp2_with fail;go_meet;rw[E1.out,E2.out];exact Et.out
  ·have e1:lk=8:=by rw[hlk,if_pos h6]
   have e2:ll=m.n:=by rw[hll,if_pos h6]
   have z1:(((m.kind:Nat):Int)==6)=true:=kT (by omega);have E1:=aen e1;have E2:=aen e2;clear hlk hll h6 e1 e2;go_wp2_with fail;go_meet;rw[E1.out,E2.out];exact Et.out.set0.set1
 case rest=>
 have HW:=aen hcut;clear HS hcut hlk hll;have acO:=HW.out.bel.size;have HI0:=aen (MS.out i hi m qI.out A9 n9 c9 af n10 c10 wc (aS.out.below HW.out.bel));have hnil:([]:List BkT).length=0:=rfl;have Ho:Hid (aX wc (w.heap.size+3) (fun _=>False) (.slice none 0 0) []):=aen (aX.nil _ _ _);unfold Ht ag.cells at HI0;obtain⟨p0,p1,p2,p3,p4,p5,p6,p7,p8,p9,p10,x0,x1,x2,x3,x4,x5,x6,x7,x8,x9,x10⟩:=az HW.out.aP;clear x0 x1 x2 x3 x4 x5 x6 x7 x8 x9 x10;generalize zB rec q zs i m=R at *;generalize (aQ zs i m).2=t0 at *;go_wp2_with fail;rw[kN.out];with_reducible refine(HI0.out).mono ?_
 rintro e w2 ⟨b2,v,rfl,⟨f0,f1,f2,f3,f4,f5,f6,X9,x9n,su,sD,x10n,sF,sG,x11n,sH,sJ,sK,sN,rfl⟩,hrep⟩;have dB:=aen hrep;have hab:kL #[.int .i64 f0,.int .i64 f1,.string f2,.string f3,.string f4,.string f5,.string f6,.slice X9 x9n su,.slice sD x10n sF,.slice sG x11n sH,.slice sJ sK sN]:=⟨_,_,_,_,_,_,_,_,_,_,_,_,_,_,_,_,_,_,_,rfl⟩;have nD:=aen (HW.out.next b2);have jA:=b2.size;have rP:=aen b2;obtain⟨S,vs,hS,hkk,hown⟩:=Ho.out;have hown2:=own_below hown b2;have hv7:=hown.lt;have HKK:=aen hkk;have ji:=aen hS;have hlx:=HW.out.lst.lt;have zC:=aen (nD.out.next ((aer _ w2).alloc (aeo _) (.cells #[.int .i64 f0,.int .i64 f1,.string f2,.string f3,.string f4,.string f5,.string f6,.slice X9 x9n su,.slice sD x10n sF,.slice sG x11n sH,.slice sJ sK sN] 46)));obtain⟨k0,k1,k2,k3,k4,k5,k6,k7,k8,k9,k10,y0,y1,y2,y3,y4,y5,y6,y7,y8,y9,aj⟩:=nC zC.out.lst;have Dy:=nD.out.lst.lt;clear hrep hkk hS hown b2 k0 k1 k2 k3 k4 k5 k6 k7 k8 k9 y0 y1 y2 y3 y4 y5 y6 y7 y8 y9 aj;go_wp2_with (at_builtin;refine wpList_append_lies _ rfl _ _ 25 rfl (w.heap.size+3) 46 i0 _ 11 192 Tryz.underlying25 hi0 hz0 hz1 hz2 rfl (by decide) _ _ _ rfl ((hown2.alloc _).alloc _) ⟨w2.heap.size+1,0,none⟩ 1 1 _ rfl hab.len ?c1 hab.one (by decide) ?c3 ?c4 ?c5 (w2.heap.size+2) ?c6 ?_);case c3=>unfold maxLen;omega
 case c4=>omega
 case c5=>simp;omega
 case c6=>simp
 intro g7 gm w3 hown3 hgrow hlies hlt3;have jJ:Hid (∀kb,dw w2 (Rg wc.heap.size w2) #[.int .i64 f0,.int .i64 f1,.string f2,.string f3,.string f4,.string f5,.string f6,.slice X9 x9n su,.slice sD x10n sF,.slice sG x11n sH,.slice sJ sK sN] kb→aX w3 (w.heap.size+3) (fun _=>False) (.slice (some ⟨g7,0,none⟩) (([]:List BkT).length+1) gm) (([]:List BkT)++[kb])):=aen fun kb hkb=>aX.push (E:=fun _=>False) ji.out HKK.out (rP.out.alloc rP.out.size (.cells #[.int .i64 f0,.int .i64 f1,.string f2,.string f3,.string f4,.string f5,.string f6,.slice X9 x9n su,.slice sD x10n sF,.slice sG x11n sH,.slice sJ sK sN] 46)) (fun k h=>(hv7 k h).2) (fun k h=>h.elim) (by omega) (by simp;omega) (hkb.low ((aer _ _).alloc (aeo _) _)) hown3 hgrow hlies (by simp);have oC:=aen (zC.out.grown hgrow (fun k e=>(hown2.lt k e).1));have nG:Hid (∀kb,dw w2 (Rg wc.heap.size w2) #[.int .i64 f0,.int .i64 f1,.string f2,.string f3,.string f4,.string f5,.string f6,.slice X9 x9n su,.slice sD x10n sF,.slice sG x11n sH,.slice sJ sK sN] kb→aX (w3.setCell ⟨w.heap.size+2,10,none⟩ (.slice (some ⟨g7,0,none⟩) (([]:List BkT).length+1) gm)) (w.heap.size+3) (fun _=>False) (.slice (some ⟨g7,0,none⟩) (([]:List BkT).length+1) gm) (([]:List BkT)++[kb])):=aen fun kb hkb=>(jJ.out kb hkb).far (jo (vg w3 (some (w.heap.size+2))) 10 (.slice (some ⟨g7,0,none⟩) (([]:List BkT).length+1) gm)) (by omega);have jK:=aen (oC.out.store (v':=.slice (some ⟨g7,0,none⟩) (([]:List BkT).length+1) gm));obtain⟨k0,k1,k2,k3,k4,k5,k6,k7,k8,k9,k10,y0,y1,y2,y3,y4,y5,y6,y7,y8,y9,aj⟩:=nC oC.out.lst;have Dz:=oC.out.lst.lt;clear jJ nD zC hgrow hlies hown3 hown2 ji HKK rP hv7 hab k0 k1 k2 k3 k4 k5 k6 k7 k8 k9 y0 y1 y2 y3 y4 y5 y6 y7 y8 y9;clear HI0 HW Ho p0 p1 p2 p3 p4 p5 p6 p7 p8 p9 p10;go_upto_region 7 with fail
 generalize vT:w3.setCell _ _=W4;replace jK:Hid (LW w (m.cells (.slice A9 n9 c9) (.slice af n10 c10)) (dL lk ll (.slice (some ⟨g7,0,none⟩) (([]:List BkT).length+1) gm)) W4):=aen (by rw[←vT];exact jK.out);have HR0:Hid (MR rec q zs lk ll full w (.int .i64 t0) (.bool R.isSome) W4):=aen (by
  refine⟨m,A9,n9,c9,af,n10,c10,_,_,_,t0,rfl,jK.out,?_⟩;cases R with
  |none=>exact .inl ⟨rfl,dG⟩
  |some k=>exact .inr ⟨rfl,_,qI.out,yQ.out,hcb.2,by show 1≤t0;omega,aen (by rw[←vT];exact nG.out _ (dB.out k rfl)),dG⟩)
 have aee:=jK.out.bel.size;clear vT k10 aj Dz oC Dy nG jK dB dG qI yQ jA acO hlx;generalize R.isSome=rs at *;go_wp2_with fail;go_loopw [13,14] (fun v13 v14 wr=>MR rec q zs lk ll full w v13 v14 wr) (fun v13 _ _=>zs.length - (intOf v13).toNat);case atStart=>exact HR0.out
 case round=>
  clear HR0 hi hcb;obtain⟨m',B9,e9,f9,rM,e10,f10,AK,nK,cK,tt,rfl,eH,hcase⟩:=hrel;have qJ:=aen eH;have hbw:=eH.bel;have dU:=hbw.size;have hll:=eH.lst.lt;rcases hcase with ⟨rfl,oz⟩|⟨rfl,its,hok',Dx,htl,hit,bZ,oz⟩
  ·have HE:Hid (PR=none):=aen (by rw[bU.out,oz.out];rfl);obtain⟨k0,k1,k2,k3,k4,k5,k6,k7,k8,k9,k10,y0,y1,y2,y3,y4,y5,y6,y7,y8,y9,aj⟩:=ZB.facts eH.res;obtain⟨l0,l1,l2,l3,l4,l5,l6,l7,l8,l9,l10,j0,j1,j2,j3,j4,j5,j6,j7,j8,j9,j10⟩:=nC eH.lst;clear eH oz j0 j1 j2 j3 j4 j5 j6 j7 j8 j9 j10;go_wp2_with fail;exact Uc (ax qJ.out.res _ _ _ _ _ _ _ _ _ _ _) rfl rfl rfl rfl (Ba HE.out ⟨_,_,_,_,_,_,_,_,_,_,_,_,_,_,_,_,_,_,_,rfl⟩ (au qJ.out.bel (Nat.le_succ _) _ _ _ _ _ _ _ _ _ _ _))
  have kP:=aen (aS.out.below hbw);have Lm:=aen hok';have Lp:=aen Dx;have hn:=Dk zs tt htl;have pJ:Hid (∀j,tt≤j→j≤zs.length→(∀k,tt≤k→k<j→aF (ln zs k)=true)→(j<zs.length→aF (ln zs j)=false)→dS zs tt=j):=aen fun j h1 h2 h3 h4=>rC _ _ _ _ h1 h2 (fun k a b=>by rw[h3 k a b];rfl) (fun h=>by rw[h4 h];rfl);have hnl:its.length=nK:=by
   obtain⟨A',c',e⟩:=bZ.out.own;injection e with _ e _
   exact e.symm
  subst hnl;obtain⟨W4,vT⟩:∃W4,W4=wr:=⟨_,rfl⟩;subst vT;clear eH hok' Dx;go_upto_block 2 with fail
  go_cut [15] (fun s15 wx=>s15=.int .i64 (dS zs tt)∧W4=wx);case first=>
   go_wp2_with fail;go_loop [15] (fun v15=>∃j:Nat,v15=.int .i64 j∧tt≤j∧j≤zs.length∧Hid (∀k,tt≤k→k<j→aF (ln zs k)=true)) (fun v=>zs.length - (intOf v).toNat);case atStart=>exact⟨tt,rfl,aeo _,htl,aen fun k h1 h2=>absurd h2 (by omega)⟩
   case round=>
    obtain⟨j,rfl,hj1,hj,pK⟩:=hrel;by_cases hlt:j<zs.length
    ·have hc0:W4.cell? ⟨b,off+j,none⟩=some (.string (ln zs j)):=(hbw.cell (p:=⟨b,off+j,none⟩) hb).trans (bQ.out j hlt);have HB1:=aen fun W=>dm.out j W;cases hbz:aF (ln zs j) with
     |true=>
      rw[hbz] at HB1;have HX:Hid (∀k,tt≤k→k<j+1→aF (ln zs k)=true):=aen fun k h1 h2=>by
       by_cases e:k=j
       ·rw[e];exact hbz
       ·exact pK.out k h1 (by omega)
      clear hbz dm pJ pK;go_wp2_with fail;with_reducible refine(HB1.out _).mono ?_
      rintro e w9 ⟨rfl,rfl⟩;go_wp2_with fail;go_round;case rel=>exact⟨j+1,by go_num,by omega,by omega,HX⟩
      case measure=>simp[intOf];omega
     |false=>
      rw[hbz] at HB1;have HX:=aen (pJ.out j hj1 hj pK.out (fun _=>hbz));clear hbz dm pJ pK;go_wp2_with fail;with_reducible refine(HB1.out _).mono ?_
      rintro e w9 ⟨rfl,rfl⟩;go_wp2_with fail;go_meet;exact⟨by rw[HX.out],rfl⟩
    ·have HX:=aen (pJ.out j hj1 hj pK.out (fun h=>absurd h hlt));clear dm pJ pK;go_wp2_with fail;go_meet;exact⟨by rw[HX.out],rfl⟩
  case rest=>
  obtain⟨rfl,rfl⟩:=hcut;clear pJ dm;have Eu:Hid (full=if dS zs tt<zs.length∧iL m' (ai (ln zs (dS zs tt)))=true then (wu rec q zs (dS zs tt) (ai (ln zs (dS zs tt)))).map fun r=>(its++r.1,r.2) else some (its,tt)):=oz;clear oz;generalize dS zs tt=nx at *;have rQ:=aen fun W=>Uj.out nx W;have Ar:=aen (gK.out nx);have Au:=aen (Dv.out nx);have Hu:=aen fun hlt ho A9 n9 c9 af n10 c10 W h=>MS.out nx hlt (ai (ln zs nx)) ho A9 n9 c9 af n10 c10 W h;have bH:=aen fun hlt=>Du.out nx (ai (ln zs nx)) hlt its;have Hw:Hid (nx<zs.length→nx+1≤(aQ zs nx (ai (ln zs nx))).2∧(aQ zs nx (ai (ln zs nx))).2≤zs.length):=aen fun hlt=>yG zs nx (ai (ln zs nx)) hlt;have Bf:=aen fun hlt=>bQ.out nx hlt;clear Uj gK Dv MS Du;generalize ai (ln zs nx)=mn at *;have xw:=aen fun D1 d1 D2 d2 W=>HSame.out m' mn Lm.out Ar.out.1 Ar.out.2 B9 rM D1 D2 e9 f9 e10 f10 mn.att.cl.length d1 mn.att.pr.length d2 W;generalize ln zs nx=zn at *;unfold ag.cells at rQ xw;obtain⟨st,hst⟩:∃st:Bool,st=!(decide (nx<zs.length)&&iL m' mn):=⟨_,rfl⟩;have HST:=aen hst;clear HSame hst;go_upto_region 11 with fail
  go_cut [71] from 43 to 94 (fun s71 wx=>s71=.bool st∧LW w (m'.cells (.slice B9 e9 f9) (.slice rM e10 f10)) (dL lk ll (.slice AK its.length cK)) wx∧Hid (aX wx (w.heap.size+3) (fun _=>False) (.slice AK its.length cK) its));case first=>
   clear Hu bH Hw Au Eu bU Dt hit kN;by_cases hlt:nx<zs.length
   ·have hc0:W4.cell? ⟨b,off+nx,none⟩=some (.string zn):=(hbw.cell (p:=⟨b,off+nx,none⟩) hb).trans (Bf.out hlt);have d0:decide ((zs.length:Int)≤(nx:Int))=false:=aep (by omega);have d1:decide (zs.length≤nx)=false:=aep (by omega);have MU:Hid (st=!iL m' mn):=aen (by rw[HST.out,aeq hlt,Bool.true_and]);have bu:Hid (∀W',Below W4.heap.size W4 W'→(W'.cell? ⟨b,off+nx,none⟩=some (.string zn)∧W'.cell? ⟨w.heap.size,0,none⟩=some (.int .i64 m'.kind)∧W'.cell? ⟨w.heap.size,1,none⟩=some (.int .i64 m'.n)∧W'.cell? ⟨w.heap.size,2,none⟩=some (.string m'.ch)∧W'.cell? ⟨w.heap.size,3,none⟩=some (.int .i64 m'.off)∧W'.cell? ⟨w.heap.size,4,none⟩=some (.string m'.info)∧W'.cell? ⟨w.heap.size,5,none⟩=some (.string m'.rest)∧W'.cell? ⟨w.heap.size,6,none⟩=some (.string m'.dest)∧W'.cell? ⟨w.heap.size,7,none⟩=some (.string m'.title)∧W'.cell? ⟨w.heap.size,8,none⟩=some (.string m'.att.id)∧W'.cell? ⟨w.heap.size,9,none⟩=some (.slice B9 e9 f9)∧W'.cell? ⟨w.heap.size,10,none⟩=some (.slice rM e10 f10)∧Below W4.heap.size W4 W')):=aen fun W' h=>by
     obtain⟨p0,p1,p2,p3,p4,p5,p6,p7,p8,p9,p10,x0,x1,x2,x3,x4,x5,x6,x7,x8,x9,x10⟩:=az (qJ.out.aP.below h qJ.out.aP.lt);exact⟨(h.cell (p:=⟨b,off+nx,none⟩) (by show b<_;omega)).trans hc0,p0,p1,p2,p3,p4,p5,p6,p7,p8,p9,p10,h⟩
    have nJ:=aen (aer W4.heap.size W4);clear hc0 HST Bf;go_wp2_with fail;refine wp_region_held_drew (S:=fun W'=>W'.cell? ⟨b,off+nx,none⟩=some (.string zn)∧W'.cell? ⟨w.heap.size,0,none⟩=some (.int .i64 m'.kind)∧W'.cell? ⟨w.heap.size,1,none⟩=some (.int .i64 m'.n)∧W'.cell? ⟨w.heap.size,2,none⟩=some (.string m'.ch)∧W'.cell? ⟨w.heap.size,3,none⟩=some (.int .i64 m'.off)∧W'.cell? ⟨w.heap.size,4,none⟩=some (.string m'.info)∧W'.cell? ⟨w.heap.size,5,none⟩=some (.string m'.rest)∧W'.cell? ⟨w.heap.size,6,none⟩=some (.string m'.dest)∧W'.cell? ⟨w.heap.size,7,none⟩=some (.string m'.title)∧W'.cell? ⟨w.heap.size,8,none⟩=some (.string m'.att.id)∧W'.cell? ⟨w.heap.size,9,none⟩=some (.slice B9 e9 f9)∧W'.cell? ⟨w.heap.size,10,none⟩=some (.slice rM e10 f10)∧Below W4.heap.size W4 W') (by kernel_rfl) (bu.out _ nJ.out.drew) (fun hHeld=>?_);refine tk 0 (.int .i64 nx) rfl hHeld (fun W' hSw=>?_) ?_
    ·obtain⟨h0,h1,h2,h3,h4,h5,h6,h7,h8,h9,h10,h11,h12⟩:=hSw;go_simp
    refine tk 1 (.slice (some ⟨b,off,none⟩) zs.length c) rfl hHeld (fun W' hSw=>?_) ?_
    ·obtain⟨h0,h1,h2,h3,h4,h5,h6,h7,h8,h9,h10,h11,h12⟩:=hSw;go_simp
    refine tk 2 (.int .i64 zs.length) rfl hHeld (fun W' hSw=>?_) ?_
    ·obtain⟨h0,h1,h2,h3,h4,h5,h6,h7,h8,h9,h10,h11,h12⟩:=hSw;go_simp
    refine tk 3 (.bool false) rfl hHeld (fun W' hSw=>?_) ?_
    ·obtain⟨h0,h1,h2,h3,h4,h5,h6,h7,h8,h9,h10,h11,h12⟩:=hSw;go_simp
    refine tk 4 (.bool false) rfl hHeld (fun W' hSw=>?_) ?_
    ·obtain⟨h0,h1,h2,h3,h4,h5,h6,h7,h8,h9,h10,h11,h12⟩:=hSw;go_simp
    refine tk 5 (.agg #[.int .i64 m'.kind,.int .i64 m'.n,.string m'.ch,.int .i64 m'.off,.string m'.info,.string m'.rest,.string m'.dest,.string m'.title,.string m'.att.id,.slice B9 e9 f9,.slice rM e10 f10]) rfl hHeld (fun W' hSw=>?_) ?_
    ·obtain⟨h0,h1,h2,h3,h4,h5,h6,h7,h8,h9,h10,h11,h12⟩:=hSw;go_simp
    refine tk 6 (.slice (some ⟨b,off,none⟩) zs.length c) rfl hHeld (fun W' hSw=>?_) ?_
    ·obtain⟨h0,h1,h2,h3,h4,h5,h6,h7,h8,h9,h10,h11,h12⟩:=hSw;go_simp
    refine tk 7 (.int .i64 nx) rfl hHeld (fun W' hSw=>?_) ?_
    ·obtain⟨h0,h1,h2,h3,h4,h5,h6,h7,h8,h9,h10,h11,h12⟩:=hSw;go_simp
    refine tk 8 (.pointer (some ⟨b,off+nx,none⟩)) rfl hHeld (fun W' hSw=>?_) ?_
    ·obtain⟨h0,h1,h2,h3,h4,h5,h6,h7,h8,h9,h10,h11,h12⟩:=hSw;go_simp
    refine tk 9 (.string zn) rfl hHeld (fun W' hSw=>?_) ?_
    ·obtain⟨h0,h1,h2,h3,h4,h5,h6,h7,h8,h9,h10,h11,h12⟩:=hSw;go_simp
    refine aC 10 rfl (fun K hK=>?_);go_simp;with_reducible refine(rQ.out _).mono ?_
    rintro e W8 ⟨D1,d1,D2,d2,rfl,b8⟩;have MV:Below W4.heap.size W4 W8:=nJ.out.drew.trans b8;go_simp;refine hK.out _ _ (bu.out _ MV) (fun hHeld=>?_);clear hK K;refine aC 11 rfl (fun K hK=>?_);go_simp;with_reducible refine(xw.out D1 d1 D2 d2 _).mono ?_
    rintro e W9 ⟨rfl,oI⟩;have b9:Below W4.heap.size W4 W9:=MV.trans (oI.mono MV.size);go_simp;refine hK.out _ _ (bu.out _ b9) (fun hHeld=>?_);clear hK K;refine aC 12 rfl (fun K hK=>?_);go_simp;refine hK.out _ _ (hHeld) (fun hHeld=>?_);clear hK K;refine aC 13 rfl (fun K hK=>?_);go_simp;refine hK.out _ _ (hHeld) (fun _=>?_);clear hK K;refine wpAnyH_done (by kernel_rfl) ?_ _;all_goals
     have nH:=aen (qJ.out.next b9);have uu:=aen (bZ.out.below b9);go_wp2_with fail;go_meet;exact⟨by rw[MU.out],nH.out,uu⟩
   ·have d0:decide ((zs.length:Int)≤(nx:Int))=true:=aeq (by omega);have d1:decide (zs.length≤nx)=true:=aeq (by omega);have MU:Hid (st=true):=aen (by rw[HST.out,aep hlt,Bool.false_and];rfl);clear HST Bf xw rQ;go_wp2_with fail;go_quiet (fail);go_wp2_with fail;go_meet;exact⟨by rw[MU.out],⟨ae.drewN qJ.out.aP nq,ae.drewN qJ.out.res nq,ae.drewN qJ.out.lst nq,below_drewN qJ.out.bel nq⟩,aen (bZ.out.below (below_drewN (aer _ W4) nq))⟩
  case rest=>
  obtain⟨rfl,Uk,uu⟩:=hcut;have nH:=aen Uk;clear Uk qJ bZ xw hbw dU kP hll;cases st with
  |true=>
   have lC:Hid (full=some (its,tt)):=aen (by
    rw[Eu.out,if_neg];rintro ⟨h1,h2⟩;have:=HST.out;rw[aeq h1,h2] at this;cases this)
   obtain⟨k0,k1,k2,k3,k4,k5,k6,k7,k8,k9,k10,y0,y1,y2,y3,y4,y5,y6,y7,y8,y9,aj⟩:=ZB.facts nH.out.res;obtain⟨l0,l1,l2,l3,l4,l5,l6,l7,l8,l9,l10,j0,j1,j2,j3,j4,j5,j6,j7,j8,j9,j10⟩:=nC nH.out.lst;clear Eu bH Hu rQ Au Ar Hw Bf HST j0 j1 j2 j3 j4 j5 j6 j7 j8 j9 j10;go_wp2_with fail;exact Uc (ax nH.out.res _ _ _ _ _ _ _ _ _ _ _) rfl rfl rfl rfl (oH (by rw[bU.out,lC.out];show some (lW m _,tt)=_;rw[Dt.out]) (iq (att:=ak) (aW.empty _ _ _ _) (jg _ _) ((aX.kids (uu.out.far (aV _ _ _ _ _ _ _ _ _ _ _ _ _) (by omega))).low (by omega))) (au nH.out.bel (Nat.le_succ _) _ _ _ _ _ _ _ _ _ _ _))
  |false=>
   have Hz:Hid (nx<zs.length∧iL m' mn=true):=aen (by
    have h:=HST.out;cases h1:decide (nx<zs.length) with
    |false=>rw[h1] at h;cases h
    |true=>
     rw[h1] at h;cases h2:iL m' mn with
     |false=>rw[h2] at h;cases h
     |true=>exact⟨of_decide_eq_true h1,rfl⟩)
   have hlt:=Hz.out.1;have hcb:=Hw.out hlt;have hc5:wc.cell? ⟨b,off+nx,none⟩=some (.string zn):=(nH.out.bel.cell (p:=⟨b,off+nx,none⟩) hb).trans (Bf.out hlt);have hkk:=Sr Hz.out.2;have Gy:Hid (full=(wu rec q zs nx mn).map fun r=>(its++r.1,r.2)):=aen (by rw[Eu.out,if_pos Hz.out]);have MW:Hid (full=match zB rec q zs nx mn with | none=>none | some k=>Es rec q zs (its++[fe 9 k]) (aQ zs nx mn).2 mn):=aen (by rw[Gy.out];exact bH.out hlt);have DF:Hid (mn.kind=5∨mn.kind=6):=aen (by rw[←hkk];exact Lp.out);have Ae:=aen (Au.out DF.out);have MX:=aen fun A9 n9 c9 af n10 c10 W h=>Hu.out hlt Ae.out A9 n9 c9 af n10 c10 W h;unfold Ht ag.cells at MX;obtain⟨p0,p1,p2,p3,p4,p5,p6,p7,p8,p9,p10,x0,x1,x2,x3,x4,x5,x6,x7,x8,x9,x10⟩:=az nH.out.aP;clear Eu Gy bH Hu Au hkk Hz Hw Bf HST p0 p1 p2 p3 p4 p5 p6 p7 p8 p9 p10;generalize zB rec q zs nx mn=R at *;generalize (aQ zs nx mn).2=t0 at *;have hml:=nH.out.aP.lt;go_wp2_with fail;with_reducible refine(rQ.out _).mono ?_
   rintro e w6 ⟨D3,d3,D4,d4,rfl,b6⟩;have rU:Hid (LW w #[.int .i64 m'.kind,.int .i64 m'.n,.string m'.ch,.int .i64 m'.off,.string m'.info,.string m'.rest,.string m'.dest,.string m'.title,.string m'.att.id,.slice B9 e9 f9,.slice rM e10 f10] (dL lk ll (.slice AK its.length cK)) w6):=aen (nH.out.next b6);have yT:=aen (uu.out.below b6);have aef:=rU.out.aP.lt;obtain⟨p0,p1,p2,p3,p4,p5,p6,p7,p8,p9,p10,x0,x1,x2,x3,x4,x5,x6,x7,x8,x9,x10⟩:=az rU.out.aP;clear rQ nH uu b6;go_upto_region 13 with fail
   generalize MY:World.setCell _ _ _=W7;have nI:Hid (LW w #[.int .i64 mn.kind,.int .i64 mn.n,.string mn.ch,.int .i64 mn.off,.string mn.info,.string mn.rest,.string mn.dest,.string mn.title,.string mn.att.id,.slice D3 mn.att.cl.length d3,.slice D4 mn.att.pr.length d4] (dL lk ll (.slice AK its.length cK)) W7):=aen (by rw[←MY];exact rU.out.acM _ _ _ _ _ _ _ _ _ _ _);have DD:Hid (aX W7 (w.heap.size+3) (fun _=>False) (.slice AK its.length cK) its):=aen (by rw[←MY];exact aX.far yT.out (aV _ _ _ _ _ _ _ _ _ _ _ _ _) (by omega));have MH:=nI.out.lst.lt;clear p0 p1 p2 p3 p4 p5 p6 p7 p8 p9 p10;obtain⟨p0,p1,p2,p3,p4,p5,p6,p7,p8,p9,p10,y0,y1,y2,y3,y4,y5,y6,y7,y8,y9,aj⟩:=az nI.out.aP;clear MY rU yT x0 x1 x2 x3 x4 x5 x6 x7 x8 x9 x10 y0 y1 y2 y3 y4 y5 y6 y7 y8 y9 aj;go_wp2_with fail;rw[kN.out];with_reducible refine(MX.out D3 _ d3 D4 _ d4 _ (aS.out.below nI.out.bel)).mono ?_
   rintro e w2 ⟨b2,v,rfl,⟨f0,f1,f2,f3,f4,f5,f6,X9,x9n,su,sD,x10n,sF,sG,x11n,sH,sJ,sK,sN,rfl⟩,hrep⟩;have dB:=aen hrep;have hab:kL #[.int .i64 f0,.int .i64 f1,.string f2,.string f3,.string f4,.string f5,.string f6,.slice X9 x9n su,.slice sD x10n sF,.slice sG x11n sH,.slice sJ sK sN]:=⟨_,_,_,_,_,_,_,_,_,_,_,_,_,_,_,_,_,_,_,rfl⟩;have nD:=aen (nI.out.next b2);have jA:=b2.size;have rP:=aen b2;obtain⟨S,vs,hS,hkk,hown⟩:=DD.out;have hown2:=own_below hown b2;have hv7:=hown.lt;have HKK:=aen hkk;have ji:=aen hS;have hlx:=nI.out.lst.lt;have zC:=aen (nD.out.next ((aer _ w2).alloc (aeo _) (.cells #[.int .i64 f0,.int .i64 f1,.string f2,.string f3,.string f4,.string f5,.string f6,.slice X9 x9n su,.slice sD x10n sF,.slice sG x11n sH,.slice sJ sK sN] 46)));obtain⟨k0,k1,k2,k3,k4,k5,k6,k7,k8,k9,k10,y0,y1,y2,y3,y4,y5,y6,y7,y8,y9,aj⟩:=nC zC.out.lst;have Dy:=nD.out.lst.lt;clear hrep hkk hS hown b2 k0 k1 k2 k3 k4 k5 k6 k7 k8 k9 y0 y1 y2 y3 y4 y5 y6 y7 y8 y9 aj;go_wp2_with (at_builtin;refine wpList_append_lies _ rfl _ _ 25 rfl (w.heap.size+3) 46 i0 _ 11 192 Tryz.underlying25 hi0 hz0 hz1 hz2 rfl (by decide) _ _ _ rfl ((hown2.alloc _).alloc _) ⟨w2.heap.size+1,0,none⟩ 1 1 _ rfl hab.len ?d1 hab.one (by decide) ?d3 ?d4 ?d5 (w2.heap.size+2) ?d6 ?_);case d3=>unfold maxLen;omega
   case d4=>omega
   case d5=>simp;omega
   case d6=>simp
   intro g7 gm w3 hown3 hgrow hlies hlt3;have jJ:Hid (∀kb,dw w2 (Rg W7.heap.size w2) #[.int .i64 f0,.int .i64 f1,.string f2,.string f3,.string f4,.string f5,.string f6,.slice X9 x9n su,.slice sD x10n sF,.slice sG x11n sH,.slice sJ sK sN] kb→aX w3 (w.heap.size+3) (fun _=>False) (.slice (some ⟨g7,0,none⟩) (its.length+1) gm) (its++[kb])):=aen fun kb hkb=>aX.push (E:=fun _=>False) ji.out HKK.out (rP.out.alloc rP.out.size (.cells #[.int .i64 f0,.int .i64 f1,.string f2,.string f3,.string f4,.string f5,.string f6,.slice X9 x9n su,.slice sD x10n sF,.slice sG x11n sH,.slice sJ sK sN] 46)) (fun k h=>(hv7 k h).2) (fun k h=>h.elim) (by omega) (by simp;omega) (hkb.low ((aer _ _).alloc (aeo _) _)) hown3 hgrow hlies (by simp);have oC:=aen (zC.out.grown hgrow (fun k e=>(hown2.lt k e).1));have nG:Hid (∀kb,dw w2 (Rg W7.heap.size w2) #[.int .i64 f0,.int .i64 f1,.string f2,.string f3,.string f4,.string f5,.string f6,.slice X9 x9n su,.slice sD x10n sF,.slice sG x11n sH,.slice sJ sK sN] kb→aX (w3.setCell ⟨w.heap.size+2,10,none⟩ (.slice (some ⟨g7,0,none⟩) (its.length+1) gm)) (w.heap.size+3) (fun _=>False) (.slice (some ⟨g7,0,none⟩) (its.length+1) gm) (its++[kb])):=aen fun kb hkb=>(jJ.out kb hkb).far (jo (vg w3 (some (w.heap.size+2))) 10 (.slice (some ⟨g7,0,none⟩) (its.length+1) gm)) (by omega);have jK:=aen (oC.out.store (v':=.slice (some ⟨g7,0,none⟩) (its.length+1) gm));obtain⟨k0,k1,k2,k3,k4,k5,k6,k7,k8,k9,k10,y0,y1,y2,y3,y4,y5,y6,y7,y8,y9,aj⟩:=nC oC.out.lst;have Dz:=oC.out.lst.lt;clear jJ nD zC hgrow hlies hown3 hown2 ji HKK rP hv7 hab k0 k1 k2 k3 k4 k5 k6 k7 k8 k9 y0 y1 y2 y3 y4 y5 y6 y7 y8 y9;clear MX nI DD p0 p1 p2 p3 p4 p5 p6 p7 p8 p9 p10;go_upto_region 15 with fail
   generalize MZ:w3.setCell _ _=W8;replace jK:Hid (LW w (mn.cells (.slice D3 mn.att.cl.length d3) (.slice D4 mn.att.pr.length d4)) (dL lk ll (.slice (some ⟨g7,0,none⟩) (its.length+1) gm)) W8):=aen (by rw[←MZ];exact jK.out);have HR8:Hid (MR rec q zs lk ll full w (.int .i64 t0) (.bool R.isSome) W8):=aen (by
    refine⟨mn,D3,_,d3,D4,_,d4,_,_,_,t0,rfl,jK.out,?_⟩;cases R with
    |none=>exact .inl ⟨rfl,MW⟩
    |some k=>exact .inr ⟨rfl,_,Ae.out,DF.out,hcb.2,by rw[aey];show its.length+1≤t0;omega,aen (by rw[←MZ];exact nG.out _ (dB.out k rfl)),MW⟩)
   clear MZ k10 aj Dz oC Dy nG jK dB MW jA hlx;generalize R.isSome=rs at *;go_wp2_with fail;go_roundw;case rel=>exact HR8.out
   case measure=>simp[intOf];omega
def acR(zs:List ByteArray)(m:ag)(MK:Array Value)(i:Nat)(w:World)(v8:Value)(wr:World):Prop:=
 ∃k:Nat,v8=.int .i64 k∧i≤k∧k≤zs.length∧CW w MK wr∧Hid (∀j,i≤j→j<k→qB zs m j=false)
theorem Ul(zs:List ByteArray)(A:Option Addr)(c i:Nat)(MM:Int)(m:ag)(A9:Option Addr)(n9 c9:Nat)(af:Option Addr)(n10 c10:Nat)(w:World)(hL:aG w A zs MM)(hi:i≤zs.length)(hn:0<zs.length) :
 Calls prog 84 #[.slice A zs.length c,.int .i64 i,.agg (m.cells (.slice A9 n9 c9) (.slice af n10 c10))] w (yM (bD zs m (i)) (qC zs m (i)) w):=by
 have hlen:=hL.len;obtain⟨b,off,rfl,hb,hcell⟩:=hL.get (by omega);have bQ:=aen hcell;have HC:Hid (∀k W,Calls prog 134 #[.string (ln zs k),.agg (m.cells (.slice A9 n9 c9) (.slice af n10 c10))] W (ug (fP (ln zs k) m.kind m.n m.ch) W)):=aen fun k W=>abM (ln zs k) m.kind m.n m.off m.ch m.info m.rest m.dest m.title m.att.id A9 n9 c9 af n10 c10 W (aev (dh hL.sz k) (by decide));have HS:=aen (Gn w (m.cells (.slice A9 n9 c9) (.slice af n10 c10)));have HP:Hid (∀k,qB zs m k=(fP (ln zs k) m.kind m.n m.ch).2):=aen fun k=>rfl;have HH:=aen fun k=>RV zs m (i) k;have HN:=aen (RX zs m (i) (by omega));clear hL hcell;go_enter Tryz.func84,Tryz.ntmps84;unfold ag.cells;go_wp2_with fail;go_loopw [8] (fun v8 wr=>acR zs m (m.cells (.slice A9 n9 c9) (.slice af n10 c10)) i w v8 wr) (fun v8 _=>zs.length - (intOf v8).toNat);case atStart=>exact⟨i,rfl,aeo _,by omega,HS.out,aen fun j h1 h2=>absurd h2 (by omega)⟩
 case round=>
  clear HS;obtain⟨k,rfl,hk1,hk,jW,Hno⟩:=hrel;have HW:=aen jW;by_cases hlt:k<zs.length
  ·have hbw:=jW.bel;have hc0:wr.cell? ⟨b,off+k,none⟩=some (.string (ln zs k)):=(hbw.cell (p:=⟨b,off+k,none⟩) hb).trans (bQ.out k hlt);obtain⟨k0,k1,k2,k3,k4,k5,k6,k7,k8,k9,k10,y0,y1,y2,y3,y4,y5,y6,y7,y8,y9,aj⟩:=az jW.aP;have hwz:w.heap.size+1<wr.heap.size:=jW.at_.lt;have HS:Hid (∀W,Below (w.heap.size+2) wr W→(W.cell? ⟨b,off+k,none⟩=some (.string (ln zs k))∧W.cell? ⟨w.heap.size,0,none⟩=some (.int .i64 m.kind)∧W.cell? ⟨w.heap.size,1,none⟩=some (.int .i64 m.n)∧W.cell? ⟨w.heap.size,2,none⟩=some (.string m.ch)∧W.cell? ⟨w.heap.size,3,none⟩=some (.int .i64 m.off)∧W.cell? ⟨w.heap.size,4,none⟩=some (.string m.info)∧W.cell? ⟨w.heap.size,5,none⟩=some (.string m.rest)∧W.cell? ⟨w.heap.size,6,none⟩=some (.string m.dest)∧W.cell? ⟨w.heap.size,7,none⟩=some (.string m.title)∧W.cell? ⟨w.heap.size,8,none⟩=some (.string m.att.id)∧W.cell? ⟨w.heap.size,9,none⟩=some (.slice A9 n9 c9)∧W.cell? ⟨w.heap.size,10,none⟩=some (.slice af n10 c10)∧Below (w.heap.size+2) wr W)):=aen fun W hW=>by
    obtain⟨k0,k1,k2,k3,k4,k5,k6,k7,k8,k9,k10,y0,y1,y2,y3,y4,y5,y6,y7,y8,y9,aj⟩:=az (jW.aP.below hW (by omega));exact⟨(hW.cell (p:=⟨b,off+k,none⟩) (by show b<_;omega)).trans hc0,k0,k1,k2,k3,k4,k5,k6,k7,k8,k9,k10,hW⟩
   have HB0:Hid (Below (w.heap.size+2) wr wr):=aen (aer _ _);have vO:=HP.out k;have s0:=HS.out wr HB0.out;have qH:Hid (∀W,(W.cell? ⟨b,off+k,none⟩=some (.string (ln zs k))∧W.cell? ⟨w.heap.size,0,none⟩=some (.int .i64 m.kind)∧W.cell? ⟨w.heap.size,1,none⟩=some (.int .i64 m.n)∧W.cell? ⟨w.heap.size,2,none⟩=some (.string m.ch)∧W.cell? ⟨w.heap.size,3,none⟩=some (.int .i64 m.off)∧W.cell? ⟨w.heap.size,4,none⟩=some (.string m.info)∧W.cell? ⟨w.heap.size,5,none⟩=some (.string m.rest)∧W.cell? ⟨w.heap.size,6,none⟩=some (.string m.dest)∧W.cell? ⟨w.heap.size,7,none⟩=some (.string m.title)∧W.cell? ⟨w.heap.size,8,none⟩=some (.string m.att.id)∧W.cell? ⟨w.heap.size,9,none⟩=some (.slice A9 n9 c9)∧W.cell? ⟨w.heap.size,10,none⟩=some (.slice af n10 c10)∧Below (w.heap.size+2) wr W)→w.heap.size+2≤W.heap.size):=aen fun W h=>by have:=h.2.2.2.2.2.2.2.2.2.2.2.2.size;omega
   have vS:Hid (∀W o,(W.cell? ⟨b,off+k,none⟩=some (.string (ln zs k))∧W.cell? ⟨w.heap.size,0,none⟩=some (.int .i64 m.kind)∧W.cell? ⟨w.heap.size,1,none⟩=some (.int .i64 m.n)∧W.cell? ⟨w.heap.size,2,none⟩=some (.string m.ch)∧W.cell? ⟨w.heap.size,3,none⟩=some (.int .i64 m.off)∧W.cell? ⟨w.heap.size,4,none⟩=some (.string m.info)∧W.cell? ⟨w.heap.size,5,none⟩=some (.string m.rest)∧W.cell? ⟨w.heap.size,6,none⟩=some (.string m.dest)∧W.cell? ⟨w.heap.size,7,none⟩=some (.string m.title)∧W.cell? ⟨w.heap.size,8,none⟩=some (.string m.att.id)∧W.cell? ⟨w.heap.size,9,none⟩=some (.slice A9 n9 c9)∧W.cell? ⟨w.heap.size,10,none⟩=some (.slice af n10 c10)∧Below (w.heap.size+2) wr W)→((W.alloc o).cell? ⟨b,off+k,none⟩=some (.string (ln zs k))∧(W.alloc o).cell? ⟨w.heap.size,0,none⟩=some (.int .i64 m.kind)∧(W.alloc o).cell? ⟨w.heap.size,1,none⟩=some (.int .i64 m.n)∧(W.alloc o).cell? ⟨w.heap.size,2,none⟩=some (.string m.ch)∧(W.alloc o).cell? ⟨w.heap.size,3,none⟩=some (.int .i64 m.off)∧(W.alloc o).cell? ⟨w.heap.size,4,none⟩=some (.string m.info)∧(W.alloc o).cell? ⟨w.heap.size,5,none⟩=some (.string m.rest)∧(W.alloc o).cell? ⟨w.heap.size,6,none⟩=some (.string m.dest)∧(W.alloc o).cell? ⟨w.heap.size,7,none⟩=some (.string m.title)∧(W.alloc o).cell? ⟨w.heap.size,8,none⟩=some (.string m.att.id)∧(W.alloc o).cell? ⟨w.heap.size,9,none⟩=some (.slice A9 n9 c9)∧(W.alloc o).cell? ⟨w.heap.size,10,none⟩=some (.slice af n10 c10)∧Below (w.heap.size+2) wr (W.alloc o))):=aen fun W o h=>HS.out _ (h.2.2.2.2.2.2.2.2.2.2.2.2.alloc (by have:=h.2.2.2.2.2.2.2.2.2.2.2.2.size;omega) o);have yN:Hid (∀W,(W.cell? ⟨b,off+k,none⟩=some (.string (ln zs k))∧W.cell? ⟨w.heap.size,0,none⟩=some (.int .i64 m.kind)∧W.cell? ⟨w.heap.size,1,none⟩=some (.int .i64 m.n)∧W.cell? ⟨w.heap.size,2,none⟩=some (.string m.ch)∧W.cell? ⟨w.heap.size,3,none⟩=some (.int .i64 m.off)∧W.cell? ⟨w.heap.size,4,none⟩=some (.string m.info)∧W.cell? ⟨w.heap.size,5,none⟩=some (.string m.rest)∧W.cell? ⟨w.heap.size,6,none⟩=some (.string m.dest)∧W.cell? ⟨w.heap.size,7,none⟩=some (.string m.title)∧W.cell? ⟨w.heap.size,8,none⟩=some (.string m.att.id)∧W.cell? ⟨w.heap.size,9,none⟩=some (.slice A9 n9 c9)∧W.cell? ⟨w.heap.size,10,none⟩=some (.slice af n10 c10)∧Below (w.heap.size+2) wr W)→Calls prog 134 #[.string (ln zs k),.agg #[.int .i64 m.kind,.int .i64 m.n,.string m.ch,.int .i64 m.off,.string m.info,.string m.rest,.string m.dest,.string m.title,.string m.att.id,.slice A9 n9 c9,.slice af n10 c10]] W fun e W'=>(∃A1 c1 A2 c2,e=.returned (.tuple #[.agg #[.string (fP (ln zs k) m.kind m.n m.ch).1.id,.slice A1 (fP (ln zs k) m.kind m.n m.ch).1.cl.length c1,.slice A2 (fP (ln zs k) m.kind m.n m.ch).1.pr.length c2],.bool (fP (ln zs k) m.kind m.n m.ch).2])∧aZ W' W.heap.size (fP (ln zs k) m.kind m.n m.ch).1 (.slice A1 (fP (ln zs k) m.kind m.n m.ch).1.cl.length c1) (.slice A2 (fP (ln zs k) m.kind m.n m.ch).1.pr.length c2))∧Below (w.heap.size+2) wr W'∧Below W.heap.size W W'):=aen fun W hW=>(HC.out k W).mono fun e W' ⟨⟨vC,vP,h1,h2⟩,h3⟩=>by
    have hb:=hW.2.2.2.2.2.2.2.2.2.2.2.2;have hsz:=hb.size;obtain⟨A1,c1,rfl⟩:=ay h2.cls;obtain⟨A2,c2,rfl⟩:=ay h2.aH;exact⟨⟨A1,c1,A2,c2,h1,h2⟩,hb.trans (h3.mono (by omega)),h3⟩
   clear jW hc0 k0 k1 k2 k3 k4 k5 k6 k7 k8 k9 k10 y0 y1 y2 y3 y4 y5 y6 y7 y8 y9 aj hbw HC HP;generalize hRR:fP (ln zs k) (m.kind:Int) (m.n:Int) m.ch=R at *;have HRR:=aen hRR;clear hRR;go_upto_region 4 with fail
   go_cut [9,10] from 12 to 29 (fun s9 s10 wx=>∃g A1 c1 A2 c2,s9=.pointer (some ⟨g,0,none⟩)∧s10=.bool R.2∧w.heap.size+2≤g∧ae wx g 43 #[.string R.1.id,.slice A1 R.1.cl.length c1,.slice A2 R.1.pr.length c2]∧aZ wx (w.heap.size+2) R.1 (.slice A1 R.1.cl.length c1) (.slice A2 R.1.pr.length c2)∧Below (w.heap.size+2) wr wx);case first=>
    have hu:undef=Value.tuple #[]:=rfl;obtain⟨k11,k0,k1,k2,k3,k4,k5,k6,k7,k8,k9,k10,_⟩:=s0;obtain⟨x11,x0,x1,x2,x3,x4,x5,x6,x7,x8,x9,x10,_⟩:=HS.out _ (HB0.out.alloc (qH.out _ (HS.out _ HB0.out)) (.cells #[.string ⟨#[]⟩,.slice none 0 0,.slice none 0 0] 43));go_region_with (first
     |(go_at_call 134;(with_reducible refine(yN.out _ (HS.out _ HB0.out.drew)).mono ?_);rintro e W9 ⟨⟨A1,c1,A2,c2,rfl,ho⟩,b9,b8⟩)
     |(go_at_call 134;(with_reducible refine(yN.out _ (HS.out _ (HB0.out.alloc (qH.out _ (HS.out _ HB0.out)) _).drew)).mono ?_);rintro e W9 ⟨⟨A1,c1,A2,c2,rfl,ho⟩,b9,b8⟩;(have q:ae W9 wr.heap.size 43 #[.string ⟨#[]⟩,.slice none 0 0,.slice none 0 0]:=ae.below (w:=(wr.alloc (.cells #[.string ⟨#[]⟩,.slice none 0 0,.slice none 0 0] 43)).drew) (ae.new wr _ _) b8 (by simp));obtain⟨q0,q1,q2,z0,z1,z2⟩:=pG q))
    all_goals
     go_wp2_with fail;go_meet;have hzz:=qH.out _ (HS.out _ b9);first
     |exact⟨W9.heap.size,A1,c1,A2,c2,rfl,rfl,hzz,ae.new W9 _ _,dN (ho.below ((aer _ _).alloc (aeo _) _)) (by simp;omega),b9.alloc hzz _⟩
     |exact⟨wr.heap.size,A1,c1,A2,c2,rfl,rfl,by omega,fZ q rfl _ _ _,dN (dR ho (tX W9 wr.heap.size _ _ _) (by simp)) (by simp;omega),below3 b9 (by omega) _ _ _⟩
   case rest=>
    obtain⟨g,A1,c1,A2,c2,rfl,rfl,hg,hblk,ho,hb2⟩:=hcut;clear yN qH vS HS s0 HB0;have HX:Hid (CW w (m.cells (.slice A9 n9 c9) (.slice af n10 c10)) wc):=aen ⟨HW.out.aP.below hb2 (by omega),HW.out.at_.below hb2 (by omega),HW.out.bel.trans (hb2.mono (by omega))⟩;have HO:=aen ho;obtain⟨q0,q1,q2,z0,z1,z2⟩:=pG hblk;cases hR2:R.2 with
    |true=>
     have HF:=aen (HH.out k hk1 hlt Hno.out (vO.trans hR2));obtain⟨p0,p1,p2,v0,v1,v2⟩:=pG HX.out.at_;have hzl:=HX.out.at_.lt;have rG:=aen HX.out.bel;have HAt:=aen HX.out.at_;clear ho hb2 hblk HW Hno HH HN vO HX;go_wp2_with fail;go_region;all_goals
      go_wp2_with fail;rw[HF.out.1,HF.out.2,HRR.out];exact Ue (ae.drewN (fZ HAt.out rfl _ _ _) 1) rfl rfl rfl ⟨⟨_,_,rfl,dN ((dR HO.out (tX wc (w.heap.size+1) _ _ _) (by omega)).below (below_drewN (aer _ _) 1)) (by omega)⟩,below_drewN (below3 rG.out (Nat.le_succ _) _ _ _) 1⟩
    |false=>
     have gQ:Hid (∀j,i≤j→j<k+1→qB zs m j=false):=aen fun j h1 h2=>by
      by_cases e:j=k
      ·rw[e,vO];exact hR2
      ·exact Hno.out j h1 (by omega)
     clear ho hb2 hblk HW HO q0 q1 q2 z0 z1 z2 vO Hno;go_wp2_with fail;go_roundw;case rel=>exact⟨k+1,by go_num,by omega,by omega,HX.out,gQ⟩
     case measure=>simp[intOf];omega
  ·obtain rfl:k=zs.length:=by omega
   have HF:=aen (HN.out Hno.out);obtain⟨p0,p1,p2,v0,v1,v2⟩:=pG jW.at_;have hzl:=jW.at_.lt;clear HN HH Hno jW;go_wp2_with fail;rw[HF.out.1,HF.out.2];exact Ue (fZ HW.out.at_ rfl _ _ _) rfl rfl rfl ⟨⟨_,_,rfl,wP _ _ (below3 HW.out.bel (Nat.le_succ _) _ _ _).size⟩,below3 HW.out.bel (Nat.le_succ _) _ _ _⟩
theorem Um(zs:List ByteArray)(A:Option Addr)(c i:Nat)(MM:Int)(w:World)(hL:aG w A zs MM)(hi:i≤zs.length) :
 Calls prog 141 #[.slice A zs.length c,.int .i64 i] w fun e w'=>e=.returned (.bool (decide (i<zs.length)&&decide (kindOf zs i=0)))∧Below w.heap.size w w':=by
 have hlen:=hL.len;by_cases hlt:i<zs.length
 ·obtain⟨b,off,rfl,hb,hcell⟩:=hL.get (by omega);have hc0:=hcell i hlt;have HM:Hid (∀W,Calls prog 80 #[.string (ln zs i)] W fun e w'=>∃A c D d,e=.returned (.agg ((ai (ln zs i)).cells (.slice A (ai (ln zs i)).att.cl.length c) (.slice D (ai (ln zs i)).att.pr.length d)))∧Below W.heap.size W w'):=aen fun W=>(Hg (ln zs i) W (aev (dh hL.sz i) (by decide))).mono fun e w'=>yE;have hkk:Hid (kindOf zs i=(ai (ln zs i)).kind):=aen rfl;have d0:decide (i<zs.length)=true:=aeq hlt;rw[d0,Bool.true_and,hkk.out];have HF:=aen Gz;clear hL hcell hkk;generalize ai (ln zs i)=m at *;unfold ag.cells at HM;obtain⟨q,hq,hz⟩:∃q:Bool,q=decide (m.kind=0)∧(((m.kind:Nat):Int)==0)=q:=by
   by_cases e:m.kind=0
   ·exact⟨true,(aeq e).symm,by rw[beq_iff_eq];omega⟩
   ·exact⟨false,(aep e).symm,by rw[aes];omega⟩
  rw[←hq];have HQ:=aen hz;clear hq;have hfd:=HF.out;go_enter Tryz.func141,Tryz.ntmps141;go_wp2_with fail;with_reducible refine(HM.out _).mono ?_
  rintro e w1 ⟨A1,c1,A2,c2,rfl,b1⟩;go_wp2_with fail;go_ret;exact⟨by first|rfl|(rw[←HQ.out];rfl),b1⟩
 ·have d0:decide (i<zs.length)=false:=aep hlt;have d1:decide ((i:Int)<(zs.length:Int))=false:=aep (by omega);rw[d0,Bool.false_and];clear hL;go_enter Tryz.func141,Tryz.ntmps141;go_wp2_with fail;go_ret;exact⟨rfl,aer _ _⟩
theorem Un(zs:List ByteArray)(A:Option Addr)(c i:Nat)(MM:Int)(w:World)(hL:aG w A zs MM)(hi:i≤zs.length) :
 Calls prog 137 #[.slice A zs.length c,.int .i64 i] w fun e w'=>e=.returned (.bool (gZ zs i))∧Below w.heap.size w w':=by
 have hlen:=hL.len;have HA:Hid (gZ zs i=(decide (i+1<zs.length)&&headB (bytesL (ln zs i)) (bytesL (ln zs (i+1))))):=aen rfl;by_cases hlt:i+1<zs.length
 ·obtain⟨b,off,rfl,hb,hcell⟩:=hL.get (by omega);have hc0:=hcell i (by omega);have hc1:=hcell (i+1) hlt;have HH:Hid (∀W,Calls prog 188 #[.string (ln zs i),.string (ln zs (i+1))] W fun e w'=>e=.returned (.bool (headB (bytesL (ln zs i)) (bytesL (ln zs (i+1)))))∧Below W.heap.size W w'):=aen fun W=>r_head (ln zs i) (ln zs (i+1)) W (aev (dh hL.sz i) (by decide)) (aev (dh hL.sz _) (by decide));have hi0:i<zs.length:=by omega
  have hi1:(0:Int)≤(i:Int)+1:=by omega
  have hi2:(i:Int)+1<(zs.length:Int):=by omega
  have hi3:((i:Int)+1).toNat=i+1:=by omega
  have hw1:IntKind.i64.wrap ((i:Int)+1)=(i:Int)+1:=IntWalk.i64_in _ (by omega);rw[HA.out,aeq hlt,Bool.true_and];clear hL hcell HA;generalize headB (bytesL (ln zs i)) (bytesL (ln zs (i+1)))=q at *;generalize ln zs i=zk at *;generalize ln zs (i+1)=AB at *;have nJ:=aen (aer w.heap.size w);have bu:Hid (∀W',Below w.heap.size w W'→(W'.cell? ⟨b,off+i,none⟩=some (.string zk)∧W'.cell? ⟨b,off+(i+1),none⟩=some (.string AB)∧Below w.heap.size w W')):=aen fun W' h=>⟨(h.cell (p:=⟨b,off+i,none⟩) hb).trans hc0,(h.cell (p:=⟨b,off+(i+1),none⟩) hb).trans hc1,h⟩;go_enter Tryz.func137,Tryz.ntmps137;go_wp2_with fail;refine wp_region_held_drew (S:=fun W'=>W'.cell? ⟨b,off+i,none⟩=some (.string zk)∧W'.cell? ⟨b,off+(i+1),none⟩=some (.string AB)∧Below w.heap.size w W') (by kernel_rfl) (bu.out _ nJ.out.drew) (fun hHeld=>?_);refine tk 0 (.int .i64 i) rfl hHeld (fun W' hSw=>?_) ?_
  ·obtain⟨h0,h1,h2⟩:=hSw;go_simp
  refine tk 1 (.int .i64 ((i:Int)+1)) rfl hHeld (fun W' hSw=>?_) ?_
  ·obtain⟨h0,h1,h2⟩:=hSw;go_simp
  refine tk 2 (.slice (some ⟨b,off,none⟩) zs.length c) rfl hHeld (fun W' hSw=>?_) ?_
  ·obtain⟨h0,h1,h2⟩:=hSw;go_simp
  refine tk 3 (.int .i64 zs.length) rfl hHeld (fun W' hSw=>?_) ?_
  ·obtain⟨h0,h1,h2⟩:=hSw;go_simp
  refine tk 4 (.bool true) rfl hHeld (fun W' hSw=>?_) ?_
  ·obtain⟨h0,h1,h2⟩:=hSw;go_simp
  refine tk 5 (.bool true) rfl hHeld (fun W' hSw=>?_) ?_
  ·obtain⟨h0,h1,h2⟩:=hSw;go_simp
  refine tk 6 (.slice (some ⟨b,off,none⟩) zs.length c) rfl hHeld (fun W' hSw=>?_) ?_
  ·obtain⟨h0,h1,h2⟩:=hSw;go_simp
  refine tk 7 (.int .i64 i) rfl hHeld (fun W' hSw=>?_) ?_
  ·obtain⟨h0,h1,h2⟩:=hSw;go_simp
  refine tk 8 (.pointer (some ⟨b,off+i,none⟩)) rfl hHeld (fun W' hSw=>?_) ?_
  ·obtain⟨h0,h1,h2⟩:=hSw;go_simp
  refine tk 9 (.string zk) rfl hHeld (fun W' hSw=>?_) ?_
  ·obtain⟨h0,h1,h2⟩:=hSw;go_simp
  refine tk 10 (.slice (some ⟨b,off,none⟩) zs.length c) rfl hHeld (fun W' hSw=>?_) ?_
  ·obtain⟨h0,h1,h2⟩:=hSw;go_simp
  refine tk 11 (.int .i64 i) rfl hHeld (fun W' hSw=>?_) ?_
  ·obtain⟨h0,h1,h2⟩:=hSw;go_simp
  refine tk 12 (.int .i64 ((i:Int)+1)) rfl hHeld (fun W' hSw=>?_) ?_
  ·obtain⟨h0,h1,h2⟩:=hSw;go_simp
  refine tk 13 (.pointer (some ⟨b,off+(i+1),none⟩)) rfl hHeld (fun W' hSw=>?_) ?_
  ·obtain⟨h0,h1,h2⟩:=hSw;go_simp
  refine tk 14 (.string AB) rfl hHeld (fun W' hSw=>?_) ?_
  ·obtain⟨h0,h1,h2⟩:=hSw;go_simp
  refine aC 15 rfl (fun K hK=>?_);go_simp;with_reducible refine(HH.out _).mono ?_
  rintro e W9 ⟨rfl,b8⟩;have b9:Below w.heap.size w W9:=nJ.out.drew.trans b8;go_simp;refine hK.out _ _ (bu.out _ b9) (fun hHeld=>?_);clear hK K;refine aC 16 rfl (fun K hK=>?_);go_simp;refine hK.out _ _ (hHeld) (fun _=>?_);clear hK K;refine aC 17 rfl (fun K hK=>?_);go_simp;refine hK.out _ _ (hHeld) (fun _=>?_);clear hK K;refine wpAnyH_done (by kernel_rfl) ?_ _;all_goals
   go_wp2_with fail;go_ret;exact⟨rfl,b9⟩
 ·have d1:decide ((i:Int)+1<(zs.length:Int))=false:=aep (by omega);have d2:decide (i+1<zs.length)=false:=aep hlt;rw[HA.out,d2,Bool.false_and];clear hL HA;go_enter Tryz.func137,Tryz.ntmps137;go_wp2_with fail;go_quiet (fail);go_wp2_with fail;go_ret;exact⟨rfl,below_drewN (aer _ _) _⟩
end Go.Proofs.YtpoafhgbhnblmaaGreatDoor
