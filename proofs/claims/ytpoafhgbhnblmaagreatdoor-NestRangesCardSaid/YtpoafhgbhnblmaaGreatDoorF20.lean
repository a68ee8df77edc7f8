import Derived.Test.YtpoafhgbhnblmaaGreatDoorF19
import Derived.Great.BuildSlice
set_option linter.unusedVariables false
set_option linter.unusedSimpArgs false
set_option maxRecDepth 100000
set_option maxHeartbeats 20000000
namespace Go.Proofs.YtpoafhgbhnblmaaGreatDoor
open Go.Proofs.Tryz (prog)
open Go.RowKit
theorem KX(s:ByteArray)(w:World):Calls prog 69 #[.string s] w fun e w'=>∃v,e=.returned v∧ik w' (Rg w.heap.size w') v s∧Below w.heap.size w w':=by
 by_cases h:s.size=0
 ·obtain rfl:s=⟨#[]⟩:=ByteArray.ext (Array.eq_empty_of_size_eq_zero h);go_enter Tryz.func69,Tryz.ntmps69;go_wp2_with fail;go_ret;exact⟨_,rfl,by unfold ik;rw[if_pos h];rfl,aer _ _⟩
 ·have y1:(s.toList==[])=false:=by
   have h':s≠⟨#[]⟩:=fun e=>h (by rw[e];rfl);rw[←show (⟨#[]⟩:ByteArray).toList=[] by decide +kernel];exact(Lib.bytes_beq_false_iff _ _).2 h'
  have y2:s.toList.isEmpty=false:=by
   cases e:s.toList with
   |nil=>rw[e] at y1;cases y1
   |cons _ _=>rfl
  go_enter Tryz.func69,Tryz.ntmps69;go_wp2_with fail;go_ret;refine⟨_,rfl,?_,(aer _ w).alloc (aeo _) _⟩;unfold ik;rw[if_neg h];exact⟨_,_,rfl,ReadsS.block (cs:=(Ak s).toArray) (ae.new w _ _) ⟨aeo _,by simp⟩ rfl (by decide)⟩
theorem aau(zs:List ByteArray)(A:Option Addr)(c i k:Nat)(MM:Int)(w:World)(hL:aG w A zs MM)(hi:i+1≤k)(hk:k≤zs.length)(hc:zs.length≤c)(hcm:c≤maxLen) :
 Calls prog 73 #[.slice A zs.length c,.int .i64 i,.int .i64 k] w fun e w'=>e=.returned (.string (mk (fC (bz zs (i+1) k))))∧Below w.heap.size w w':=by
 unfold maxLen at hcm;obtain⟨b,off,rfl,hb,hcell⟩:=hL.get (by omega);have hlen:=hL.len;have HJ:=aen fun (A':Option Addr) (c':Nat) (h:A'=some ⟨b,off+(i+1),none⟩∨k=i+1)=>Ro (bz zs (i+1) k) A' c' w.heap.size w (hL.xn (i+1) k hi hk A' h).rd (aeo _) (hL.xn (i+1) k hi hk A' h).len (hL.xn (i+1) k hi hk A' h).sz;have hcl:=jE zs (i+1) k hi hk;rw[hcl] at HJ;generalize fC (bz zs (i+1) k)=J at *;clear hcell hL hcl;go_enter Tryz.func73,Tryz.ntmps73;go_wp2_with fail;all_goals
  with_reducible refine(HJ.out _ _ (by first|exact .inl rfl|exact .inr (by omega))).mono ?_
  rintro e w1 ⟨rfl,b1⟩;go_wp2_with fail;go_ret;exact⟨rfl,b1⟩
theorem Aq{w:World}{base size n:Nat}{e:TypeId}{v:Value}{xs:List Value}(h:w.ownsRow base e size v n xs):∃A c,v=.slice A n c∧n≤c∧c≤maxLen:=by
 rcases h.2 with ⟨rfl,rfl⟩|⟨g,cap,cur,rfl,_,_,h1,h2,_⟩
 ·exact⟨_,_,rfl,aeo _,Nat.zero_le _⟩
 ·exact⟨_,_,rfl,h1,h2⟩
theorem KY(s:ByteArray)(n:Nat):(aT s n).size≤s.size:=by unfold aT;rw[aex];omega
theorem Gp{zs:List ByteArray}{i k:Nat}{z:ByteArray}(h:z∈bz zs i k):z∈zs:=List.mem_of_mem_drop (List.mem_of_mem_take h)
theorem RD(zs:List ByteArray)(i:Nat)(m:ag)(hi:i<zs.length)(hM:∀z∈zs,z.size≤100000)(hr:m.rest.size≤100000):(aQ zs i m).1.length≤zs.length∧∀z∈(aQ zs i m).1,z.size≤100000:=by
 have hb:=Gl zs i m hi;unfold aQ;by_cases hn:uh zs i m=true
 ·rw[if_pos hn];exact⟨Nat.zero_le _,fun z hz=>absurd hz (by simp)⟩
 ·rw[if_neg hn];refine⟨?_,fun z hz=>?_⟩
  ·rw[aeC,List.length_map,jE _ _ _ hb.1 hb.2];omega
  ·rcases List.mem_cons.1 hz with rfl|hz
   ·exact hr
   ·obtain⟨y,hy,rfl⟩:=List.mem_map.1 hz;exact aev (KY _ _) (hM y (Gp hy))
def takeC(zs:List ByteArray)(i:Nat)(m:ag)(k:Nat):List ByteArray:=m.rest :: ((bz zs (i+1) (gy zs i m)).take k).map fun z=>aT z m.off
theorem RE(zs:List ByteArray)(i:Nat)(m:ag)(k:Nat)(h:i+1≤gy zs i m)(h2:gy zs i m≤zs.length)(hk:i+1+k≤gy zs i m):(takeC zs i m k).length=k+1:=by
 unfold takeC;rw[aeC,List.length_map,List.length_take,jE _ _ _ h h2];omega
theorem RF(zs:List ByteArray)(i:Nat)(m:ag)(k:Nat)(h2:gy zs i m≤zs.length)(hk:i+1+k<gy zs i m):strs (takeC zs i m (k+1))=strs (takeC zs i m k)++[.string (aT (ln zs (i+1+k)) m.off)]:=by
 have hl:(bz zs (i+1) (gy zs i m)).length=gy zs i m - (i+1):=jE _ _ _ (by omega) h2;unfold takeC strs;rw[List.take_succ_eq_append_getElem (by omega),List.map_append,List.map_cons,List.map_cons,List.map_append];rw[yF _ k (by omega),Gh zs _ _ _ hk];rfl
theorem RG(zs:List ByteArray)(i:Nat)(m:ag)(h2:gy zs i m≤zs.length)(h1:i+1≤gy zs i m)(hn:uh zs i m=false):aQ zs i m=(takeC zs i m (gy zs i m - (i+1)),gy zs i m):=by
 unfold aQ takeC;rw[if_neg (by rw[hn];exact Bool.false_ne_true),List.take_of_length_le (by rw[jE _ _ _ h1 h2];exact aeo _)]
def jf(w:World)(MK:Array Value)(W:World):Prop:=ae W w.heap.size 74 MK∧Below w.heap.size w W
theorem jf.start(w:World)(MK:Array Value):jf w MK (w.alloc (.cells MK 74)):=⟨ae.new w _ _,(aer _ w).alloc (aeo _) _⟩
theorem jf.next{w W W':World}{MK:Array Value}(h:jf w MK W)(hb:Below W.heap.size W W'):jf w MK W':=⟨h.1.below hb h.1.lt,h.2.trans (hb.mono h.2.size)⟩
def yH(r:List ByteArray × Nat)(MM:Int)(w:World)(e:Ending)(w':World):Prop:=(∃A c,e=.returned (.tuple #[.slice A r.1.length c,.int .i64 r.2])∧r.1.length≤c∧c≤maxLen∧aG w' A r.1 MM)∧Below w.heap.size w w'
def jI(zs:List ByteArray)(j:Nat):Bool:=!aF (ln zs j)
def RH(zs:List ByteArray)(i:Nat)(m:ag)(MK:Array Value)(w:World)(v8 v9:Value)(wr:World):Prop:=
 ∃j:Nat,v9=.int .i64 j∧v8=.int .i64 (iD (jI zs) (i+1) (j - (i+1)):Nat)∧i+1≤j∧j≤zs.length∧jf w MK wr∧Hid (∀k,i+1≤k→k<j→pq zs m k=false)
theorem Gq(zs:List ByteArray)(i j:Nat)(m:ag)(h1:i+1≤j)(h2:j≤zs.length)(hno:∀k,i+1≤k→k<j→pq zs m k=false)(hit:j<zs.length→pq zs m j=true):iD (jI zs) (i+1) (j - (i+1))=gy zs i m:=by
 unfold gy;rw[rC (pq zs m) zs.length (i+1) j h1 h2 hno hit];rfl
theorem RI(q:Nat→Bool)(i j:Nat)(h:i≤j):iD q i (j+1 - i)=if q j=true then j+1 else iD q i (j - i):=by
 rw[show j+1 - i=(j - i)+1 by omega];show (if q (i+(j - i))=true then i+(j - i)+1 else iD q i (j - i))=_;rw[show i+(j - i)=j by omega]
def KZ(zs:List ByteArray)(i:Nat)(m:ag)(MK:Array Value)(w:World)(v10 v67:Value)(wr:World):Prop:=
 ∃k:Nat,v67=.int .i64 k∧i+1+k≤gy zs i m∧wr.ownsRow (w.heap.size+1) 9 1 v10 (k+1) (strs (takeC zs i m k))∧jf w MK wr
theorem RJ(zs:List ByteArray)(A:Option Addr)(c i:Nat)(MM:Int)(m:ag)(A9:Option Addr)(n9 c9:Nat)(af:Option Addr)(n10 c10:Nat)(w:World)(hL:aG w A zs MM)(hi:i<zs.length)(hc:zs.length≤c)(hcm:c≤maxLen)(ho:m.off≤1000000)(hr:m.rest.size≤100000) :
 Calls prog 75 #[.slice A zs.length c,.int .i64 i,.agg (m.cells (.slice A9 n9 c9) (.slice af n10 c10))] w (yH (aQ zs i m) MM w):=by
 have hbd:=Gl zs i m hi;have hok:=aen (RD zs i m hi hL.sz hr);have hlen:=hL.len;obtain⟨b,off,rfl,hb,hcell⟩:=hL.get (by omega);have bQ:=aen hcell;have dm:Hid (∀j W,Calls prog 57 #[.string (ln zs j)] W fun e w'=>e=.returned (.bool (aF (ln zs j)))∧W=w'):=aen fun j W=>wS (ln zs j) W (aev (dh hL.sz j) (by decide));have aB:Hid (∀W,Calls prog 57 #[.string m.rest] W fun e w'=>e=.returned (.bool (aF m.rest))∧W=w'):=aen fun W=>wS m.rest W (by omega);have gK:Hid (∀j W,Calls prog 58 #[.string (ln zs j)] W fun e w'=>e=.returned (.int .i64 (ah (ln zs j) 0))∧W=w'):=aen fun j W=>zT (ln zs j) W (aev (dh hL.sz j) (by decide));have bH:Hid (∀j W,Calls prog 107 #[.string (ln zs j),.int .i64 (m.off:Nat)] W fun e w'=>e=.returned (.string (aT (ln zs j) m.off))∧W=w'):=aen fun j W=>Fq (ln zs j) m.off W (aev (dh hL.sz j) (by decide)) ho;have ni:Hid (uh zs i m=(aF m.rest&&(decide (zs.length≤i+1)||aF (ln zs (i+1))))):=aen rfl;have aS:=aen hL;have HW0:=aen (jf.start w (m.cells (.slice A9 n9 c9) (.slice af n10 c10)));clear hL hcell;by_cases hno:uh zs i m=true
 ·have HF:Hid (aQ zs i m=([],i+1)):=aen (by unfold aQ;rw[if_pos hno]);have hbr:aF m.rest=true:=by rw[ni.out,Bool.and_eq_true] at hno;exact hno.1
  rw[hbr] at aB;unfold ag.cells;by_cases h1:zs.length≤i+1
  ·have d1:decide ((zs.length:Int)≤(i:Int)+1)=true:=aeq (by omega);clear ni hno hbr dm gK bH;go_enter Tryz.func75,Tryz.ntmps75;go_wp2_with fail;with_reducible refine(aB.out _).mono ?_
   rintro e w1 ⟨rfl,rfl⟩;go_wp2_with fail;go_ret2;rw[HF.out];exact⟨⟨_,_,rfl,aeo _,Nat.zero_le _,⟨Reads.none_,Nat.zero_le _,fun z hz=>absurd hz (by simp),(aS.out.below HW0.out.2).cell⟩⟩,HW0.out.2⟩
  ·have d1:decide ((zs.length:Int)≤(i:Int)+1)=false:=aep (by omega);have hb1:aF (ln zs (i+1))=true:=by
    rw[ni.out,Bool.and_eq_true,Bool.or_eq_true] at hno;rcases hno.2 with h|h
    ·rw[decide_eq_true_eq] at h;omega
    ·exact h
   have HB1:=aen fun W=>dm.out (i+1) W;rw[hb1] at HB1;have hc1:=(HW0.out.2.cell (p:=⟨b,off+(i+1),none⟩) hb).trans (bQ.out (i+1) (by omega));unfold ag.cells at hc1;clear ni hno hbr dm gK bH hb1;go_enter Tryz.func75,Tryz.ntmps75;go_wp2_with fail;with_reducible refine(aB.out _).mono ?_
   rintro e w1 ⟨rfl,rfl⟩;go_wp2_with fail;with_reducible refine(HB1.out _).mono ?_
   rintro e w1 ⟨rfl,rfl⟩;go_wp2_with fail;go_ret2;rw[HF.out];exact⟨⟨_,_,rfl,aeo _,Nat.zero_le _,⟨Reads.none_,Nat.zero_le _,fun z hz=>absurd hz (by simp),(aS.out.below HW0.out.2).cell⟩⟩,HW0.out.2⟩
 have hno:uh zs i m=false:=by simpa using hno
 have HF:=aen (RG zs i m hbd.2 hbd.1 hno);have pF:Hid ((aF m.rest&&(decide (zs.length≤i+1)||aF (ln zs (i+1))))=false):=aen (by rw[←ni.out];exact hno);clear ni hno;go_enter Tryz.func75,Tryz.ntmps75;unfold ag.cells;go_upto_region 1 with fail
 go_cut [30] (fun La wx=>La=.bool false∧jf w (m.cells (.slice A9 n9 c9) (.slice af n10 c10)) wx);case first=>
  by_cases hbr:aF m.rest=true
  ·rw[hbr,Bool.true_and,Bool.or_eq_false_iff] at pF;rw[hbr] at aB;have h1:¬zs.length≤i+1:=of_decide_eq_false pF.out.1;have d1:decide ((zs.length:Int)≤(i:Int)+1)=false:=aep (by omega);have HB1:=aen fun W=>dm.out (i+1) W;rw[pF.out.2] at HB1;have hc1:=(HW0.out.2.cell (p:=⟨b,off+(i+1),none⟩) hb).trans (bQ.out (i+1) (by omega));unfold ag.cells at hc1;clear pF hbr dm gK bH HF;go_wp2_with fail;with_reducible refine(aB.out _).mono ?_
   rintro e w1 ⟨rfl,rfl⟩;go_wp2_with fail;with_reducible refine(HB1.out _).mono ?_
   rintro e w1 ⟨rfl,rfl⟩;go_wp2_with fail;go_meet;exact⟨rfl,HW0.out⟩
  ·have hbr:aF m.rest=false:=by simpa using hbr
   rw[hbr] at aB;clear pF hbr dm gK bH HF;go_wp2_with fail;with_reducible refine(aB.out _).mono ?_
   rintro e w1 ⟨rfl,rfl⟩;go_wp2_with fail;go_meet;exact⟨rfl,HW0.out⟩
 case rest=>
 obtain⟨rfl,hW⟩:=hcut;have HW:=aen hW;clear hW HW0 pF aB;go_upto_block 0 with fail
 go_cut [8] (fun s8 wx=>s8=.int .i64 (gy zs i m)∧jf w (m.cells (.slice A9 n9 c9) (.slice af n10 c10)) wx);case first=>
  go_wp2_with fail;go_loopw [8,9] (fun v8 v9 wr=>RH zs i m (m.cells (.slice A9 n9 c9) (.slice af n10 c10)) w v8 v9 wr) (fun _ v9 _=>zs.length - (intOf v9).toNat);case atStart=>exact⟨i+1,by go_num,by rw[Nat.sub_self];rfl,aeo _,by omega,HW.out,aen fun k h1 h2=>absurd h2 (by omega)⟩
  case round=>
   clear HW;obtain⟨j,rfl,rfl,hj1,hj,di,Hno⟩:=hrel;have HWr:=aen di;by_cases hlt:j<zs.length
   ·have hc0:=(di.2.cell (p:=⟨b,off+j,none⟩) hb).trans (bQ.out j hlt);have HB1:=aen fun W=>dm.out j W;have HI1:=aen fun W=>gK.out j W;have lz:Hid (pq zs m j=(!aF (ln zs j)&&decide (ah (ln zs j) 0<m.off))):=aen rfl;have pg:=aen (RI (jI zs) (i+1) j hj1);have HAt:=aen (Gq zs i j m hj1 hj Hno.out);have hnb:Hid (jI zs j=!aF (ln zs j)):=aen rfl;have hil:=kC (ln zs j);obtain⟨k0,k1,k2,k3,k4,k5,k6,k7,k8,k9,k10,y0,y1,y2,y3,y4,y5,y6,y7,y8,y9,aj⟩:=az di.1;clear di dm gK bH HF k0 k1 k2 k4 k5 k6 k7 k8 k9 k10 y0 y1 y2 y3 y4 y5 y6 y7 y8 y9 aj;generalize ah (ln zs j) 0=ind at *;generalize ln zs j=z at *;cases hbz:aF z with
    |true=>
     rw[hbz] at HB1 lz hnb;have gQ:Hid (∀k,i+1≤k→k<j+1→pq zs m k=false):=aen fun k h1 h2=>by
      by_cases e:k=j
      ·rw[e,lz.out];rfl
      ·exact Hno.out k h1 (by omega)
     have yI:Hid (iD (jI zs) (i+1) (j+1 - (i+1))=iD (jI zs) (i+1) (j - (i+1))):=aen (by rw[pg.out,hnb.out];rfl);clear lz pg hnb HAt Hno hbz HI1;generalize iD (jI zs) (i+1) (j - (i+1))=t at *;go_wp2_with fail;with_reducible refine(HB1.out _).mono ?_
     rintro e w1 ⟨rfl,rfl⟩;go_wp2_with fail;go_roundw;case rel=>exact⟨j+1,by go_num,by rw[yI.out],by omega,by omega,HWr.out,gQ⟩
     case measure=>simp[intOf];omega
    |false=>
     rw[hbz] at HB1 lz hnb;by_cases hst:ind<m.off
     ·have z1:decide ((ind:Int)<(m.off:Int))=true:=aeq (by omega);have z2:decide (ind<m.off)=true:=aeq hst;have HT:=aen (HAt.out fun _=>by rw[lz.out,aeq hst];rfl);clear lz pg hnb HAt Hno hbz hst;generalize iD (jI zs) (i+1) (j - (i+1))=t at *;go_wp2_with fail;with_reducible refine(HB1.out _).mono ?_
      rintro e w1 ⟨rfl,rfl⟩;go_wp2_with fail;go_quiet ((go_at_call 58;exact yw (HI1.out _)));go_wp2_with fail;go_meet;exact⟨by rw[HT.out],ae.drewN HWr.out.1 _,below_drewN HWr.out.2 _⟩
     ·have z1:decide ((ind:Int)<(m.off:Int))=false:=aep (by omega);have z2:decide (ind<m.off)=false:=aep hst;have gQ:Hid (∀k,i+1≤k→k<j+1→pq zs m k=false):=aen fun k h1 h2=>by
       by_cases e:k=j
       ·rw[e,lz.out,aep hst];rfl
       ·exact Hno.out k h1 (by omega)
      have yI:Hid (iD (jI zs) (i+1) (j+1 - (i+1))=j+1):=aen (by rw[pg.out,hnb.out];rfl);clear lz pg hnb HAt Hno hbz hst;generalize iD (jI zs) (i+1) (j - (i+1))=t at *;go_wp2_with fail;with_reducible refine(HB1.out _).mono ?_
      rintro e w1 ⟨rfl,rfl⟩;go_wp2_with fail;go_quiet ((go_at_call 58;exact yw (HI1.out _)));go_wp2_with fail;go_roundw;case rel=>exact⟨j+1,by go_num,by rw[yI.out];go_num,by omega,by omega,⟨ae.drewN HWr.out.1 _,below_drewN HWr.out.2 _⟩,gQ⟩
      case measure=>simp[intOf];omega
   ·have HT:=aen (Gq zs i j m hj1 hj Hno.out (fun h=>absurd h hlt));obtain rfl:j=zs.length:=by omega
    clear di HF dm gK bH Hno;generalize iD (jI zs) (i+1) (zs.length - (i+1))=t at *;go_wp2_with fail;go_meet;exact⟨by rw[HT.out],HWr.out⟩
 case rest=>
 obtain⟨rfl,hW⟩:=hcut;have HW:=aen hW;obtain⟨i0,hi0,hz0,hz1,hz2⟩:=info_parts ru;obtain⟨k0,k1,k2,k3,k4,k5,k6,k7,k8,k9,k10,y0,y1,y2,y3,y4,y5,y6,y7,y8,y9,aj⟩:=az hW.1;have hwz:w.heap.size<wc.heap.size:=hW.1.lt;have HT0:Hid (strs (takeC zs i m 0)=[.string m.rest]):=aen rfl;have vM:=aen fun k=>RE zs i m k hbd.1 hbd.2;have yJ:=aen fun k=>RF zs i m k hbd.2;have rF:Hid (∀(k:Nat) (v10 v67:Value) (wr:World),v67=.int .i64 k→i+1+k≤gy zs i m→wr.ownsRow (w.heap.size+1) 9 1 v10 (k+1) (strs (takeC zs i m k))→jf w (m.cells (.slice A9 n9 c9) (.slice af n10 c10)) wr→KZ zs i m (m.cells (.slice A9 n9 c9) (.slice af n10 c10)) w v10 v67 wr):=aen fun k _ _ _ h1 h2 h3 h4=>⟨k,h1,h2,h3,h4⟩;clear hW gK dm k0 k1 k2 k4 k6 k7 k8 k9 k10 y0 y1 y2 y3 y4 y5 y6 y7 y8 y9 aj;obtain⟨tt,xq⟩:∃tt,tt=gy zs i m:=⟨_,rfl⟩;rw[←xq] at hbd HF vM yJ rF ⊢;have yK:=aen xq;clear xq;unfold maxLen at hcm;have vN:Hid ((wc.alloc (.cells #[.string m.rest] 9)).ownsRow (w.heap.size+1) 9 1 (.slice (some ⟨wc.heap.size,0,none⟩) 1 1) 1 (strs (takeC zs i m 0))):=aen (World.ownsRow_lit wc #[.string m.rest] 1 hwz (by decide) rfl);have HW1:Hid (∀o,jf w (m.cells (.slice A9 n9 c9) (.slice af n10 c10)) (wc.alloc o)):=aen fun o=>HW.out.next ((aer _ _).alloc (aeo _) _)
 by_cases hci:c=i+1
 ·have xq:tt=i+1:=by omega
  go_wp2_with fail;go_loopw [10,67] (fun v10 v67 wr=>KZ zs i m (m.cells (.slice A9 n9 c9) (.slice af n10 c10)) w v10 v67 wr) (fun _ v67 _=>tt - (intOf v67).toNat);case atStart=>exact rF.out 0 _ _ _ rfl (by omega) vN.out (HW1.out _)
  case round=>
   obtain⟨k,rfl,hk,hown,di⟩:=hrel;rw[←yK.out] at hk;obtain rfl:k=0:=by omega
   have HOW:=aen hown;have HWr:=aen di;clear hown di vN HW1 rF HW k3 k5;go_wp2_with fail;go_ret2;rw[HF.out];have hto:tt - (i+1)=0:=by omega
   rw[hto];rw[hto] at HF;have hlen1:=vM.out 0 (by omega);obtain⟨A,cc,rfl,hc1,hc2⟩:=Aq HOW.out;rw[HF.out] at hok;refine⟨⟨A,cc,by rw[hlen1];rfl,by rw[hlen1];exact hc1,hc2,⟨?_,aev hok.out.1 hlen,hok.out.2,(aS.out.below HWr.out.2).cell⟩⟩,HWr.out.2⟩;rw[hlen1];exact Reads.of_own HOW.out
 ·go_wp2_with fail;go_loopw [10,67] (fun v10 v67 wr=>KZ zs i m (m.cells (.slice A9 n9 c9) (.slice af n10 c10)) w v10 v67 wr) (fun _ v67 _=>tt - (intOf v67).toNat);case atStart=>exact rF.out 0 _ _ _ rfl (by omega) vN.out (HW1.out _)
  case round=>
   clear vN HW1 HW;obtain⟨k,rfl,hk,hown,di⟩:=hrel;rw[←yK.out] at hk;have HWr:=aen di;have hrz:=di.2.size;have hlz:=di.1.lt;by_cases hlt:i+1+k<tt
   ·have hc0:wr.cell? ⟨b,off+(i+1)+k,none⟩=some (.string (ln zs (i+1+k))):=(di.2.cell (p:=⟨b,off+(i+1)+k,none⟩) hb).trans (by rw[Nat.add_assoc off];exact bQ.out (i+1+k) (by omega));obtain⟨p0,p1,p2,p3,p4,p5,p6,p7,p8,p9,p10,x0,x1,x2,x3,x4,x5,x6,x7,x8,x9,x10⟩:=az di.1;have jU:=aen fun W=>bH.out (i+1+k) W;have HE:=aen (yJ.out k hlt);clear di bH p0 p1 p2 p4 p5 p6 p7 p8 p9 p10 x0 x1 x2 x3 x4 x5 x6 x7 x8 x9 x10;generalize aT (ln zs (i+1+k)) m.off=y at *;generalize ln zs (i+1+k)=z at *;go_wp2_with fail;with_reducible refine(jU.out _).mono ?_
    rintro e w1 ⟨rfl,rfl⟩;go_wp2_with (at_builtin;refine wpList_append_own _ rfl _ _ 22 rfl (w.heap.size+1) 9 i0 _ 1 16 Tryz.underlying22 hi0 hz0 hz1 hz2 rfl (by decide) _ _ _ rfl (hown.alloc _) ⟨wr.heap.size,0,none⟩ 1 1 [.string y] rfl rfl ?c1 ?c2 ?c3 ?c4 ?c5 ?_);case c1=>
     intro j u hj;match j,hj with
     |0,hj=>simp at hj;subst hj;simp[Addr.add]
    case c2=>intro u hu;simp at hu;subst hu;rfl
    case c3=>unfold maxLen;omega
    case c4=>omega
    case c5=>simp;omega
    intro v' w2 hown3 hgrow _;have hnx:Below wr.heap.size wr w2∨True:=.inr trivial;have HW2:Hid (jf w (m.cells (.slice A9 n9 c9) (.slice af n10 c10)) w2):=aen ⟨(ae.alloc HWr.out.1 _).grown hgrow (fun e=>by have:=(hown.lt _ e.symm).1;omega),(HWr.out.2.alloc hrz _).grown hgrow (by simp;omega) (fun k hk=>by have:=(hown.lt k hk).1;omega)⟩;clear hown hgrow hnx;go_wp2_with fail;go_roundw;case rel=>exact rF.out (k+1) _ _ _ (by go_num) (by omega) (by rw[HE.out];exact hown3) HW2.out
    case measure=>simp[intOf];omega
   ·obtain rfl:tt=i+1+k:=by omega
    have HOW:=aen hown;clear hown di rF k3 k5 yJ;go_wp2_with fail;go_ret2;rw[HF.out];have hto:i+1+k - (i+1)=k:=by omega
    rw[hto];rw[hto] at HF;have hlen1:=vM.out k (by omega);obtain⟨A,cc,rfl,hc1,hc2⟩:=Aq HOW.out;rw[HF.out] at hok;refine⟨⟨A,cc,by rw[hlen1];rfl,by rw[hlen1];exact hc1,hc2,⟨?_,aev hok.out.1 hlen,hok.out.2,(aS.out.below HWr.out.2).cell⟩⟩,HWr.out.2⟩;rw[hlen1];exact Reads.of_own HOW.out
theorem yL:(prog.info? 46).map (fun i=>(i.zero,i.size,i.bytes))=some (some (.agg #[.int .i64 0,.int .i64 0,.string ⟨#[]⟩,.string ⟨#[]⟩,.string ⟨#[]⟩,.string ⟨#[]⟩,.string ⟨#[]⟩,.slice none 0 0,.slice none 0 0,.slice none 0 0,.slice none 0 0]),11,192):=by kernel_rfl
theorem RN:(prog.info? 34).map (fun i=>(i.zero,i.size,i.bytes))=some (some (.agg #[.int .i64 0,.int .i64 0]),2,16):=by kernel_rfl
def AtP(n d:Nat)(zs:List ByteArray)(A:Option Addr)(c:Nat)(MM:Int):Prop:=
 ∀(i B:Nat) (W:World) (A9:Option Addr) (c9:Nat) (af:Option Addr) (c10:Nat),i<zs.length→aF (ln zs i)=false→B≤W.heap.size→aG W A zs MM→aW W (Rg B W) (ai (ln zs i)).att A9 af→
  Calls prog 39 #[.slice A zs.length c,.int .i64 i,.agg ((ai (ln zs i)).cells (.slice A9 (ai (ln zs i)).att.cl.length c9) (.slice af (ai (ln zs i)).att.pr.length c10)),.int .i64 d] W (iE B (fJ n zs i (ai (ln zs i))) W)
def RP(n:Nat)(zs:List ByteArray)(w:World)(v7 v8 v9:Value)(wr:World):Prop:=
 ∃(i:Nat) (bs:List BkT) (rs:List (Nat × Nat)),v9=.int .i64 i∧i≤zs.length∧Hid (aX wr w.heap.size (fun g=>v8.ownBlock=some g) v7 bs)∧wr.ownsRow w.heap.size 34 2 v8 rs.length (qF rs)∧bs.length≤i∧rs.length≤i∧Below w.heap.size w wr∧
  Hid (bg n zs=(iO (fJ n zs) zs i).map fun p=>(bs++p.1,rs++p.2))
theorem aX.own{w:World}{base:Nat}{E:Nat→Prop}{v:Value}{bs:List BkT}(h:aX w base E v bs):∃A c,v=.slice A bs.length c:=by
 obtain⟨S,vs,hS,hk,ho⟩:=h;exact ay ho
theorem RS(n:Nat)(zs:List ByteArray)(i:Nat)(h:i<zs.length)(hb:aF (ln zs i)=false):iO (fJ n zs) zs i=
 match fJ n zs i (ai (ln zs i)) with
 |none=>none
 |some (b,tq)=>(iO (fJ n zs) zs tq).map fun r=>(b :: r.1,(i,tq) :: r.2):=
 Rz _ _ (fun i r h e=>(Dl n zs i r h e).1) i h hb
theorem RU(rs:List (Nat × Nat))(i t:Nat):qF rs++[.int .i64 (i:Nat),.int .i64 (t:Nat)]=qF (rs++[(i,t)]):=by
 unfold qF;rw[List.flatMap_append];rfl
theorem RV(zs:List ByteArray)(m:ag)(i k:Nat)(hi:i≤k)(hk:k<zs.length)(hno:∀j,i≤j→j<k→qB zs m j=false)(h:qB zs m k=true):bD zs m i=k∧qC zs m i=(fP (ln zs k) m.kind m.n m.ch).1:=by
 have e:bD zs m i=k:=rC _ _ _ _ hi (by omega) hno fun _=>h;exact⟨e,by unfold qC;rw[e,if_pos hk]⟩
theorem RX(zs:List ByteArray)(m:ag)(i:Nat)(hi:i≤zs.length)(hno:∀j,i≤j→j<zs.length→qB zs m j=false):bD zs m i=zs.length∧qC zs m i=ak:=by
 have e:bD zs m i=zs.length:=rC _ _ _ _ hi (aeo _) hno fun h=>absurd h (Nat.lt_irrefl _);exact⟨e,by unfold qC;rw[e,if_neg (Nat.lt_irrefl _)]⟩
theorem pG{W:World}{g:Nat}{x y z:Value}(h:ae W g 43 #[x,y,z]):W.cell? ⟨g,0,none⟩=some x∧W.cell? ⟨g,1,none⟩=some y∧W.cell? ⟨g,2,none⟩=some z∧W.frozen? ⟨g,0,none⟩=false∧W.frozen? ⟨g,1,none⟩=false∧W.frozen? ⟨g,2,none⟩=false:=⟨h.cell 0,h.cell 1,h.cell 2,h.frozen 0,h.frozen 1,h.frozen 2⟩
def aav(zs:List ByteArray)(m:ag)(MK:Array Value)(i:Nat)(w:World)(v8:Value)(wr:World):Prop:=
 ∃k:Nat,v8=.int .i64 k∧i+1≤k∧k≤zs.length∧CW w MK wr∧Hid (∀j,i+1≤j→j<k→qB zs m j=false)
def yM(t:Nat)(a:AttrL)(w:World)(e:Ending)(w':World):Prop:=(∃vC vP,e=.returned (.tuple #[.int .i64 t,.agg #[.string a.id,vC,vP]])∧aZ w' w.heap.size a vC vP)∧Below w.heap.size w w'
theorem Lc(zs:List ByteArray)(A:Option Addr)(c i:Nat)(MM:Int)(m:ag)(A9:Option Addr)(n9 c9:Nat)(af:Option Addr)(n10 c10:Nat)(w:World)(hL:aG w A zs MM)(hi:i<zs.length) :
 Calls prog 72 #[.slice A zs.length c,.int .i64 i,.agg (m.cells (.slice A9 n9 c9) (.slice af n10 c10))] w (yM (bD zs m (i+1)) (qC zs m (i+1)) w):=by
 have hlen:=hL.len;obtain⟨b,off,rfl,hb,hcell⟩:=hL.get (by omega);have bQ:=aen hcell;have HC:Hid (∀k W,Calls prog 117 #[.string (ln zs k),.agg (m.cells (.slice A9 n9 c9) (.slice af n10 c10))] W (ug (fP (ln zs k) m.kind m.n m.ch) W)):=aen fun k W=>aat (ln zs k) m.kind m.n m.off m.ch m.info m.rest m.dest m.title m.att.id A9 n9 c9 af n10 c10 W (aev (dh hL.sz k) (by decide));have HS:=aen (Gn w (m.cells (.slice A9 n9 c9) (.slice af n10 c10)));have HP:Hid (∀k,qB zs m k=(fP (ln zs k) m.kind m.n m.ch).2):=aen fun k=>rfl;have HH:=aen fun k=>RV zs m (i+1) k;have HN:=aen (RX zs m (i+1) (by omega));clear hL hcell;go_enter Tryz.func72,Tryz.ntmps72;unfold ag.cells;go_wp2_with fail;go_loopw [8] (fun v8 wr=>aav zs m (m.cells (.slice A9 n9 c9) (.slice af n10 c10)) i w v8 wr) (fun v8 _=>zs.length - (intOf v8).toNat);case atStart=>exact⟨i+1,by go_num,aeo _,by omega,HS.out,aen fun j h1 h2=>absurd h2 (by omega)⟩
 case round=>
  clear HS;obtain⟨k,rfl,hk1,hk,jW,Hno⟩:=hrel;have HW:=aen jW;by_cases hlt:k<zs.length
  ·have hbw:=jW.bel;have hc0:wr.cell? ⟨b,off+k,none⟩=some (.string (ln zs k)):=(hbw.cell (p:=⟨b,off+k,none⟩) hb).trans (bQ.out k hlt);obtain⟨k0,k1,k2,k3,k4,k5,k6,k7,k8,k9,k10,y0,y1,y2,y3,y4,y5,y6,y7,y8,y9,aj⟩:=az jW.aP;have hwz:w.heap.size+1<wr.heap.size:=jW.at_.lt;have HS:Hid (∀W,Below (w.heap.size+2) wr W→(W.cell? ⟨b,off+k,none⟩=some (.string (ln zs k))∧W.cell? ⟨w.heap.size,0,none⟩=some (.int .i64 m.kind)∧W.cell? ⟨w.heap.size,1,none⟩=some (.int .i64 m.n)∧W.cell? ⟨w.heap.size,2,none⟩=some (.string m.ch)∧W.cell? ⟨w.heap.size,3,none⟩=some (.int .i64 m.off)∧W.cell? ⟨w.heap.size,4,none⟩=some (.string m.info)∧W.cell? ⟨w.heap.size,5,none⟩=some (.string m.rest)∧W.cell? ⟨w.heap.size,6,none⟩=some (.string m.dest)∧W.cell? ⟨w.heap.size,7,none⟩=some (.string m.title)∧W.cell? ⟨w.heap.size,8,none⟩=some (.string m.att.id)∧W.cell? ⟨w.heap.size,9,none⟩=some (.slice A9 n9 c9)∧W.cell? ⟨w.heap.size,10,none⟩=some (.slice af n10 c10)∧Below (w.heap.size+2) wr W)):=aen fun W hW=>by
    obtain⟨k0,k1,k2,k3,k4,k5,k6,k7,k8,k9,k10,y0,y1,y2,y3,y4,y5,y6,y7,y8,y9,aj⟩:=az (jW.aP.below hW (by omega));exact⟨(hW.cell (p:=⟨b,off+k,none⟩) (by show b<_;omega)).trans hc0,k0,k1,k2,k3,k4,k5,k6,k7,k8,k9,k10,hW⟩
   have HB0:Hid (Below (w.heap.size+2) wr wr):=aen (aer _ _);have vO:=HP.out k;have s0:=HS.out wr HB0.out;have qH:Hid (∀W,(W.cell? ⟨b,off+k,none⟩=some (.string (ln zs k))∧W.cell? ⟨w.heap.size,0,none⟩=some (.int .i64 m.kind)∧W.cell? ⟨w.heap.size,1,none⟩=some (.int .i64 m.n)∧W.cell? ⟨w.heap.size,2,none⟩=some (.string m.ch)∧W.cell? ⟨w.heap.size,3,none⟩=some (.int .i64 m.off)∧W.cell? ⟨w.heap.size,4,none⟩=some (.string m.info)∧W.cell? ⟨w.heap.size,5,none⟩=some (.string m.rest)∧W.cell? ⟨w.heap.size,6,none⟩=some (.string m.dest)∧W.cell? ⟨w.heap.size,7,none⟩=some (.string m.title)∧W.cell? ⟨w.heap.size,8,none⟩=some (.string m.att.id)∧W.cell? ⟨w.heap.size,9,none⟩=some (.slice A9 n9 c9)∧W.cell? ⟨w.heap.size,10,none⟩=some (.slice af n10 c10)∧Below (w.heap.size+2) wr W)→w.heap.size+2≤W.heap.size):=aen fun W h=>by have:=h.2.2.2.2.2.2.2.2.2.2.2.2.size;omega
   have vS:Hid (∀W o,(W.cell? ⟨b,off+k,none⟩=some (.string (ln zs k))∧W.cell? ⟨w.heap.size,0,none⟩=some (.int .i64 m.kind)∧W.cell? ⟨w.heap.size,1,none⟩=some (.int .i64 m.n)∧W.cell? ⟨w.heap.size,2,none⟩=some (.string m.ch)∧W.cell? ⟨w.heap.size,3,none⟩=some (.int .i64 m.off)∧W.cell? ⟨w.heap.size,4,none⟩=some (.string m.info)∧W.cell? ⟨w.heap.size,5,none⟩=some (.string m.rest)∧W.cell? ⟨w.heap.size,6,none⟩=some (.string m.dest)∧W.cell? ⟨w.heap.size,7,none⟩=some (.string m.title)∧W.cell? ⟨w.heap.size,8,none⟩=some (.string m.att.id)∧W.cell? ⟨w.heap.size,9,none⟩=some (.slice A9 n9 c9)∧W.cell? ⟨w.heap.size,10,none⟩=some (.slice af n10 c10)∧Below (w.heap.size+2) wr W)→((W.alloc o).cell? ⟨b,off+k,none⟩=some (.string (ln zs k))∧(W.alloc o).cell? ⟨w.heap.size,0,none⟩=some (.int .i64 m.kind)∧(W.alloc o).cell? ⟨w.heap.size,1,none⟩=some (.int .i64 m.n)∧(W.alloc o).cell? ⟨w.heap.size,2,none⟩=some (.string m.ch)∧(W.alloc o).cell? ⟨w.heap.size,3,none⟩=some (.int .i64 m.off)∧(W.alloc o).cell? ⟨w.heap.size,4,none⟩=some (.string m.info)∧(W.alloc o).cell? ⟨w.heap.size,5,none⟩=some (.string m.rest)∧(W.alloc o).cell? ⟨w.heap.size,6,none⟩=some (.string m.dest)∧(W.alloc o).cell? ⟨w.heap.size,7,none⟩=some (.string m.title)∧(W.alloc o).cell? ⟨w.heap.size,8,none⟩=some (.string m.att.id)∧(W.alloc o).cell? ⟨w.heap.size,9,none⟩=some (.slice A9 n9 c9)∧(W.alloc o).cell? ⟨w.heap.size,10,none⟩=some (.slice af n10 c10)∧Below (w.heap.size+2) wr (W.alloc o))):=aen fun W o h=>HS.out _ (h.2.2.2.2.2.2.2.2.2.2.2.2.alloc (by have:=h.2.2.2.2.2.2.2.2.2.2.2.2.size;omega) o);have yN:Hid (∀W,(W.cell? ⟨b,off+k,none⟩=some (.string (ln zs k))∧W.cell? ⟨w.heap.size,0,none⟩=some (.int .i64 m.kind)∧W.cell? ⟨w.heap.size,1,none⟩=some (.int .i64 m.n)∧W.cell? ⟨w.heap.size,2,none⟩=some (.string m.ch)∧W.cell? ⟨w.heap.size,3,none⟩=some (.int .i64 m.off)∧W.cell? ⟨w.heap.size,4,none⟩=some (.string m.info)∧W.cell? ⟨w.heap.size,5,none⟩=some (.string m.rest)∧W.cell? ⟨w.heap.size,6,none⟩=some (.string m.dest)∧W.cell? ⟨w.heap.size,7,none⟩=some (.string m.title)∧W.cell? ⟨w.heap.size,8,none⟩=some (.string m.att.id)∧W.cell? ⟨w.heap.size,9,none⟩=some (.slice A9 n9 c9)∧W.cell? ⟨w.heap.size,10,none⟩=some (.slice af n10 c10)∧Below (w.heap.size+2) wr W)→Calls prog 117 #[.string (ln zs k),.agg #[.int .i64 m.kind,.int .i64 m.n,.string m.ch,.int .i64 m.off,.string m.info,.string m.rest,.string m.dest,.string m.title,.string m.att.id,.slice A9 n9 c9,.slice af n10 c10]] W fun e W'=>(∃A1 c1 A2 c2,e=.returned (.tuple #[.agg #[.string (fP (ln zs k) m.kind m.n m.ch).1.id,.slice A1 (fP (ln zs k) m.kind m.n m.ch).1.cl.length c1,.slice A2 (fP (ln zs k) m.kind m.n m.ch).1.pr.length c2],.bool (fP (ln zs k) m.kind m.n m.ch).2])∧aZ W' W.heap.size (fP (ln zs k) m.kind m.n m.ch).1 (.slice A1 (fP (ln zs k) m.kind m.n m.ch).1.cl.length c1) (.slice A2 (fP (ln zs k) m.kind m.n m.ch).1.pr.length c2))∧Below (w.heap.size+2) wr W'∧Below W.heap.size W W'):=aen fun W hW=>(HC.out k W).mono fun e W' ⟨⟨vC,vP,h1,h2⟩,h3⟩=>by
    have hb:=hW.2.2.2.2.2.2.2.2.2.2.2.2;have hsz:=hb.size;obtain⟨A1,c1,rfl⟩:=ay h2.cls;obtain⟨A2,c2,rfl⟩:=ay h2.aH;exact⟨⟨A1,c1,A2,c2,h1,h2⟩,hb.trans (h3.mono (by omega)),h3⟩
   clear jW hc0 k0 k1 k2 k3 k4 k5 k6 k7 k8 k9 k10 y0 y1 y2 y3 y4 y5 y6 y7 y8 y9 aj hbw HC HP;generalize hRR:fP (ln zs k) (m.kind:Int) (m.n:Int) m.ch=R at *;have HRR:=aen hRR;clear hRR;go_upto_region 4 with fail
   go_cut [9,10] from 13 to 30 (fun s9 s10 wx=>∃g A1 c1 A2 c2,s9=.pointer (some ⟨g,0,none⟩)∧s10=.bool R.2∧w.heap.size+2≤g∧ae wx g 43 #[.string R.1.id,.slice A1 R.1.cl.length c1,.slice A2 R.1.pr.length c2]∧aZ wx (w.heap.size+2) R.1 (.slice A1 R.1.cl.length c1) (.slice A2 R.1.pr.length c2)∧Below (w.heap.size+2) wr wx);case first=>
    have hu:undef=Value.tuple #[]:=rfl;obtain⟨k11,k0,k1,k2,k3,k4,k5,k6,k7,k8,k9,k10,_⟩:=s0;obtain⟨x11,x0,x1,x2,x3,x4,x5,x6,x7,x8,x9,x10,_⟩:=HS.out _ (HB0.out.alloc (qH.out _ (HS.out _ HB0.out)) (.cells #[.string ⟨#[]⟩,.slice none 0 0,.slice none 0 0] 43));go_region_with (first
     |(go_at_call 117;(with_reducible refine(yN.out _ (HS.out _ HB0.out.drew)).mono ?_);rintro e W9 ⟨⟨A1,c1,A2,c2,rfl,ho⟩,b9,b8⟩)
     |(go_at_call 117;(with_reducible refine(yN.out _ (HS.out _ (HB0.out.alloc (qH.out _ (HS.out _ HB0.out)) _).drew)).mono ?_);rintro e W9 ⟨⟨A1,c1,A2,c2,rfl,ho⟩,b9,b8⟩;(have q:ae W9 wr.heap.size 43 #[.string ⟨#[]⟩,.slice none 0 0,.slice none 0 0]:=ae.below (w:=(wr.alloc (.cells #[.string ⟨#[]⟩,.slice none 0 0,.slice none 0 0] 43)).drew) (ae.new wr _ _) b8 (by simp));obtain⟨q0,q1,q2,z0,z1,z2⟩:=pG q))
    all_goals
     go_wp2_with fail;go_meet;have hzz:=qH.out _ (HS.out _ b9);first
     |exact⟨W9.heap.size,A1,c1,A2,c2,rfl,rfl,hzz,ae.new W9 _ _,dN (ho.below ((aer _ _).alloc (aeo _) _)) (by simp;omega),b9.alloc hzz _⟩
     |exact⟨wr.heap.size,A1,c1,A2,c2,rfl,rfl,by omega,fZ q rfl _ _ _,dN (dR ho (tX W9 wr.heap.size _ _ _) (by simp)) (by simp;omega),below3 b9 (by omega) _ _ _⟩
   case rest=>
    obtain⟨g,A1,c1,A2,c2,rfl,rfl,hg,hblk,ho,hb2⟩:=hcut;clear yN qH vS HS s0 HB0;have HX:Hid (CW w (m.cells (.slice A9 n9 c9) (.slice af n10 c10)) wc):=aen ⟨HW.out.aP.below hb2 (by omega),HW.out.at_.below hb2 (by omega),HW.out.bel.trans (hb2.mono (by omega))⟩;have HO:=aen ho;obtain⟨q0,q1,q2,z0,z1,z2⟩:=pG hblk;cases hR2:R.2 with
    |true=>
     have HF:=aen (HH.out k hk1 hlt Hno.out (vO.trans hR2));obtain⟨p0,p1,p2,v0,v1,v2⟩:=pG HX.out.at_;have hzl:=HX.out.at_.lt;have rG:=aen HX.out.bel;have HAt:=aen HX.out.at_;clear ho hb2 hblk HW Hno HH HN vO HX;go_wp2_with fail;go_region;all_goals
      go_wp2_with fail;rw[HF.out.1,HF.out.2,HRR.out];exact Rl (ae.drewN (fZ HAt.out rfl _ _ _) 1) rfl rfl rfl ⟨⟨_,_,rfl,dN ((dR HO.out (tX wc (w.heap.size+1) _ _ _) (by omega)).below (below_drewN (aer _ _) 1)) (by omega)⟩,below_drewN (below3 rG.out (Nat.le_succ _) _ _ _) 1⟩
    |false=>
     have gQ:Hid (∀j,i+1≤j→j<k+1→qB zs m j=false):=aen fun j h1 h2=>by
      by_cases e:j=k
      ·rw[e,vO];exact hR2
      ·exact Hno.out j h1 (by omega)
     clear ho hb2 hblk HW HO q0 q1 q2 z0 z1 z2 vO Hno;go_wp2_with fail;go_roundw;case rel=>exact⟨k+1,by go_num,by omega,by omega,HX.out,gQ⟩
     case measure=>simp[intOf];omega
  ·obtain rfl:k=zs.length:=by omega
   have HF:=aen (HN.out Hno.out);obtain⟨p0,p1,p2,v0,v1,v2⟩:=pG jW.at_;have hzl:=jW.at_.lt;clear HN HH Hno jW;go_wp2_with fail;rw[HF.out.1,HF.out.2];exact Rl (fZ HW.out.at_ rfl _ _ _) rfl rfl rfl ⟨⟨_,_,rfl,wP _ _ (below3 HW.out.bel (Nat.le_succ _) _ _ _).size⟩,below3 HW.out.bel (Nat.le_succ _) _ _ _⟩
def uk(rec:List ByteArray→Option (List BkT))(d:Nat)(MM:Int):Prop:=
 ∀(zs:List ByteArray) (A:Option Addr) (c:Nat) (W:World),aG W A zs MM→zs.length≤c→c≤maxLen→Calls prog 30 #[.slice A zs.length c,.int .i64 d] W fun e w'=>
  (match rec zs with
   |none=>e=.returned qG
   |some bs=>∃A1 c1 A2 n2 c2,e=.returned (.tuple #[.slice A1 bs.length c1,.slice A2 n2 c2,.int .i64 0])∧bP w' (Rg W.heap.size w') (.slice A1 bs.length c1) bs)∧Below W.heap.size W w'
def ZB(W:World)(g:Nat):Prop:=ae W g 46 #[.int .i64 0,.int .i64 0,.string ⟨#[]⟩,.string ⟨#[]⟩,.string ⟨#[]⟩,.string ⟨#[]⟩,.string ⟨#[]⟩,.slice none 0 0,.slice none 0 0,.slice none 0 0,.slice none 0 0]
theorem iq{w:World}{S:Nat→Prop}{kind level:Nat}{info text dest title:ByteArray}{att:AttrL}{line:ByteArray}{kids:List BkT}{A1 A2:Option Addr}{c1 c2:Nat}{vL vK:Value}
 (ha:aW w S att A1 A2) (hl:ik w S vL line) (hk:bP w S vK kids) :
 dw w S #[.int .i64 kind,.int .i64 level,.string info,.string text,.string dest,.string title,.string att.id,.slice A1 att.cl.length c1,.slice A2 att.pr.length c2,vL,vK] (.mk kind level info text dest title att line kids):=by
 obtain⟨A,c,vs,rfl,h1,h2⟩:=hk;exact .mk kind level info text dest title att line kids A1 A2 A c1 c2 c vL vs ha hl h1 h2
theorem jg(w:World)(S:Nat→Prop):ik w S (.slice none 0 0) ⟨#[]⟩:=by unfold ik;exact if_pos (show (⟨#[]⟩:ByteArray).size=0 from rfl) ▸ rfl
theorem Gs{w:World}{S:Nat→Prop}{kind:Nat}{kids:List BkT}{vK:Value}(hk:bP w S vK kids):dw w S #[.int .i64 kind,.int .i64 (0:Nat),.string ⟨#[]⟩,.string ⟨#[]⟩,.string ⟨#[]⟩,.string ⟨#[]⟩,.string ⟨#[]⟩,.slice none 0 0,.slice none 0 0,.slice none 0 0,vK] (fe kind kids):=
 iq (att:=ak) (aW.empty _ _ _ _) (jg _ _) hk
theorem bP.far{w w':World}{B B' g:Nat}{v:Value}{bs:List BkT}(h:bP w (Rg B w) v bs)(hg:w.grownBy w' (some g))(hlt:g<B)(hB:B'≤B):bP w' (Rg B' w') v bs:=
 h.keep (fun x hx=>hg.block x hx.2 fun e=>by injection e with e;have:=hx.1;omega) fun x hx=>⟨by have:=hx.1;omega,aeA hx.2 hg.size⟩
theorem ZB.facts{W:World}{g:Nat}(h:ZB W g):W.cell? ⟨g,0,none⟩=some (.int .i64 0)∧W.cell? ⟨g,1,none⟩=some (.int .i64 0)∧W.cell? ⟨g,2,none⟩=some (.string ⟨#[]⟩)∧W.cell? ⟨g,3,none⟩=some (.string ⟨#[]⟩)∧W.cell? ⟨g,4,none⟩=some (.string ⟨#[]⟩)∧W.cell? ⟨g,5,none⟩=some (.string ⟨#[]⟩)∧W.cell? ⟨g,6,none⟩=some (.string ⟨#[]⟩)∧W.cell? ⟨g,7,none⟩=some (.slice none 0 0)∧W.cell? ⟨g,8,none⟩=some (.slice none 0 0)∧W.cell? ⟨g,9,none⟩=some (.slice none 0 0)∧W.cell? ⟨g,10,none⟩=some (.slice none 0 0)∧W.frozen? ⟨g,0,none⟩=false∧W.frozen? ⟨g,1,none⟩=false∧W.frozen? ⟨g,2,none⟩=false∧W.frozen? ⟨g,3,none⟩=false∧W.frozen? ⟨g,4,none⟩=false∧W.frozen? ⟨g,5,none⟩=false∧W.frozen? ⟨g,6,none⟩=false∧W.frozen? ⟨g,7,none⟩=false∧W.frozen? ⟨g,8,none⟩=false∧W.frozen? ⟨g,9,none⟩=false∧W.frozen? ⟨g,10,none⟩=false:=az h
theorem ZB.below{w W W':World}{g:Nat}(h:ZB W g)(hb:Below W.heap.size W W'):ZB W' g:=ae.below h hb (ae.lt h)
theorem kM{B:Nat}{r:Option (BkT × Nat)}{b:BkT}{t:Nat}{w w':World}{v:Array Value}(hr:r=some (b,t))(hv:dw w' (Rg B w') v b)(hb:Below w.heap.size w w'):iE B r w (.returned (.tuple #[.agg v,.int .i64 t,.int .i64 0])) w':=by
 subst hr;exact⟨hb,v,rfl,hv⟩
theorem rH{B:Nat}{r:Option (BkT × Nat)}{u:Int}{w w':World}{v:Array Value}(hr:r=none)(hv:kL v)(hb:Below w.heap.size w w'):iE B r w (.returned (.tuple #[.agg v,.int .i64 u,.int .i64 11])) w':=by
 subst hr;exact⟨hb,v,u,hv,rfl⟩
def um(zs:List ByteArray)(i k:Nat):List ByteArray:=(bz zs i k).map fun z=>(ai z).rest
theorem RY(zs:List ByteArray)(i k:Nat)(h:i≤k)(hk:k≤zs.length):(um zs i k).length=k - i:=by unfold um;rw[List.length_map,jE _ _ _ h hk]
theorem Gt(zs:List ByteArray)(i k:Nat)(h:i≤k)(hk:k<zs.length):bz zs i (k+1)=bz zs i k++[ln zs k]:=by
 unfold bz;rw[show k+1 - i=(k - i)+1 by omega,List.take_succ_eq_append_getElem (by rw[List.length_drop];omega)];congr 2;rw[List.getElem_drop,←yF zs k hk];congr 1;omega
theorem RZ(zs:List ByteArray)(i k:Nat)(h:i≤k)(hk:k<zs.length):strs (um zs i (k+1))=strs (um zs i k)++[.string (ai (ln zs k)).rest]:=by
 unfold um strs;rw[Gt zs i k h hk,List.map_append,List.map_append];rfl
theorem aaw{zs:List ByteArray}{i k:Nat}{y:ByteArray}(h:y∈bz zs i k)(hk:k≤zs.length):∃j,i≤j∧j<k∧y=ln zs j:=by
 obtain⟨n,hn,rfl⟩:=List.mem_iff_getElem.1 h;rcases Nat.lt_or_ge i k with hlt|hge
 ·have hl:=jE zs i k (by omega) hk;exact⟨i+n,by omega,by omega,by rw[yF _ n hn,Gh zs i k n (by omega)]⟩
 ·unfold bz at hn;rw[show k - i=0 by omega] at hn;simp at hn
theorem Si(zs:List ByteArray)(i:Nat)(hi:i≤zs.length)(hM:∀z∈zs,z.size≤100000):∀z∈je zs i,z.size≤100000:=by
 intro z hz;unfold je at hz;obtain⟨y,hy,rfl⟩:=List.mem_map.1 hz;obtain⟨s1,s2,s3,s4⟩:=mZ (fun j=>!decide (kindOf zs j=4)) zs.length i hi;obtain⟨j,h1,h2,rfl⟩:=aaw hy s2;have h4:=s3 j h1 h2;simp only[Bool.not_eq_false',decide_eq_true_eq] at h4;exact aev (Gg (ln zs j) (.inl h4)).1 (dh hM j)
def Sj(zs:List ByteArray)(i:Nat)(w:World)(v9 v10:Value)(wr:World):Prop:=
 ∃k:Nat,v10=.int .i64 k∧i≤k∧k≤zs.length∧wr.ownsRow (w.heap.size+1) 9 1 v9 (k - i) (strs (um zs i k))∧ZB wr w.heap.size∧Below w.heap.size w wr∧Hid (∀j,i≤j→j<k→kindOf zs j=4)
theorem aax(rec:List ByteArray→Option (List BkT))(d:Nat)(hd:d≤15)(zs:List ByteArray)(A:Option Addr)(c i B:Nat)(MM:Int)(w:World)(hR:uk rec (d+1) MM)(hL:aG w A zs MM)(hi:i<zs.length)(hB:B≤w.heap.size) :
 Calls prog 70 #[.slice A zs.length c,.int .i64 i,.int .i64 d] w (iE B ((rec (je zs i)).map fun k=>(fe 6 k,lu zs i)) w):=by
 obtain⟨i0,hi0,hz0,hz1,hz2⟩:=info_parts ru;have hlen:=hL.len;obtain⟨b,off,rfl,hb,hcell⟩:=hL.get (by omega);have bQ:=aen hcell;have aS:=aen hL;have HM:Hid (∀j W,Calls prog 38 #[.string (ln zs j)] W fun e w'=>∃A c D d,e=.returned (.agg ((ai (ln zs j)).cells (.slice A (ai (ln zs j)).att.cl.length c) (.slice D (ai (ln zs j)).att.pr.length d)))∧Below W.heap.size W w'):=aen fun j W=>(CO (ln zs j) W (aev (dh hL.sz j) (by decide))).mono fun e w'=>yE;have gU:=aen hR;have HZ0:=aen (ae.new w 46 #[.int .i64 0,.int .i64 0,.string ⟨#[]⟩,.string ⟨#[]⟩,.string ⟨#[]⟩,.string ⟨#[]⟩,.string ⟨#[]⟩,.slice none 0 0,.slice none 0 0,.slice none 0 0,.slice none 0 0]);have HB0:Hid (∀o,Below w.heap.size w (w.alloc o)):=aen fun o=>(aer _ w).alloc (aeo _) _;have hdi:((d:Nat):Int)≤15:=by omega
 have Ld:=aen (Si zs i (by omega) hL.sz);clear hL hcell hR;go_enter Tryz.func70,Tryz.ntmps70;go_upto_block 0 with fail
 go_cut [9,10] (fun s9 s10 wx=>s10=.int .i64 (lu zs i)∧wx.ownsRow (w.heap.size+1) 9 1 s9 (lu zs i - i) (strs (je zs i))∧ZB wx w.heap.size∧Below w.heap.size w wx);case first=>
  go_wp2_with fail;go_loopw [9,10] (fun v9 v10 wr=>Sj zs i w v9 v10 wr) (fun _ v10 _=>zs.length - (intOf v10).toNat);case atStart=>exact⟨i,rfl,aeo _,by omega,by rw[Nat.sub_self,show strs (um zs i i)=[] by unfold um bz strs;simp];exact World.ownsRow_nil _ _ _ _,HZ0.out,HB0.out _,aen fun j h1 h2=>absurd h2 (by omega)⟩
  case round=>
   clear HZ0 HB0;obtain⟨k,rfl,hik,hk,hown,hZ,hbw,Hq⟩:=hrel;have dU:=hbw.size;have hzl:=ae.lt hZ;have aU:=aen hZ;have HT:Hid (∀h:k<zs.length→kindOf zs k≠4,lu zs i=k):=aen fun h=>rC _ _ _ _ hik hk (fun j h1 h2=>by rw[Hq.out j h1 h2];rfl) (fun hl=>by rw[aep (h hl)];rfl);by_cases hlt:k<zs.length
   ·have hc0:wr.cell? ⟨b,off+k,none⟩=some (.string (ln zs k)):=(hbw.cell (p:=⟨b,off+k,none⟩) hb).trans (bQ.out k hlt);have lX:=aen fun W=>HM.out k W;have HE:=aen (RZ zs i k hik hlt);have hkk:Hid (kindOf zs k=(ai (ln zs k)).kind):=aen rfl;clear HM hZ;generalize ai (ln zs k)=m at *;unfold ag.cells at lX;go_wp2_with fail;with_reducible refine(lX.out _).mono ?_
    rintro e w1 ⟨A1,c1,A2,c2,rfl,b1⟩;have hz1':=b1.size;have hown1:=own_below hown b1;by_cases h4:m.kind=4
    ·have z1:(((m.kind:Nat):Int) != 4)=false:=by rw[bne_eq_false_iff_eq];omega
     have z2:((m.kind:Nat) != 4)=false:=by rw[bne_eq_false_iff_eq];exact h4
     have Le:Hid (∀j,i≤j→j<k+1→kindOf zs j=4):=aen fun j h1 h2=>by
      by_cases e:j=k
      ·rw[e,hkk.out];exact h4
      ·exact Hq.out j h1 (by omega)
     clear h4 hkk HT Hq hown;go_wp2_with (at_builtin;refine wpList_append_own _ rfl _ _ 22 rfl (w.heap.size+1) 9 i0 _ 1 16 Tryz.underlying22 hi0 hz0 hz1 hz2 rfl (by decide) _ _ _ rfl ((hown1.alloc _).alloc _) ⟨w1.heap.size+1,0,none⟩ 1 1 [.string m.rest] rfl rfl ?c1 ?c2 ?c3 ?c4 ?c5 ?_);case c1=>
      intro j u hj;match j,hj with
      |0,hj=>simp at hj;subst hj;simp[Addr.add]
     case c2=>intro u hu;simp at hu;subst hu;rfl
     case c3=>unfold maxLen;omega
     case c4=>omega
     case c5=>simp;omega
     intro v' w2 hown3 hgrow _;have HZ2:Hid (ZB w2 w.heap.size):=aen (ae.grown (ae.alloc (ae.alloc (aU.out.below (w:=w) b1) _) _) hgrow (fun e=>by have:=(hown1.lt _ e.symm).1;omega));have HB2:Hid (Below w.heap.size w w2):=aen ((((hbw.trans (b1.mono dU)).alloc (by omega) _).alloc (by simp;omega) _).grown hgrow (by simp;omega) (fun g hg=>by have:=(hown1.lt g hg).1;omega));clear hown1 hgrow;go_wp2_with fail;go_roundw;case rel=>exact⟨k+1,by go_num,by omega,by omega,by rw[show k+1 - i=k - i+1 by omega,HE.out];exact hown3,HZ2.out,HB2.out,Le⟩
     case measure=>simp[intOf];omega
    ·have z1:(((m.kind:Nat):Int) != 4)=true:=by rw[aeB];omega
     have z2:((m.kind:Nat) != 4)=true:=by rw[aeB];exact h4
     have HQ:=aen (HT.out fun _=>by rw[hkk.out];exact h4);clear h4 hkk HT Hq hown;go_wp2_with fail;go_meet;rw[HQ.out];refine⟨rfl,?_,ae.alloc (aU.out.below (w:=w) b1) _,(hbw.trans (b1.mono dU)).alloc (by omega) _⟩;have:=hown1.alloc (.cells #[.int .i64 m.kind,.int .i64 m.n,.string m.ch,.int .i64 m.off,.string m.info,.string m.rest,.string m.dest,.string m.title,.string m.att.id,.slice A1 m.att.cl.length c1,.slice A2 m.att.pr.length c2] 74);unfold je;rw[HQ.out];exact this
   ·have HQ:=aen (HT.out fun h=>absurd h hlt);clear HM hZ HT Hq;go_wp2_with fail;go_meet;rw[HQ.out];refine⟨rfl,?_,aU.out,hbw⟩;unfold je;rw[HQ.out];exact hown
 case rest=>
 obtain⟨rfl,hown,hZ,hbw⟩:=hcut;have dU:=hbw.size;have hzl:=ae.lt hZ;have aU:=aen hZ;have og:(je zs i).length=lu zs i - i:=by
  have:=mZ (fun j=>!decide (kindOf zs j=4)) zs.length i (by omega);exact RY zs i _ this.1 this.2.1
 have Lh:lu zs i≤zs.length:=(mZ (fun j=>!decide (kindOf zs j=4)) zs.length i (by omega)).2.1;obtain⟨A9,c9,rfl,hc1,hc2⟩:=Aq hown;have Dn:Hid (aG wc A9 (je zs i) MM):=aen (by
  refine⟨by rw[og];exact Reads.of_own hown,by omega,fun z hz=>?_,(aS.out.below hbw).cell⟩;exact Ld.out z hz)
 have HC:=aen (gU.out (je zs i) A9 c9 wc Dn.out (by omega) hc2);rw[og] at HC;have hdd:(d:Int)+1=((d+1:Nat):Int):=by omega
 have kN:=aen hdd;clear HZ0 HB0 HM gU hown hZ og Lh Dn hdd;go_wp2_with fail;rw[kN.out];with_reducible refine(HC.out).mono ?_
 rintro e w2 ⟨hp,b2⟩;have HZ2:=aen (aU.out.below (w:=w) b2);have HB2:=aen (hbw.trans (b2.mono dU));obtain⟨k0,k1,k2,k3,k4,k5,k6,k7,k8,k9,k10,y0,y1,y2,y3,y4,y5,y6,y7,y8,y9,aj⟩:=ZB.facts HZ2.out;cases pI:rec (je zs i) with
 |none=>
  have ny:=aen pI;rw[pI] at hp;subst hp;unfold qG;clear HC pI;go_wp2_with fail;exact Ri (ax HZ2.out _ _ _ _ _ _ _ _ _ _ _) rfl rfl rfl rfl (rH (by rw[ny.out];rfl) ⟨_,_,_,_,_,_,_,_,_,_,_,_,_,_,_,_,_,_,_,rfl⟩ (au HB2.out (aeo _) _ _ _ _ _ _ _ _ _ _ _))
 |some bs=>
  have ny:=aen pI;rw[pI] at hp;obtain⟨A1,c1,A2,n2,c2,rfl,hk⟩:=hp;have HK:=aen hk;clear HC hk pI;go_wp2_with fail;exact Ri (ax HZ2.out _ _ _ _ _ _ _ _ _ _ _) rfl rfl rfl rfl (kM (by rw[ny.out];rfl) (Gs (HK.out.far (aV _ _ _ _ _ _ _ _ _ _ _ _ _) hzl (by omega))) (au HB2.out (aeo _) _ _ _ _ _ _ _ _ _ _ _))
structure DW(w:World)(MK:Array Value)(W:World):Prop where
 aP:ae W w.heap.size 74 MK
 res:ZB W (w.heap.size+1)
 bel:Below w.heap.size w W
def fA:Array Value:=#[.int .i64 0,.int .i64 0,.string ⟨#[]⟩,.string ⟨#[]⟩,.string ⟨#[]⟩,.string ⟨#[]⟩,.string ⟨#[]⟩,.slice none 0 0,.slice none 0 0,.slice none 0 0,.slice none 0 0]
theorem lY(w:World)(MK:Array Value):DW w MK ((w.alloc (.cells MK 74)).alloc (.cells fA 46)):=by
 refine⟨(ae.new w _ _).alloc _,?_,((aer _ w).alloc (aeo _) _).alloc (by simp) _⟩;have h:=ae.new (w.alloc (.cells MK 74)) 46 fA;unfold ZB;simp at h;exact h
theorem DW.next{w W W':World}{MK:Array Value}(h:DW w MK W)(hb:Below W.heap.size W W'):DW w MK W':=
 ⟨h.aP.below hb h.aP.lt,h.res.below (w:=w) hb,h.bel.trans (hb.mono h.bel.size)⟩
theorem Dp(zs:List ByteArray)(m:ag)(i:Nat)(hi:i<zs.length):i+1≤bD zs m (i+1)∧bD zs m (i+1)≤zs.length:=by
 have:=mZ (qB zs m) zs.length (i+1) (by omega);exact⟨this.1,this.2.1⟩
theorem aW.far{w w':World}{B B':Nat}{a:AttrL}{A1 A2:Option Addr}(h:aW w (Rg B w) a A1 A2)(hb:Below w.heap.size w w')(hB:B'≤B):aW w' (Rg B' w') a A1 A2:=
 h.keep (fun x hx=>hb.block x hx.2) fun x hx=>⟨by have:=hx.1;omega,aeA hx.2 hb.size⟩
end Go.Proofs.YtpoafhgbhnblmaaGreatDoor
