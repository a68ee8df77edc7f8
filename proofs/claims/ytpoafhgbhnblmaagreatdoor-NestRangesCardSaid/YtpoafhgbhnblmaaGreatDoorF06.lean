import Derived.Test.YtpoafhgbhnblmaaGreatDoorF05
set_option linter.unusedVariables false
set_option linter.unusedSimpArgs false
set_option maxRecDepth 100000
set_option maxHeartbeats 20000000
namespace Go.Proofs.YtpoafhgbhnblmaaGreatDoor
open Go.Proofs.Tryz (prog)
def aI(s:ByteArray)(p:Nat→Bool):Nat:=(bytesL s).findIdx fun b=>p b.toNat
theorem BP(s:ByteArray)(k:Nat)(h:k<s.size):(bytesL s)[k]?=some (s.get! k):=by
 have:=bV s k h;unfold sfx at this;rw[←List.head?_drop,this];rfl
theorem xG(s:ByteArray)(p:Nat→Bool)(k:Nat)(h:k≤s.size)(h1:∀j,j<k→p (bt s j)=false)(h2:k<s.size→p (bt s k)=true):aI s p=k:=by
 unfold aI;rcases Nat.lt_or_ge k s.size with hk|hk
 ·have hkl:k<(bytesL s).length:=by rw[bytesL_length];exact hk
  rw[List.findIdx_eq hkl];have hat:∀j (hj:j<(bytesL s).length),(bytesL s)[j]=s.get! j:=fun j hj=>by
   have:=BP s j (by rw[bytesL_length] at hj;exact hj);rw[List.getElem?_eq_getElem hj] at this;injection this
  refine⟨by rw[hat k hkl];exact h2 hk,fun j hj=>?_⟩;rw[hat j (by omega)];exact h1 j hj
 ·have hke:k=(bytesL s).length:=by rw[bytesL_length];omega
  rw[hke,List.findIdx_eq_length];intro b hb;obtain⟨j,hj,rfl⟩:=List.mem_iff_getElem.1 hb;have:=BP s j (by rw[bytesL_length] at hj;exact hj);rw[List.getElem?_eq_getElem hj] at this;injection this with this
  rw[this];exact h1 j (by omega)
theorem qf(s:ByteArray)(p:Nat→Bool):aI s p≤s.size:=by
 unfold aI;rw[←bytesL_length];exact List.findIdx_le_length
theorem Wh{k n:Nat}(h:k≤n):List.range k <+: List.range n:=by
 have:=List.take_prefix k (List.range n);rw[List.take_range,Nat.min_eq_left h] at this;exact this
theorem Wi{l:List Nat}{n:Nat}(h:l <+: List.range n):l=List.range l.length∧l.length≤n:=by
 have h1:=h.length_le;rw[List.length_range] at h1;have:=List.prefix_iff_eq_take.1 h;rw[List.take_range,Nat.min_eq_left h1] at this;exact⟨this,h1⟩
theorem EW{l:List Nat}{x n:Nat}(h:l++[x] <+: List.range n):l=List.range x∧x<n:=by
 obtain⟨h1,h2⟩:=Wi h;rw[aey,List.length_singleton] at h1 h2;rw[List.range_succ] at h1;obtain⟨h3,h4⟩:=List.append_inj' h1 rfl;injection h4 with h4
 subst h4;exact⟨h3,by omega⟩
def zW{n:Nat}(l:List (Fin n)):Int:=match l.getLast? with | some x=>((x.1:Nat):Int) | none=>0
theorem uV{n:Nat}(l:List (Fin n))(x:Fin n):zW (l++[x])=((x.1:Nat):Int):=by unfold zW;rw[List.getLast?_concat]
section
open Go.RowKit Go.Shelf
attribute [local go_sem] Oper.semAt_some
theorem BQ(s:ByteArray)(w:World):Calls prog 106 #[.string s] w fun e w'=>
 e=.returned (.func (.func 163) #[] #[.pointer (some ⟨w.heap.size,0,none⟩)])∧w'=w.alloc (.cells #[.string s] 9):=by
 go_enter Tryz.func106,Tryz.ntmps106;go_wp2;go_ret;exact⟨rfl,rfl⟩
theorem BU(n:Nat)(hn:1≤n)(Bn:Nat)(s:ByteArray)(hs:s.size≤1000000)(w:World)(hB:w.heap[Bn]?=some (.cells #[.string s] 9 (0,0))) :
 SeqStopsK Fence.wide n prog 163 #[.pointer (some ⟨Bn,0,none⟩)] (fun x:Fin s.size=>#[Value.int .i64 (x.1:Nat),Value.int .u8 (bt s x.1)]) (uU Bn) (fun ys=>ys.map Fin.val=List.range s.size) (fun pre=>pre.map Fin.val <+: List.range s.size) s.size w:=fun l J Jx W hW _ _ hY h0=>by
 have hlt:Bn<w.heap.size:=by
  rcases Nat.lt_or_ge Bn w.heap.size with h|h
  ·exact h
  ·rw[Array.getElem?_eq_none h] at hB;cases hB
 have hBW:W.heap[Bn]?=some (.cells #[.string s] 9 (0,0)):=(hW.block Bn hlt).trans hB;have hcW:W.cell? ⟨Bn,0,none⟩=some (.string s):=cell_of_row W Bn 0 _ _ _ hBW;refine callsIn_of_wp Tryz.func163 rfl trivial ?_ rfl;simp only[Tryz.ntmps163,List.size_toArray,aeC,List.length_nil,Nat.reduceAdd,Nat.reduceSub,Array.replicate_succ,Array.replicate_zero,List.push_toArray,List.append_toArray,List.nil_append,List.cons_append];gi_wp2;gi_loopw [6] (fun v6 wr=>∃(i:Nat) (pre:List (Fin s.size)),v6=.int .i64 i∧i≤s.size∧wr.heap[Bn]?=some (.cells #[.string s] 9 (0,0))∧Hid (pre.map Fin.val=List.range i)∧J pre wr)
  (fun v6 _=>s.size - (intOf v6).toNat)
 case atStart=>exact⟨0,[],rfl,by omega,hBW,aen rfl,h0⟩
 case round=>
  clear hcW hBW h0;obtain⟨i,pre,rfl,hi,hBr,Jf,hJs⟩:=hrel;have hc:wr.cell? ⟨Bn,0,none⟩=some (.string s):=cell_of_row wr Bn 0 _ _ _ hBr;have hpl:pre.length=i:=by
   have:=congrArg List.length Jf.out
   rwa [List.length_map,List.length_range] at this
  by_cases hlt2:i<s.size
  ·have hg:=get_bt s i hlt2;have HN:Hid ((pre++[(⟨i,hlt2⟩:Fin s.size)]).map Fin.val=List.range (i+1)):=aen (by rw[List.map_append,Jf.out,List.range_succ];rfl);obtain⟨fn,tmps,assign,body,hy,hR⟩:=hY pre ⟨i,hlt2⟩ wr hJs (by omega);clear hpl;gi_wp2_with fail;refine hR.mono ?_;rintro e W3 (⟨rfl,hJ3,hk3⟩|⟨rfl,hJx3⟩)
   ·have hB3:W3.heap[Bn]?=some (.cells #[.string s] 9 (0,0)):=hk3.trans hBr;gi_wp2_with fail;go_roundw;case rel=>exact⟨i+1,_,by go_num,by omega,hB3,HN,hJ3⟩
    case measure=>simp[intOf];omega
   ·gi_wp2_with fail;refine bodyPost_ret (results_none rfl _ _ _) rfl ?_;exact⟨⟨_,rfl⟩,.inr ⟨_,by rw[HN.out];exact Wh (by omega),hJx3⟩⟩
  ·obtain rfl:i=s.size:=by omega
   gi_wp2_with fail;go_end0;exact⟨⟨_,rfl⟩,.inl ⟨_,Jf.out,hJs⟩⟩
theorem BV(s:ByteArray)(c:Nat)(hc:c<256)(w:World)(hs:s.size≤1000000):Calls prog 102 #[.string s,.int .u8 c] w fun e w'=>e=.returned (.int .i64 (aI s (· != c)))∧Below w.heap.size w w':=by
 have HP:=aen fun W=>BQ s W;refine(callsIn_wide (n:=5)).1 ?_;refine callsIn_of_wp_marks Tryz.func102 rfl trivial ?_ rfl;simp only[Tryz.ntmps102,List.size_toArray,aeC,List.length_nil,Nat.reduceAdd,Nat.reduceSub,Array.replicate_succ,Array.replicate_zero,List.push_toArray,List.append_toArray,List.nil_append,List.cons_append];gi_wp2_with fail;refine⟨trivial,?_⟩;with_reducible refine(callsIn_wide.2 (HP.out _)).mono ?_
 rintro e w' ⟨rfl,rfl⟩;gi_wp2_with fail;have bC:=Boxed.new w 5 (.int .u8 c);have bR:=Boxed.new (w.alloc (.cells #[.int .u8 c] 5)) 3 (.int .i64 0);rw[World.size_alloc] at bR;have bS:=Boxed.new ((w.alloc (.cells #[.int .u8 c] 5)).alloc (.cells #[.int .i64 0] 3)) 9 (.string s);rw[World.size_alloc,World.size_alloc] at bS;have hB0:Below w.heap.size w (((w.alloc (.cells #[.int .u8 c] 5)).alloc (.cells #[.int .i64 0] 3)).alloc (.cells #[.string s] 9)):=(((aer _ w).alloc (aeo _) _).alloc (by simp) _).alloc (by simp;omega) _;have Wj:=(bC.alloc (.cells #[.int .i64 0] 3)).alloc (.cells #[.string s] 9);have xH:=bR.alloc (.cells #[.string s] 9);have kD:(((w.alloc (.cells #[.int .u8 c] 5)).alloc (.cells #[.int .i64 0] 3)).alloc (.cells #[.string s] 9)).heap.size=w.heap.size+3:=by simp
 generalize (((w.alloc (.cells #[.int .u8 c] 5)).alloc (.cells #[.int .i64 0] 3)).alloc (.cells #[.string s] 9))=W0 at *;clear bC bR;refine wpIn_rangeFunc_ownG rfl (by omega) (gf:=163) (lb:=#[.pointer (some ⟨w.heap.size+1+1,0,none⟩)]) rfl trivial (enters_of Tryz.func163 (by kernel_rfl) rfl)
  (BU 4 (by omega) (w.heap.size+1+1) s hs _ bS) (Kp:=uU (w.heap.size+1+1)) (fun h1 h2=>h2.trans h1) (fun W l o o' hl ho hc _=>World.putObj_heap_other (fun e=>by omega)) (aer _ _) (fun _=>rfl)
  (fun (pre:List (Fin s.size)) W=>(Boxed W w.heap.size 5 (.int .u8 c)∧Boxed W (w.heap.size+1+1) 9 (.string s))∧Boxed W (w.heap.size+1) 3 (.int .i64 0)∧(∀j∈pre,bt s j.1=c)∧Below w.heap.size w W)
  (fun q (pre:List (Fin s.size)) W=>(q=Code.ret∧∃pr x,pre=pr++[x]∧(∀j∈pr,bt s j.1=c)∧bt s x.1≠c)∧Boxed W (w.heap.size+1) 3 (.int .i64 (zW pre))∧Below w.heap.size w W)
  (OwnFrom.and (OwnFrom.and (Own.from (boxed_own _ _ (fun _=>.int .u8 c)) _) (Own.from (boxed_own _ _ (fun _=>.string s)) _)) (OwnFrom.and (Own.from (boxed_own _ _ (fun _=>.int .i64 0)) _) (OwnFrom.and (ownFrom_pure _ _) (ownFrom_below (aeo _) (by omega)))))
  (fun q=>OwnFrom.and (ownFrom_pure _ _) (OwnFrom.and (Own.from (boxed_own _ _ (fun pre=>.int .i64 (zW pre))) _) (ownFrom_below (aeo _) (by omega))))
  ⟨⟨Wj,bS⟩,xH,fun j h=>absurd h (by simp),hB0⟩
  (fun (x:Fin s.size)=>{tmps:=#[.string s,.int .u8 c,undef,.pointer (some ⟨w.heap.size,0,none⟩),.pointer (some ⟨w.heap.size+1,0,none⟩),.int .i64 (x.1:Nat),.int .u8 (bt s x.1),.string s,.func (.func 163) #[] #[.pointer (some ⟨w.heap.size+1+1,0,none⟩)],.int .i64 (x.1:Nat),.int .u8 (bt s x.1),undef,undef,undef,undef,undef,undef],defers:=[]}) ?assign ?body ?done ?stop
 case assign=>
  intro l x W K hK;gi_wp2_with fail;exact hK
 case body=>
  rintro l pre x W ⟨⟨hC,hsB⟩,hR,hg,hB⟩ hlt;have HG:=aen hg;clear hg;have k1:=hC.cell;have k2:=hR.cell;have k3:=hR.frozen;by_cases hx:bt s x.1=c
  ·have d1:(((bt s x.1:Nat):Int) != (c:Int))=false:=by rw[hx];simp
   have HN:Hid (∀j∈pre++[x],bt s j.1=c):=aen fun j hj=>by
    rcases List.mem_append.1 hj with hj|hj
    ·exact HG.out j hj
    ·rw[List.mem_singleton] at hj;rw[hj];exact hx
   clear hx;gi_wp2_with fail;exact⟨(aeu _).from _,rfl,⟨hC,hsB⟩,hR,HN.out,hB⟩
  ·have d1:(((bt s x.1:Nat):Int) != (c:Int))=true:=by rw[aeB];omega
   have HX:=aen hx;clear hx;gi_wp2_with fail;exact⟨(aet _ _ _).from _,⟨rfl,pre,x,rfl,HG.out,HX.out⟩,by rw[uV];exact hR.set _,hB.setCell (p:=⟨w.heap.size+1,0,none⟩) (by show w.heap.size≤w.heap.size+1;omega) _⟩
 case done=>
  rintro D ys W hD hys ⟨⟨hC,hsB⟩,hR,hg,hB⟩ hK;have HE:Hid (aI s (· != c)=s.size):=aen (xG s _ _ (aeo _) (fun j hj=>by
   rw[bne_eq_false_iff_eq];have:j∈ys.map Fin.val:=by rw[hys];exact List.mem_range.2 hj
   obtain⟨y,hy,rfl⟩:=List.mem_map.1 this;exact hg y hy) (fun h=>absurd h (by omega)))
  clear hg hys;have k2:=hR.cell;have k3:=hR.frozen;have q1:=hR.set (.int .i64 s.size);have q3:Below w.heap.size w (W.setCell ⟨w.heap.size+1,0,none⟩ (.int .i64 s.size)):=hB.setCell (p:=⟨w.heap.size+1,0,none⟩) (by show w.heap.size≤w.heap.size+1;omega) _;have hK':=(aet W ⟨w.heap.size+1,0,none⟩ (.int .i64 s.size)).same D _ hK rfl;gi_wp2_with fail;refine⟨by simp,.inl ⟨_,_,rfl,run_takeDeferred hK',?_⟩⟩;have c1:=cell_kept q1.cell (grownBy_putObj' _ D (.deferred none)) (fun r e=>by cases e;exact⟨_,hK',rfl⟩);refine⟨.int .i64 s.size,by simp[results,Tryz.results102,go_sem,c1],?_,q3.trans (belowK_b (w:=w) (aeo _) _ D _ _ (by omega) hK' rfl rfl)⟩;rw[HE.out]
 case stop=>
  rintro D q pre W hD hpre ⟨⟨rfl,pr,x,rfl,hg,hx⟩,hR,hB⟩ hK;rw[List.map_append] at hpre;obtain⟨hp1,hp2⟩:=EW hpre;have HE:Hid (aI s (· != c)=x.1):=aen (xG s _ _ (aeD hp2) (fun j hj=>by
   rw[bne_eq_false_iff_eq];have:j∈pr.map Fin.val:=by rw[hp1];exact List.mem_range.2 hj
   obtain⟨y,hy,rfl⟩:=List.mem_map.1 this;exact hg y hy) (fun _=>by rw[aeB];exact hx))
  rw[uV] at hR;clear hg hx hpre hp1;gi_wp2_with fail;refine⟨by simp,.inl ⟨_,_,rfl,run_takeDeferred hK,?_⟩⟩;have c1:=cell_kept hR.cell (grownBy_putObj' _ D (.deferred none)) (fun r e=>by cases e;exact⟨_,hK,rfl⟩);refine⟨.int .i64 x.1,by simp[results,Tryz.results102,go_sem,c1],?_,hB.trans (belowK_b (w:=w) (aeo _) _ D _ _ (by omega) hK rfl rfl)⟩;rw[HE.out]
end
open Go.RowKit
def mo(s:ByteArray)(k lo hi:Nat):Int:=if k<s.size∧lo≤bt s k∧bt s k≤hi then (bt s k:Int) - 128 else -1
theorem zX(s:ByteArray)(k lo hi:Nat)(h:128≤lo):-1≤mo s k lo hi∧mo s k lo hi≤127:=by
 unfold mo;have:=aK s k;split <;> omega
def xI(c n:Int)(w:World)(e:Ending)(w':World):Prop:=e=.returned (.agg #[.int .i64 c,.int .i64 n])∧Below w.heap.size w w'
theorem nT{c n:Int}{D:Nat × Nat}{w w':World}(h1:c=D.1)(h2:n=D.2)(hb:Below w.heap.size w w'):xI D.1 D.2 w (.returned (.agg #[.int .i64 c,.int .i64 n])) w':=by
 subst h1 h2;exact⟨rfl,hb⟩
theorem Wl(s:ByteArray)(i:Nat)(hi:i<s.size)(h:224≤bt s i∧bt s i≤239) :
 Utf8.decode s i=if mo s (i+1) (if bt s i=224 then 160 else 128) (if bt s i=237 then 159 else 191)<0∨mo s (i+2) 128 191<0 then (65533,1)
  else ((((bt s i:Int) - 224) * 4096+mo s (i+1) (if bt s i=224 then 160 else 128) (if bt s i=237 then 159 else 191) * 64+mo s (i+2) 128 191).toNat,3):=by
 rw[Lib.decode_at];show Lib.decodeN _ (bt s i) (bt s (i+1)) (bt s (i+2)) (bt s (i+3))=_;unfold mo Lib.decodeN;have g1:=aK s (i+1);have g2:=aK s (i+2);generalize bt s i=b0 at *;generalize bt s (i+1)=b1 at *;generalize bt s (i+2)=b2 at *;rw[if_neg (by omega),if_neg (by omega)];by_cases hc:b0 / 16=14∧(1<s.size - i∧b1 / 64=2)∧(2<s.size - i∧b2 / 64=2)
 ·rw[if_pos hc];by_cases e0:b0=224
  ·subst e0;simp only[if_true,show ¬(224=237) by decide,if_false]
   (repeat' split) <;> first|rfl|(exfalso;omega)|(simp only[Prod.mk.injEq,and_true];omega)
  ·by_cases e1:b0=237
   ·subst e1;simp only[if_true,show ¬(237=224) by decide,if_false]
    (repeat' split) <;> first|rfl|(exfalso;omega)|(simp only[Prod.mk.injEq,and_true];omega)
   ·simp only[e0,e1,if_false]
    (repeat' split) <;> first|rfl|(exfalso;omega)|(simp only[Prod.mk.injEq,and_true];omega)
 ·rw[if_neg hc,if_neg (by omega)]
  (repeat' split) <;> first|rfl|(exfalso;omega)
theorem Wn(s:ByteArray)(i:Nat)(hi:i<s.size)(h:240≤bt s i∧bt s i≤244) :
 Utf8.decode s i=if mo s (i+1) (if bt s i=240 then 144 else 128) (if bt s i=244 then 143 else 191)<0∨mo s (i+2) 128 191<0∨mo s (i+3) 128 191<0 then (65533,1)
  else ((((bt s i:Int) - 240) * 262144+mo s (i+1) (if bt s i=240 then 144 else 128) (if bt s i=244 then 143 else 191) * 4096+mo s (i+2) 128 191 * 64+mo s (i+3) 128 191).toNat,4):=by
 rw[Lib.decode_at];show Lib.decodeN _ (bt s i) (bt s (i+1)) (bt s (i+2)) (bt s (i+3))=_;unfold mo Lib.decodeN;have g1:=aK s (i+1);have g2:=aK s (i+2);have g3:=aK s (i+3);generalize bt s i=b0 at *;generalize bt s (i+1)=b1 at *;generalize bt s (i+2)=b2 at *;generalize bt s (i+3)=b3 at *;rw[if_neg (by omega),if_neg (by omega),if_neg (by omega)];by_cases hc:b0 / 8=30∧(1<s.size - i∧b1 / 64=2)∧(2<s.size - i∧b2 / 64=2)∧(3<s.size - i∧b3 / 64=2)
 ·rw[if_pos hc];by_cases e0:b0=240
  ·subst e0;simp only[if_true,show ¬(240=244) by decide,if_false]
   (repeat' split) <;> first|rfl|(exfalso;omega)|(simp only[Prod.mk.injEq,and_true];omega)
  ·by_cases e1:b0=244
   ·subst e1;simp only[if_true,show ¬(244=240) by decide,if_false]
    (repeat' split) <;> first|rfl|(exfalso;omega)|(simp only[Prod.mk.injEq,and_true];omega)
   ·simp only[e0,e1,if_false]
    (repeat' split) <;> first|rfl|(exfalso;omega)|(simp only[Prod.mk.injEq,and_true];omega)
 ·rw[if_neg hc]
  (repeat' split) <;> first|rfl|(exfalso;omega)
theorem Wp(s:ByteArray)(i:Nat)(hi:i<s.size)(h:194≤bt s i∧bt s i≤223) :
 Utf8.decode s i=if mo s (i+1) 128 191<0 then (65533,1) else ((((bt s i:Int) - 192) * 64+mo s (i+1) 128 191).toNat,2):=by
 rw[Lib.decode_at];show Lib.decodeN _ (bt s i) (bt s (i+1)) (bt s (i+2)) (bt s (i+3))=_;unfold mo Lib.decodeN;have g1:=aK s (i+1);generalize bt s i=b0 at *;generalize bt s (i+1)=b1 at *;rw[if_neg (by omega)];by_cases hc:b0 / 32=6∧(1<s.size - i∧b1 / 64=2)
 ·rw[if_pos hc]
  (repeat' split) <;> first|rfl|(exfalso;omega)|(simp only[Prod.mk.injEq,and_true];omega)
 ·rw[if_neg hc,if_neg (by omega),if_neg (by omega)]
  (repeat' split) <;> first|rfl|(exfalso;omega)
theorem Wq(s:ByteArray)(k lo hi:Nat)(w:World)(hs:s.size≤9223372036854775807)(hlo:lo≤255)(hhi:hi≤255) :
 Calls prog 54 #[.string s,.int .i64 k,.int .i64 lo,.int .i64 hi] w fun e w'=>e=.returned (.int .i64 (mo s k lo hi))∧w=w':=by
 by_cases hk:k<s.size
 ·have hb:=aK s k;have hlt:((s[k].toNat:Nat):Int)<256:=by rw[get_bt s k hk];omega
  have hbt:=aen (get_bt s k hk);have HM:Hid (mo s k lo hi=if lo≤bt s k∧bt s k≤hi then (bt s k:Int) - 128 else -1):=aen (by unfold mo;simp[hk]);generalize mo s k lo hi=m at *;by_cases h1:lo≤bt s k
  ·have h1':lo≤s[k].toNat:=by rw[get_bt s k hk];exact h1
   have d1:decide (s[k].toNat<lo)=false:=by simp;omega
   by_cases h2:bt s k≤hi
   ·have h2':s[k].toNat≤hi:=by rw[get_bt s k hk];exact h2
    have d2:decide (hi<s[k].toNat)=false:=by simp;omega
    go_enter Tryz.func54,Tryz.ntmps54;go_wp2;go_ret;exact⟨iy (by rw[HM.out,if_pos ⟨h1,h2⟩,hbt.out]),rfl⟩
   ·have h2':hi<s[k].toNat:=by rw[get_bt s k hk];omega
    have d2:decide (hi<s[k].toNat)=true:=by simp;omega
    go_enter Tryz.func54,Tryz.ntmps54;go_wp2;go_ret;exact⟨iy (by rw[HM.out,if_neg (by omega)]),rfl⟩
  ·have h1':s[k].toNat<lo:=by rw[get_bt s k hk];omega
   have d1:decide (s[k].toNat<lo)=true:=by simp;omega
   go_enter Tryz.func54,Tryz.ntmps54;go_wp2;go_ret;exact⟨iy (by rw[HM.out,if_neg (by omega)]),rfl⟩
 ·have hm:mo s k lo hi=-1:=by unfold mo;rw[if_neg (by omega)]
  rw[hm];clear hm;go_enter Tryz.func54,Tryz.ntmps54;go_wp2;go_ret;exact⟨rfl,rfl⟩
theorem xJ(kI OP OQ:Int)(s:ByteArray)(k lo hi:Nat)(w:World)(hs:s.size≤9223372036854775807)(hlo:lo≤255)(hhi:hi≤255)(ek:kI=k)(el:OP=lo)(eh:OQ=hi) :
 Calls prog 54 #[.string s,.int .i64 kI,.int .i64 OP,.int .i64 OQ] w fun e w'=>e=.returned (.int .i64 (mo s k lo hi))∧w=w':=by
 subst ek el eh;exact Wq s k lo hi w hs hlo hhi
theorem Ws(s:ByteArray)(i lo hi:Nat)(w:World)(hs:s.size≤9223372036854775800)(hi':i<s.size)(h:224≤bt s i∧bt s i≤239)(hlo:lo≤255)(hhi:hi≤255)(Wu:128≤lo)
 (z:(lo=160∧hi=191∧bt s i=224)∨(lo=128∧hi=159∧bt s i=237)∨(lo=128∧hi=191∧bt s i≠224∧bt s i≠237)) (D:Nat × Nat)
 (hD:D=if mo s (i+1) lo hi<0∨mo s (i+2) 128 191<0 then (65533,1) else ((((bt s i:Int) - 224) * 4096+mo s (i+1) lo hi * 64+mo s (i+2) 128 191).toNat,3)) :
 Calls prog 55 #[.string s,.int .i64 i] w (xI D.1 D.2 w):=by
 have m1:=zX s (i+1) lo hi (by omega);have m2:=zX s (i+2) 128 191 (by omega);have HD:=aen hD;clear hD;have hlt:((s[i].toNat:Nat):Int)≤239:=by rw[get_bt s i hi'];omega
 have hlt0:224≤((s[i].toNat:Nat):Int):=by rw[get_bt s i hi'];omega
 have hbt:=aen (get_bt s i hi');generalize hx:mo s (i+1) lo hi=x at *;generalize hy:mo s (i+2) 128 191=y at *;have Hx:=aen hx;have Hy:=aen hy;clear hx hy;have hlt':bt s i<256:=aK s i;have fin:x<0∨y<0∨(0≤x∧0≤y):=by omega
 rcases z with ⟨rfl,rfl,e0⟩|⟨rfl,rfl,e0⟩|⟨rfl,rfl,e0,e1⟩;all_goals
  first
   |(have z0:(((s[i].toNat:Nat):Int)==224)=true:=by rw[get_bt s i hi',e0];rfl)
   |(have z0:(((s[i].toNat:Nat):Int)==224)=false:=by rw[get_bt s i hi'];simp;omega)
  first
   |(have z1:(((s[i].toNat:Nat):Int)==237)=true:=by rw[get_bt s i hi',e0];rfl)
   |(have z1:(((s[i].toNat:Nat):Int)==237)=false:=by rw[get_bt s i hi'];simp;omega)
  have E0:=aen e0;clear e0;go_enter Tryz.func55,Tryz.ntmps55;go_wp2_with fail;refine(xJ _ _ _ s (i+1) _ _ _ (by omega) hlo hhi (by omega) rfl rfl).mono ?_;rw[Hx.out];rintro e w' ⟨rfl,rfl⟩;go_wp2_with fail;refine(xJ _ _ _ s (i+2) 128 191 _ (by omega) (by decide) (by decide) (by omega) rfl rfl).mono ?_;rw[Hy.out];rintro e w' ⟨rfl,rfl⟩;rcases fin with f|f|⟨f1,f2⟩
  ·have hD:D=(65533,1):=HD.out.trans (if_pos (Or.inl f));have HD2:=aen hD;clear hD;go_wp2;exact bodyPost_ret (v:=.agg #[.int .i64 65533,.int .i64 1]) (by simp[results,Tryz.results55,go_sem]) rfl (nT (by rw[HD2.out];rfl) (by rw[HD2.out];rfl) ((aer _ _).alloc (aeo _) _))
  ·have hD:D=(65533,1):=HD.out.trans (if_pos (Or.inr f));have HD2:=aen hD;clear hD;by_cases f0:x<0;all_goals
    go_wp2;exact bodyPost_ret (v:=.agg #[.int .i64 65533,.int .i64 1]) (by simp[results,Tryz.results55,go_sem]) rfl (nT (by rw[HD2.out];rfl) (by rw[HD2.out];rfl) ((aer _ _).alloc (aeo _) _))
  ·have hD:=HD.out.trans (if_neg (by omega));have HD2:=aen hD;clear hD;go_wp2;exact bodyPost_ret (v:=.agg #[.int .i64 ((((s[i].toNat:Nat):Int) - 224) * 4096+x * 64+y),.int .i64 3]) (by simp[results,Tryz.results55,go_sem]) rfl (nT (by rw[HD2.out,hbt.out];simp only[];omega) (by rw[HD2.out];rfl) ((aer _ _).alloc (aeo _) _))
theorem Wv(s:ByteArray)(i:Nat)(w:World)(hs:s.size≤9223372036854775800)(hi:i<s.size)(h:224≤bt s i∧bt s i≤239) :
 Calls prog 55 #[.string s,.int .i64 i] w (xI (Utf8.decode s i).1 (Utf8.decode s i).2 w):=
 Ws s i (if bt s i=224 then 160 else 128) (if bt s i=237 then 159 else 191) w hs hi h (by split <;> omega) (by split <;> omega) (by split <;> omega)
  (by (repeat' split) <;> omega) _ (Wl s i hi h)
theorem Wx(s:ByteArray)(i lo hi:Nat)(w:World)(hs:s.size≤9223372036854775800)(hi':i<s.size)(h:240≤bt s i∧bt s i≤244)(hlo:lo≤255)(hhi:hi≤255)(Wu:128≤lo)
 (z:(lo=144∧hi=191∧bt s i=240)∨(lo=128∧hi=143∧bt s i=244)∨(lo=128∧hi=191∧bt s i≠240∧bt s i≠244)) (D:Nat × Nat)
 (hD:D=if mo s (i+1) lo hi<0∨mo s (i+2) 128 191<0∨mo s (i+3) 128 191<0 then (65533,1) else ((((bt s i:Int) - 240) * 262144+mo s (i+1) lo hi * 4096+mo s (i+2) 128 191 * 64+mo s (i+3) 128 191).toNat,4)) :
 Calls prog 56 #[.string s,.int .i64 i] w (xI D.1 D.2 w):=by
 have m1:=zX s (i+1) lo hi (by omega);have m2:=zX s (i+2) 128 191 (by omega);have m3:=zX s (i+3) 128 191 (by omega);have HD:=aen hD;clear hD;have hlt:((s[i].toNat:Nat):Int)≤244:=by rw[get_bt s i hi'];omega
 have hlt0:240≤((s[i].toNat:Nat):Int):=by rw[get_bt s i hi'];omega
 have hbt:=aen (get_bt s i hi');generalize hx:mo s (i+1) lo hi=x at *;generalize hy:mo s (i+2) 128 191=y at *;generalize hv:mo s (i+3) 128 191=v at *;have Hx:=aen hx;have Hy:=aen hy;have Hv:=aen hv;clear hx hy hv;have hlt':bt s i<256:=aK s i;have fin:x<0∨(0≤x∧y<0)∨(0≤x∧0≤y∧v<0)∨(0≤x∧0≤y∧0≤v):=by omega
 rcases z with ⟨rfl,rfl,e0⟩|⟨rfl,rfl,e0⟩|⟨rfl,rfl,e0,e1⟩;all_goals
  first
   |(have z0:(((s[i].toNat:Nat):Int)==240)=true:=by rw[get_bt s i hi',e0];rfl)
   |(have z0:(((s[i].toNat:Nat):Int)==240)=false:=by rw[get_bt s i hi'];simp;omega)
  first
   |(have z1:(((s[i].toNat:Nat):Int)==244)=true:=by rw[get_bt s i hi',e0];rfl)
   |(have z1:(((s[i].toNat:Nat):Int)==244)=false:=by rw[get_bt s i hi'];simp;omega)
  have E0:=aen e0;clear e0;go_enter Tryz.func56,Tryz.ntmps56;go_wp2_with fail;refine(xJ _ _ _ s (i+1) _ _ _ (by omega) hlo hhi (by omega) rfl rfl).mono ?_;rw[Hx.out];rintro e w' ⟨rfl,rfl⟩;go_wp2_with fail;refine(xJ _ _ _ s (i+2) 128 191 _ (by omega) (by decide) (by decide) (by omega) rfl rfl).mono ?_;rw[Hy.out];rintro e w' ⟨rfl,rfl⟩;go_wp2_with fail;refine(xJ _ _ _ s (i+3) 128 191 _ (by omega) (by decide) (by decide) (by omega) rfl rfl).mono ?_;rw[Hv.out];rintro e w' ⟨rfl,rfl⟩;rcases fin with f|⟨f1,f⟩|⟨f1,f2,f⟩|⟨f1,f2,f⟩
  ·have hD:D=(65533,1):=HD.out.trans (if_pos (by omega));have HD2:=aen hD;clear hD;go_wp2;exact bodyPost_ret (v:=.agg #[.int .i64 65533,.int .i64 1]) (by simp[results,Tryz.results56,go_sem]) rfl (nT (by rw[HD2.out];rfl) (by rw[HD2.out];rfl) ((aer _ _).alloc (aeo _) _))
  ·have hD:D=(65533,1):=HD.out.trans (if_pos (by omega));have HD2:=aen hD;clear hD;go_wp2;exact bodyPost_ret (v:=.agg #[.int .i64 65533,.int .i64 1]) (by simp[results,Tryz.results56,go_sem]) rfl (nT (by rw[HD2.out];rfl) (by rw[HD2.out];rfl) ((aer _ _).alloc (aeo _) _))
  ·have hD:D=(65533,1):=HD.out.trans (if_pos (by omega));have HD2:=aen hD;clear hD;go_wp2;exact bodyPost_ret (v:=.agg #[.int .i64 65533,.int .i64 1]) (by simp[results,Tryz.results56,go_sem]) rfl (nT (by rw[HD2.out];rfl) (by rw[HD2.out];rfl) ((aer _ _).alloc (aeo _) _))
  ·have hD:=HD.out.trans (if_neg (by omega));have HD2:=aen hD;clear hD;go_wp2;exact bodyPost_ret (v:=.agg #[.int .i64 ((((s[i].toNat:Nat):Int) - 240) * 262144+x * 4096+y * 64+v),.int .i64 4]) (by simp[results,Tryz.results56,go_sem]) rfl (nT (by rw[HD2.out,hbt.out];simp only[];omega) (by rw[HD2.out];rfl) ((aer _ _).alloc (aeo _) _))
theorem Wy(s:ByteArray)(i:Nat)(w:World)(hs:s.size≤9223372036854775800)(hi:i<s.size)(h:240≤bt s i∧bt s i≤244) :
 Calls prog 56 #[.string s,.int .i64 i] w (xI (Utf8.decode s i).1 (Utf8.decode s i).2 w):=
 Wx s i (if bt s i=240 then 144 else 128) (if bt s i=244 then 143 else 191) w hs hi h (by split <;> omega) (by split <;> omega) (by split <;> omega)
  (by (repeat' split) <;> omega) _ (Wn s i hi h)
theorem WA(s:ByteArray)(i:Nat)(h:¬bt s i<128)(h2:¬(194≤bt s i∧bt s i≤223))(h3:¬(224≤bt s i∧bt s i≤239))(h4:¬(240≤bt s i∧bt s i≤244)):Utf8.decode s i=(65533,1):=
 Ny s i (by unfold wd;rw[if_neg h,if_neg h2,if_neg h3,if_neg h4])
theorem WB(s:ByteArray)(i:Nat)(w:World)(hs:s.size≤9223372036854775800)(hi:i<s.size) :
 Calls prog 37 #[.string s,.int .i64 i] w (xI (Utf8.decode s i).1 (Utf8.decode s i).2 w):=by
 have hbt:=aen (get_bt s i hi);have hlt:((s[i].toNat:Nat):Int)<256:=by rw[get_bt s i hi];have:=aK s i;omega
 by_cases c1:bt s i<128
 ·have hD:=aen (Nz s i c1);generalize Utf8.decode s i=D at *;have q:((s[i].toNat:Nat):Int)<128:=by rw[get_bt s i hi];omega
  go_enter Tryz.func37,Tryz.ntmps37;go_wp2;exact bodyPost_ret (v:=.agg #[.int .i64 ((s[i].toNat:Nat):Int),.int .i64 1]) (by simp[results,Tryz.results37,go_sem]) rfl (nT (by rw[hD.out,hbt.out]) (by rw[hD.out];rfl) ((aer _ _).alloc (aeo _) _))
 have q:128≤((s[i].toNat:Nat):Int):=by rw[get_bt s i hi];omega
 by_cases c2:194≤bt s i∧bt s i≤223
 ·have hD:=aen (Wp s i hi c2);have m1:=zX s (i+1) 128 191 (by omega);generalize Utf8.decode s i=D at *;generalize hx:mo s (i+1) 128 191=x at *;have Hx:=aen hx;clear hx;have q2:194≤((s[i].toNat:Nat):Int):=by rw[get_bt s i hi];omega
  have q3:((s[i].toNat:Nat):Int)≤223:=by rw[get_bt s i hi];omega
  clear c1;by_cases hx0:x<0
  ·have hD2:=aen (hD.out.trans (if_pos hx0));go_enter Tryz.func37,Tryz.ntmps37;go_wp2_with fail;refine(xJ _ _ _ s (i+1) 128 191 _ (by omega) (by decide) (by decide) (by omega) rfl rfl).mono ?_;rw[Hx.out];rintro e w' ⟨rfl,rfl⟩;go_wp2;exact bodyPost_ret (v:=.agg #[.int .i64 65533,.int .i64 1]) (by simp[results,Tryz.results37,go_sem]) rfl (nT (by rw[hD2.out];rfl) (by rw[hD2.out];rfl) ((aer _ _).alloc (aeo _) _))
  ·have hD2:=aen (hD.out.trans (if_neg hx0));go_enter Tryz.func37,Tryz.ntmps37;go_wp2_with fail;refine(xJ _ _ _ s (i+1) 128 191 _ (by omega) (by decide) (by decide) (by omega) rfl rfl).mono ?_;rw[Hx.out];rintro e w' ⟨rfl,rfl⟩;go_wp2;exact bodyPost_ret (v:=.agg #[.int .i64 ((((s[i].toNat:Nat):Int) - 192) * 64+x),.int .i64 2]) (by simp[results,Tryz.results37,go_sem]) rfl (nT (by rw[hD2.out,hbt.out];simp only[];omega) (by rw[hD2.out];rfl) ((aer _ _).alloc (aeo _) _))
 by_cases c3:224≤bt s i∧bt s i≤239
 ·have q2:224≤((s[i].toNat:Nat):Int):=by rw[get_bt s i hi];omega
  have q3:((s[i].toNat:Nat):Int)≤239:=by rw[get_bt s i hi];omega
  have h3:=fun w=>Wv s i w hs hi c3;have H3:=aen h3;clear h3 c1 c2;generalize Utf8.decode s i=D at *;go_enter Tryz.func37,Tryz.ntmps37;go_wp2_with fail;refine(H3.out _).mono ?_;rintro e w1 ⟨rfl,hb1⟩;have hz:=hb1.size;have hc0:w1.cell? ⟨w.heap.size,0,none⟩=some (.int .i64 0):=by rw[hb1.cell (p:=⟨w.heap.size,0,none⟩) (by simp)];simp
  have hc1:w1.cell? ⟨w.heap.size,1,none⟩=some (.int .i64 0):=by rw[hb1.cell (p:=⟨w.heap.size,1,none⟩) (by simp)];simp
  have hf0:w1.frozen? ⟨w.heap.size,0,none⟩=false:=by rw[hb1.frozen (p:=⟨w.heap.size,0,none⟩) (by simp)];simp
  have hf1:w1.frozen? ⟨w.heap.size,1,none⟩=false:=by rw[hb1.frozen (p:=⟨w.heap.size,1,none⟩) (by simp)];simp
  have hbw:Below w.heap.size w w1:=((aer _ w).alloc (aeo _) _).trans (hb1.mono (by simp));go_wp2;exact bodyPost_ret (v:=.agg #[.int .i64 D.1,.int .i64 D.2]) (by simp[results,Tryz.results37,go_sem,hc0,hc1]) rfl (nT rfl rfl ((hbw.setCell (by simp) _).setCell (by simp) _))
 by_cases c4:240≤bt s i∧bt s i≤244
 ·have q2:240≤((s[i].toNat:Nat):Int):=by rw[get_bt s i hi];omega
  have q3:((s[i].toNat:Nat):Int)≤244:=by rw[get_bt s i hi];omega
  have h3:=fun w=>Wy s i w hs hi c4;have H3:=aen h3;clear h3 c1 c2 c3;generalize Utf8.decode s i=D at *;go_enter Tryz.func37,Tryz.ntmps37;go_wp2_with fail;refine(H3.out _).mono ?_;rintro e w1 ⟨rfl,hb1⟩;have hz:=hb1.size;have hc0:w1.cell? ⟨w.heap.size,0,none⟩=some (.int .i64 0):=by rw[hb1.cell (p:=⟨w.heap.size,0,none⟩) (by simp)];simp
  have hc1:w1.cell? ⟨w.heap.size,1,none⟩=some (.int .i64 0):=by rw[hb1.cell (p:=⟨w.heap.size,1,none⟩) (by simp)];simp
  have hf0:w1.frozen? ⟨w.heap.size,0,none⟩=false:=by rw[hb1.frozen (p:=⟨w.heap.size,0,none⟩) (by simp)];simp
  have hf1:w1.frozen? ⟨w.heap.size,1,none⟩=false:=by rw[hb1.frozen (p:=⟨w.heap.size,1,none⟩) (by simp)];simp
  have hbw:Below w.heap.size w w1:=((aer _ w).alloc (aeo _) _).trans (hb1.mono (by simp));go_wp2;exact bodyPost_ret (v:=.agg #[.int .i64 D.1,.int .i64 D.2]) (by simp[results,Tryz.results37,go_sem,hc0,hc1]) rfl (nT rfl rfl ((hbw.setCell (by simp) _).setCell (by simp) _))
 have hD:=aen (WA s i c1 c2 c3 c4);generalize Utf8.decode s i=D at *;have c5:bt s i<194∨244<bt s i:=by omega
 clear c2 c3 c4 c1;rcases c5 with c5|c5
 ·have q2:((s[i].toNat:Nat):Int)<194:=by rw[get_bt s i hi];omega
  go_enter Tryz.func37,Tryz.ntmps37;go_wp2;exact bodyPost_ret (v:=.agg #[.int .i64 65533,.int .i64 1]) (by simp[results,Tryz.results37,go_sem]) rfl (nT (by rw[hD.out];rfl) (by rw[hD.out];rfl) ((aer _ _).alloc (aeo _) _))
 ·have q2:244<((s[i].toNat:Nat):Int):=by rw[get_bt s i hi];omega
  go_enter Tryz.func37,Tryz.ntmps37;go_wp2;exact bodyPost_ret (v:=.agg #[.int .i64 65533,.int .i64 1]) (by simp[results,Tryz.results37,go_sem]) rfl (nT (by rw[hD.out];rfl) (by rw[hD.out];rfl) ((aer _ _).alloc (aeo _) _))
theorem OT{P:Program}(w:World)(src e:TypeId)(hs:P.underlying src=some (.slice e))(he:P.underlying e=some (.int .u8)){B:Nat}{A:Option Addr}{n:Nat}(c:Nat){l:List UInt8}(hr:Reads w B 1 A n (Lib.byteCells l)) :
 ∀dst,P.underlying dst=some .string→(convert src dst (.slice A n c)).run P w=.ok (.string ⟨l.toArray⟩) w:=by
 intro dst hd;have hn:l.length=n:=by have:=hr.1;rw[Lib.byteCells_length] at this;omega
 rcases Nat.eq_zero_or_pos n with h0|h0
 ·subst h0;have:l=[]:=List.eq_nil_of_length_eq_zero hn;subst this;rw[run_convert_bytes_string w src dst e _ 0 c hs he hd];cases A with
  |none=>simp[Conv.bytesToString];rfl
  |some ad=>
   have:=run_bytesToString (P:=P) w ad 0 c [] (by rfl);rw[this];rfl
 ·obtain⟨ad,rfl,_,hc⟩:=hr.2 h0;have hl:(loadCells ad n).run P w=.ok ((l.map fun b=>((b.toNat:Nat):Int)).map (Value.int .u8)).toArray w:=by
   have:=run_loadCells_list (P:=P) w ad ((l.map fun b=>((b.toNat:Nat):Int)).map (Value.int .u8)) (fun j v hj=>hc j v (by simpa [Lib.byteCells] using hj));simpa [hn] using this
  rw[run_convert_bytes_string w src dst e _ n c hs he hd,run_bytesToString w _ n c _ hl,foldl_push_bytes];simp only[List.map_map,ByteArray.empty,ByteArray.emptyWithCapacity];have e1:(fun n:Int=>UInt8.ofNat n.toNat) ∘ (fun b:UInt8=>((b.toNat:Nat):Int))=id:=by
   funext b;simp
  rw[e1,List.map_id];simp;rfl
end Go.Proofs.YtpoafhgbhnblmaaGreatDoor
