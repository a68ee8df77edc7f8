import Derived.Test.YtpoafhgbhnblmaaGreatDoorF08
import Derived.Deep.DeepCutAuto
import Derived.Laws.CopyOwn
set_option linter.unusedVariables false
set_option linter.unusedSimpArgs false
set_option maxRecDepth 100000
set_option maxHeartbeats 20000000
namespace Go.Proofs.YtpoafhgbhnblmaaGreatDoor
open Go.Proofs.Tryz (prog)
open Go.RowKit
def cellL(p:List UInt8):List UInt8:=fD (trimS p)
def cellV(x:Pt):Value:=.string (mk (cellL (bytesL x.1)))
theorem J8:∀(n:Nat) (l:List UInt8),l.length≤n→(fD l).length≤l.length
 |0,l,h=>by cases l with
  |nil=>simp[fD]
  |cons c l=>simp at h
 |n+1,[],_=>by simp[fD]
 |n+1,c :: l,h=>by
  rw[EP];split
  ·cases l with
   |nil=>simp
   |cons d l'=>
    have:=J8 n l' (by simp at h;omega);simp;omega
  ·have:=J8 n l (by simp at h;omega);simp;omega
theorem Y3(l:List UInt8):Lib.count l iW≤l.length:=by
 have h:=Lib.countB_mul_le (mk iW) (by decide) (mk l).size (mk l) (aeo _);unfold Lib.countB at h;have e1:(mk l).data.toList=l:=bytesL_mk' l;have e2:(mk iW).data.toList=iW:=bytesL_mk' iW;rw[e1,e2,mk_size,mk_size] at h;rw[show iW.length=2 from rfl] at h;omega
section
open Go.Shelf
attribute [local go_sem] Oper.semAt_some
theorem ru:(prog.info? 9).map (fun i=>(i.zero,i.size,i.bytes))=some (some (.string ⟨#[]⟩),1,16):=by kernel_rfl
theorem Y4(s:ByteArray)(m:Int)(w:World)(hs:s.size≤1000000)(hm:w.cell? ⟨0,0,none⟩=some (.int .i64 m)) :
 Calls prog 173 #[.string s,.string ⟨#[92,124]⟩,.string ⟨#[124]⟩] w fun e w'=>e=.returned (.string (mk (fD (bytesL s))))∧Below w.heap.size w w':=by
 have hc:=Y3 (bytesL s);rw[bytesL_length] at hc;have h:=Tryz.strings_ReplaceAll s ⟨#[92,124]⟩ ⟨#[124]⟩ m w (by omega) hm (by decide) (by
  show s.size+Lib.count (bytesL s) iW * 1≤_;omega)
 refine h.mono ?_;rintro e w' ⟨rfl,hb⟩;refine⟨?_,hb⟩;have e1:Lib.replaceAll (bytesL s) [92,124] [124]=fD (bytesL s):=by
  unfold Lib.replaceAll Lib.replace Lib.replaceNum;rw[if_neg (by decide),if_pos (by omega)];exact OA _ _ (aeo _)
 show Ending.returned (.string ⟨(Lib.replaceAll (bytesL s) [92,124] [124]).toArray⟩)=_;rw[e1];rfl
theorem Y5(s:ByteArray)(m:Int)(w:World)(hs:s.size≤1000000)(hm:w.cell? ⟨0,0,none⟩=some (.int .i64 m)) :
 Calls prog 120 #[.string s] w fun e W'=>∃v,e=.returned v∧W'.ownsRow w.heap.size 9 1 v (gB (bytesL s)).length ((gB (bytesL s)).map fun p=>.string (mk (cellL p)))∧Below w.heap.size w W':=by
 have J9:0<w.heap.size:=World.block_lt_of_cell? _ _ hm;have HP:=aen fun W=>OJ s W hs;have hcs:=BJ (bytesL s);rw[bytesL_length] at hcs;have HX:Hid (gB (bytesL s)=dO (jm (bytesL s)) 0 0):=aen (by rw[I9];rfl);have hN:(dO (jm (bytesL s)) 0 0).length≤1000001:=by rw[←HX.out];have:=BG (bytesL (jm (bytesL s))) false;rw[bytesL_length] at this;unfold gB;omega
 have HM:Hid (∀p∈dO (jm (bytesL s)) 0 0,p.length≤1000000):=aen (fun p hp=>by
  rw[←HX.out] at hp;have:=zS _ _ p hp;rw[bytesL_length] at this;omega)
 rw[HX.out];clear HX;generalize jm (bytesL s)=C at *;obtain⟨i0,hi,hz0,hz1,hz2⟩:=info_parts ru;refine(callsIn_wide (n:=5)).1 ?_;refine callsIn_of_wp_marks Tryz.func120 rfl trivial ?_ rfl;simp only[Tryz.ntmps120,List.size_toArray,aeC,List.length_nil,Nat.reduceAdd,Nat.reduceSub,Array.replicate_succ,Array.replicate_zero,List.push_toArray,List.append_toArray,List.nil_append,List.cons_append];gi_wp2_with fail;refine⟨trivial,?_⟩;with_reducible refine(callsIn_wide.2 (HP.out _)).mono ?_
 rintro e w' ⟨rfl,rfl⟩;gi_wp2_with fail;have bO:=Boxed.new w 22 (.slice none 0 0);have bN:=Boxed.new (w.alloc (.cells #[.slice none 0 0] 22)) 9 (.string C);rw[World.size_alloc] at bN;have hB0:Below w.heap.size w ((w.alloc (.cells #[.slice none 0 0] 22)).alloc (.cells #[.string C] 9)):=((aer _ w).alloc (aeo _) _).alloc (by simp) _;refine wpIn_rangeFunc_ownG rfl (by omega) (gf:=214) (lb:=#[.pointer (some ⟨w.heap.size+1,0,none⟩)]) rfl trivial (enters_of Tryz.func214 (by kernel_rfl) rfl)
  (OK 4 (by omega) (w.heap.size+1) C (by omega) _ bN) (Kp:=uU (w.heap.size+1)) (fun h1 h2=>h2.trans h1) (fun W l o o' hl ho hc _=>World.putObj_heap_other (fun e=>by simp at hl;omega)) (aer _ _) (fun _=>rfl)
  (fun (pre:List Pt) W=>(∃v,Boxed W w.heap.size 22 v∧W.ownsRow (w.heap.size+2) 9 1 v pre.length (pre.map cellV)∧True)∧(Boxed W (w.heap.size+1) 9 (.string C)∧Below w.heap.size w W))
  (fun _ _ _=>False)
  (OwnFrom.and (Own.from (holdsRow_own (w.heap.size+2) w.heap.size 22 9 1 (fun (pre:List Pt)=>pre.length) (fun pre=>pre.map cellV) (fun _ _=>True)) _) (OwnFrom.and (Own.from (boxed_own (w.heap.size+1) 9 (fun _=>.string C)) _) (ownFrom_below (aeo _) (by simp;omega))))
  (fun _ _ _ _ _ hs _ _=>hs)
  ⟨⟨_,bO.alloc _,World.ownsRow_nil _ _ _ _,trivial⟩,bN,hB0⟩
  (fun (x:Pt)=>{tmps:=#[.string s,undef,.slice none 0 0,.pointer (some ⟨w.heap.size,0,none⟩),.string x.1,.string s,.func (.func 214) #[] #[.pointer (some ⟨w.heap.size+1,0,none⟩)],.string x.1,undef,undef,undef,undef,undef,undef,undef],defers:=[]}) ?assign ?body ?done ?stop
 case assign=>
  intro l x W K hK;gi_wp2_with fail;exact hK
 case body=>
  rintro l pre x W ⟨⟨v,hv,hrow,_⟩,hsB,hB⟩ hlt;have hc:=hv.cell;have hmx:prog.follows .mixedOrders=true:=by kernel_rfl
  have HT:=aen fun W=>uT x.1 W x.2;have hxt:(mk (trimS (bytesL x.1))).size≤1000000:=by rw[mk_size];have:=pY (bytesL x.1);rw[bytesL_length] at this;have:=x.2;omega
  have hpl:pre.length≤1000001:=by omega
  have HR:Hid (∀W1,W1.cell? ⟨0,0,none⟩=some (.int .i64 m)→Calls prog 173 #[.string (mk (trimS (bytesL x.1))),.string ⟨#[92,124]⟩,.string ⟨#[124]⟩] W1 fun e w'=>e=.returned (.string (mk (cellL (bytesL x.1))))∧Below W1.heap.size W1 w'):=aen fun W1 h1=>by
   have h:=Y4 (mk (trimS (bytesL x.1))) m W1 hxt h1;rw[bytesL_mk'] at h;exact h
  have hmW:W.drew.cell? ⟨0,0,none⟩=some (.int .i64 m):=(hB.cell (p:=⟨0,0,none⟩) J9).trans hm;have HV:Hid (cellV x=.string (mk (cellL (bytesL x.1)))):=aen rfl;generalize mk (trimS (bytesL x.1))=T at *;generalize mk (cellL (bytesL x.1))=Y at *;have hcW:W.drew.cell? ⟨w.heap.size,0,none⟩=some v:=hc;have HL:Hid ((pre++[x]).map cellV=pre.map cellV++[.string Y]):=aen (by rw[List.map_append];show _++[cellV x]=_;rw[HV.out]);gi_wp2_with fail;refine V8 hmx (by kernel_rfl) (fun ⟨_,_,h⟩=>h) ?_;refine wpAny_take (i:=1) (v:=.string x.1) rfl (by kernel_rfl) (by kernel_rfl) (by kernel_rfl) (fun _ _ _ h=>h) (Or.inl ⟨by rfl,fun w'=>?_⟩) ?_
  ·go_simp
  simp only[Act.put,List.setIfInBounds_toArray,List.set_cons_zero,List.set_cons_succ];refine wpAny_ready (rs:=[0,2]) (by kernel_rfl) (by simp) (AllReady.cons rfl (fun K hK=>?_) (AllReady.cons rfl (fun K hK=>?_) AllReady.nil))
  ·go_simp;refine hK _ _ ?_;clear hK K;refine wpAny_ready (rs:=[2]) (by kernel_rfl) (by simp) (AllReady.cons rfl (fun K hK=>?_) AllReady.nil);go_simp;with_reducible refine(HT.out _).mono ?_
   rintro e w' ⟨rfl,rfl⟩;refine hK _ _ ?_;clear hK K;refine wpAny_ready (rs:=[3]) (by kernel_rfl) (by simp) (AllReady.cons rfl (fun K hK=>?_) AllReady.nil);go_simp;with_reducible refine(HR.out _ hmW).mono ?_
   rintro e W1 ⟨rfl,b1⟩;have hv1:Boxed W1 w.heap.size 22 v:=(b1.block _ hv.lt).trans hv;have hs1:Boxed W1 (w.heap.size+1) 9 (.string C):=(b1.block _ hsB.lt).trans hsB;have hrow1:W1.ownsRow (w.heap.size+2) 9 1 v pre.length (pre.map cellV):=own_below (w:=W.drew) hrow b1;have kD:=hs1.lt;have hc1:=hv1.cell;have hc2:=(hv1.alloc (.cells #[.string Y] 9)).cell;refine hK _ _ ?_;clear hK K;refine wpAny_ready (rs:=[4]) (by kernel_rfl) (by simp) (AllReady.cons rfl (fun K hK=>?_) AllReady.nil);go_simp;refine hK _ _ ?_;clear hK K;refine wpAny_ready (rs:=[5]) (by kernel_rfl) (by simp) (AllReady.cons rfl (fun K hK=>?_) AllReady.nil);rw[if_pos (by rfl)];refine wp_append_own _ _ _ 22 rfl (w.heap.size+2) 9 i0 (.string ⟨#[]⟩) 1 16 Tryz.underlying22 hi hz0 hz1 hz2 rfl (by decide) v pre.length (pre.map cellV) rfl (hrow1.alloc _) ⟨W1.heap.size,0,none⟩ 1 1 [.string Y] rfl rfl (cell_one_new _ _ _) (by simp[Value.oneCell']) (by unfold maxLen;omega) (by omega) (by simp;omega) ?_;intro v' W2 hown2 hgrow _;obtain⟨g',cap',rfl⟩:=ownsRow_succ hown2;obtain⟨q1,q2,q6,q3,q4,q5⟩:=EV hv1 hs1 hrow1 hown2 hgrow;have hc3:=q1.cell;have hf3:=q1.frozen;refine hK _ _ ?_;clear hK K;simp only[Act.put,List.setIfInBounds_toArray,List.set_cons_zero,List.set_cons_succ];refine wpAny_ready (rs:=[6]) (by kernel_rfl) (by simp) (AllReady.cons rfl (fun K hK=>?_) AllReady.nil);go_simp;refine hK _ _ ?_;clear hK K;refine wpAny_done (by kernel_rfl) ?_ _;exact⟨(((KeepsOthers.drew W).trans (wI b1)).trans q4).from _,q6.trans hsB.symm,⟨_,q2,by rw[HL.out,aey];exact q3,trivial⟩,q6,(hB.drew.trans (b1.mono hB.size)).trans q5⟩
  ·go_simp;with_reducible refine(HT.out _).mono ?_
   rintro e w' ⟨rfl,rfl⟩;refine hK _ _ ?_;clear hK K;refine wpAny_ready (rs:=[0,3]) (by kernel_rfl) (by simp) (AllReady.cons rfl (fun K hK=>?_) (AllReady.cons rfl (fun K hK=>?_) AllReady.nil))
   ·go_simp;refine hK _ _ ?_;clear hK K;refine wpAny_ready (rs:=[3]) (by kernel_rfl) (by simp) (AllReady.cons rfl (fun K hK=>?_) AllReady.nil);go_simp;with_reducible refine(HR.out _ hmW).mono ?_
    rintro e W1 ⟨rfl,b1⟩;have hv1:Boxed W1 w.heap.size 22 v:=(b1.block _ hv.lt).trans hv;have hs1:Boxed W1 (w.heap.size+1) 9 (.string C):=(b1.block _ hsB.lt).trans hsB;have hrow1:W1.ownsRow (w.heap.size+2) 9 1 v pre.length (pre.map cellV):=own_below (w:=W.drew) hrow b1;have kD:=hs1.lt;have hc1:=hv1.cell;have hc2:=(hv1.alloc (.cells #[.string Y] 9)).cell;refine hK _ _ ?_;clear hK K;refine wpAny_ready (rs:=[4]) (by kernel_rfl) (by simp) (AllReady.cons rfl (fun K hK=>?_) AllReady.nil);go_simp;refine hK _ _ ?_;clear hK K;refine wpAny_ready (rs:=[5]) (by kernel_rfl) (by simp) (AllReady.cons rfl (fun K hK=>?_) AllReady.nil);rw[if_pos (by rfl)];refine wp_append_own _ _ _ 22 rfl (w.heap.size+2) 9 i0 (.string ⟨#[]⟩) 1 16 Tryz.underlying22 hi hz0 hz1 hz2 rfl (by decide) v pre.length (pre.map cellV) rfl (hrow1.alloc _) ⟨W1.heap.size,0,none⟩ 1 1 [.string Y] rfl rfl (cell_one_new _ _ _) (by simp[Value.oneCell']) (by unfold maxLen;omega) (by omega) (by simp;omega) ?_;intro v' W2 hown2 hgrow _;obtain⟨g',cap',rfl⟩:=ownsRow_succ hown2;obtain⟨q1,q2,q6,q3,q4,q5⟩:=EV hv1 hs1 hrow1 hown2 hgrow;have hc3:=q1.cell;have hf3:=q1.frozen;refine hK _ _ ?_;clear hK K;simp only[Act.put,List.setIfInBounds_toArray,List.set_cons_zero,List.set_cons_succ];refine wpAny_ready (rs:=[6]) (by kernel_rfl) (by simp) (AllReady.cons rfl (fun K hK=>?_) AllReady.nil);go_simp;refine hK _ _ ?_;clear hK K;refine wpAny_done (by kernel_rfl) ?_ _;exact⟨(((KeepsOthers.drew W).trans (wI b1)).trans q4).from _,q6.trans hsB.symm,⟨_,q2,by rw[HL.out,aey];exact q3,trivial⟩,q6,(hB.drew.trans (b1.mono hB.size)).trans q5⟩
   ·go_simp;with_reducible refine(HR.out _ hmW).mono ?_
    rintro e W1 ⟨rfl,b1⟩;have hv1:Boxed W1 w.heap.size 22 v:=(b1.block _ hv.lt).trans hv;have hs1:Boxed W1 (w.heap.size+1) 9 (.string C):=(b1.block _ hsB.lt).trans hsB;have hrow1:W1.ownsRow (w.heap.size+2) 9 1 v pre.length (pre.map cellV):=own_below (w:=W.drew) hrow b1;have kD:=hs1.lt;have hc1:=hv1.cell;have hc2:=(hv1.alloc (.cells #[.string Y] 9)).cell;refine hK _ _ ?_;clear hK K;refine wpAny_ready (rs:=[0,4]) (by kernel_rfl) (by simp) (AllReady.cons rfl (fun K hK=>?_) (AllReady.cons rfl (fun K hK=>?_) AllReady.nil))
    ·go_simp;refine hK _ _ ?_;clear hK K;refine wpAny_ready (rs:=[4]) (by kernel_rfl) (by simp) (AllReady.cons rfl (fun K hK=>?_) AllReady.nil);go_simp;refine hK _ _ ?_;clear hK K;refine wpAny_ready (rs:=[5]) (by kernel_rfl) (by simp) (AllReady.cons rfl (fun K hK=>?_) AllReady.nil);rw[if_pos (by rfl)];refine wp_append_own _ _ _ 22 rfl (w.heap.size+2) 9 i0 (.string ⟨#[]⟩) 1 16 Tryz.underlying22 hi hz0 hz1 hz2 rfl (by decide) v pre.length (pre.map cellV) rfl (hrow1.alloc _) ⟨W1.heap.size,0,none⟩ 1 1 [.string Y] rfl rfl (cell_one_new _ _ _) (by simp[Value.oneCell']) (by unfold maxLen;omega) (by omega) (by simp;omega) ?_;intro v' W2 hown2 hgrow _;obtain⟨g',cap',rfl⟩:=ownsRow_succ hown2;obtain⟨q1,q2,q6,q3,q4,q5⟩:=EV hv1 hs1 hrow1 hown2 hgrow;have hc3:=q1.cell;have hf3:=q1.frozen;refine hK _ _ ?_;clear hK K;simp only[Act.put,List.setIfInBounds_toArray,List.set_cons_zero,List.set_cons_succ];refine wpAny_ready (rs:=[6]) (by kernel_rfl) (by simp) (AllReady.cons rfl (fun K hK=>?_) AllReady.nil);go_simp;refine hK _ _ ?_;clear hK K;refine wpAny_done (by kernel_rfl) ?_ _;exact⟨(((KeepsOthers.drew W).trans (wI b1)).trans q4).from _,q6.trans hsB.symm,⟨_,q2,by rw[HL.out,aey];exact q3,trivial⟩,q6,(hB.drew.trans (b1.mono hB.size)).trans q5⟩
    ·go_simp;refine hK _ _ ?_;clear hK K;refine wpAny_ready (rs:=[0]) (by kernel_rfl) (by simp) (AllReady.cons rfl (fun K hK=>?_) AllReady.nil);go_simp;refine hK _ _ ?_;clear hK K;refine wpAny_ready (rs:=[5]) (by kernel_rfl) (by simp) (AllReady.cons rfl (fun K hK=>?_) AllReady.nil);rw[if_pos (by rfl)];refine wp_append_own _ _ _ 22 rfl (w.heap.size+2) 9 i0 (.string ⟨#[]⟩) 1 16 Tryz.underlying22 hi hz0 hz1 hz2 rfl (by decide) v pre.length (pre.map cellV) rfl (hrow1.alloc _) ⟨W1.heap.size,0,none⟩ 1 1 [.string Y] rfl rfl (cell_one_new _ _ _) (by simp[Value.oneCell']) (by unfold maxLen;omega) (by omega) (by simp;omega) ?_;intro v' W2 hown2 hgrow _;obtain⟨g',cap',rfl⟩:=ownsRow_succ hown2;obtain⟨q1,q2,q6,q3,q4,q5⟩:=EV hv1 hs1 hrow1 hown2 hgrow;have hc3:=q1.cell;have hf3:=q1.frozen;refine hK _ _ ?_;clear hK K;simp only[Act.put,List.setIfInBounds_toArray,List.set_cons_zero,List.set_cons_succ];refine wpAny_ready (rs:=[6]) (by kernel_rfl) (by simp) (AllReady.cons rfl (fun K hK=>?_) AllReady.nil);go_simp;refine hK _ _ ?_;clear hK K;refine wpAny_done (by kernel_rfl) ?_ _;exact⟨(((KeepsOthers.drew W).trans (wI b1)).trans q4).from _,q6.trans hsB.symm,⟨_,q2,by rw[HL.out,aey];exact q3,trivial⟩,q6,(hB.drew.trans (b1.mono hB.size)).trans q5⟩
 case done=>
  rintro D ys W hD rfl ⟨⟨v,hv,hrow,_⟩,hsB,hB⟩ hK;have hc:=hv.cell;gi_wp2_with fail;refine⟨by simp,.inl ⟨_,_,rfl,run_takeDeferred hK,?_⟩⟩;refine⟨_,results_tmp rfl _ _ _,v,rfl,?_,hB.trans (belowK_b (w:=w) (aeo _) W D _ _ (by simp at hD;omega) hK rfl rfl)⟩;have h:=own_base (ownsRow_putObj hrow (.deferred none) hK rfl) (show w.heap.size≤w.heap.size+2 by omega);have e1:((dO C 0 0).map iJ).map cellV=(dO C 0 0).map fun p=>.string (mk (cellL p)):=by
   rw[List.map_map];refine List.map_congr_left fun p hp=>?_;show cellV (iJ p)=_;unfold cellV;rw[BI p (HM.out p hp),bytesL_mk']
  rw[e1,List.length_map] at h;exact h
 case stop=>
  rintro D c pre W _ _ h _;exact h.elim
end
def Ag(l r:Bool):List UInt8:=if l&&r then [99] else if l then [108] else if r then [114] else [45]
def jT(c:List UInt8):List UInt8:=Lib.trimPrefix c [58]
def lg(c:List UInt8):List UInt8:=Lib.trimSuffix (jT c) [58]
def oq(c:List UInt8):List UInt8:=if lg c=[]∨(lg c).all (· == 45)=false then [] else Ag (Lib.hasPrefix c [58]) (Lib.hasSuffix (jT c) [58])
theorem dropWhile_nil{p:UInt8→Bool}:∀l:List UInt8,l.dropWhile p=[]↔l.all p=true
 | []=>by simp
 |c :: l=>by
  by_cases h:p c=true
  ·rw[List.dropWhile_cons_of_pos h,dropWhile_nil l,List.all_cons,h,Bool.true_and]
  ·rw[List.dropWhile_cons_of_neg h,List.all_cons];simp[h]
theorem Y6(l:List UInt8):Lib.trimB l 45=[]↔l.all (· == 45)=true:=by
 unfold Lib.trimB Lib.trimRightB Lib.trimLeftB;rw[dropWhile_nil,List.all_reverse];have e:l.all (· == 45)=l.reverse.all (· == 45):=List.all_reverse.symm;rw[e];generalize l.reverse=m;by_cases h:m.all (· == 45)=true
 ·rw[(dropWhile_nil m).2 h];simp[h]
 ·constructor
  ·intro h2;rw[←List.takeWhile_append_dropWhile (p:=(· == 45)) (l:=m),List.all_append,h2,Bool.and_true];exact List.all_takeWhile
  ·exact fun e=>absurd e h
theorem Ko(c:List UInt8):(oq c).length≤1:=by
 unfold oq Ag;split
 ·simp
 ·split
  ·simp
  ·split
   ·simp
   ·split <;> simp
theorem Y7(c p:List UInt8):(Lib.trimSuffix c p).length≤c.length:=by
 unfold Lib.trimSuffix;split <;> simp
theorem QI(c p:List UInt8):(Lib.trimPrefix c p).length≤c.length:=by
 unfold Lib.trimPrefix;split <;> simp
theorem Y8(c:List UInt8):(lg c).length≤c.length:=aev (Y7 _ _) (QI _ _)
theorem Y9(s:ByteArray)(k:Nat)(h:k+1<s.size)(h1:bt s k=92)(h2:bt s (k+1)=124):fD (sfx s k)=s.get! (k+1) :: fD (sfx s (k+2)):=by
 rw[bV s k (by omega),bV s (k+1) h];have e1:s.get! k=92:=(eY s k 92 (by decide)).2 h1;have e2:s.get! (k+1)=124:=(eY s (k+1) 124 (by decide)).2 h2;rw[e1,e2,Ox]
theorem Za(s:ByteArray)(k:Nat)(hk:k<s.size)(h:¬(bt s k=92∧k+1<s.size∧bt s (k+1)=124)):fD (sfx s k)=s.get! k :: fD (sfx s (k+1)):=by
 rw[bV s k hk,Ja];rintro ⟨e1,e2⟩;have h1:bt s k=92:=(eY s k 92 (by decide)).1 e1;by_cases hl:k+1<s.size
 ·rw[bV s (k+1) hl] at e2;have e3:s.get! (k+1)=124:=by simpa using e2
  exact h ⟨h1,hl,(eY s (k+1) 124 (by decide)).1 e3⟩
 ·rw[kU s (k+1) (by omega)] at e2;simp at e2
theorem QJ(s:ByteArray)(acc:List UInt8)(k:Nat)(h:k<s.size):mk acc++s.extract k (k+1)=mk (acc++[s.get! k]):=by
 rw[NP,bytesL_sub];have:=xF s k k (aeo _) h;rw[this,sub_self];rfl
theorem Zb(c:ByteArray)(w:World)(hs:c.size≤1000000):Calls prog 172 #[.string c] w fun e w'=>e=.returned (.string (mk (oq (bytesL c))))∧Below w.heap.size w w':=by
 have hz1:=QI (bytesL c) [58];have hz2:=Y8 (bytesL c);rw[bytesL_length] at hz1 hz2;have H1:Hid (∀W,Calls prog 215 #[.string c,.string ⟨#[58]⟩] W fun e w'=>e=.returned (.tuple #[.string (mk (jT (bytesL c))),.bool (Lib.hasPrefix (bytesL c) [58])])∧w'=W):=aen fun W=>Tryz.strings_CutPrefix c ⟨#[58]⟩ W;have H2:Hid (∀W,Calls prog 216 #[.string (mk (jT (bytesL c))),.string ⟨#[58]⟩] W fun e w'=>e=.returned (.tuple #[.string (mk (lg (bytesL c))),.bool (Lib.hasSuffix (jT (bytesL c)) [58])])∧w'=W):=aen fun W=>Tryz.strings_CutSuffix (mk (jT (bytesL c))) ⟨#[58]⟩ W (by rw[mk_size];unfold jT;omega);have H3:Hid (∀W,Calls prog 94 #[.string (mk (lg (bytesL c))),.string ⟨#[45]⟩] W fun e w'=>e=.returned (.string (mk (Lib.trimB (lg (bytesL c)) 45)))∧Below W.heap.size W w'):=aen fun W=>by
  refine(Tryz.strings_Trim_one (mk (lg (bytesL c))) 45 (by decide) W (by rw[mk_size];omega)).mono ?_;rintro e w' ⟨rfl,rfl|rfl⟩
  ·exact⟨rfl,aer _ _⟩
  ·exact⟨rfl,(aer _ _).drew⟩
 have HX:Hid (oq (bytesL c)=if lg (bytesL c)=[]∨(lg (bytesL c)).all (· == 45)=false then [] else Ag (Lib.hasPrefix (bytesL c) [58]) (Lib.hasSuffix (jT (bytesL c)) [58])):=aen rfl;have HT:=aen (Y6 (lg (bytesL c)));generalize oq (bytesL c)=R at *;generalize Lib.hasPrefix (bytesL c) [58]=p at *;generalize Lib.hasSuffix (jT (bytesL c)) [58]=q at *;generalize Lib.trimB (lg (bytesL c)) 45=T at *;generalize lg (bytesL c)=I at *;generalize mk (jT (bytesL c))=J at *;by_cases h0:I=[]
 ·have HF:Hid (R=[]):=aen (by rw[HX.out,if_pos (Or.inl h0)]);subst h0;have Zc:Hid (∀W,Calls prog 216 #[.string J,.string ⟨#[58]⟩] W fun e w'=>e=.returned (.tuple #[.string ⟨#[]⟩,.bool q])∧w'=W):=aen H2.out;go_enter Tryz.func172,Tryz.ntmps172;go_wp2_with fail;with_reducible refine(H1.out _).mono ?_
  rintro e w0 ⟨rfl,rfl⟩;go_wp2_with fail;with_reducible refine(Zc.out _).mono ?_
  rintro e w0 ⟨rfl,rfl⟩;go_wp2_with fail;go_ret;exact⟨dX (by rw[HF.out];rfl),aer _ _⟩
 ·obtain⟨x1,x2⟩:=iV (mk I) (by rw[bytesL_mk'];exact h0);by_cases h1:I.all (· == 45)=true
  ·have HF:Hid (R=Ag p q):=aen (by rw[HX.out,if_neg (by rintro (e|e);exact h0 e;rw[h1] at e;cases e)]);obtain rfl:T=[]:=HT.out.2 h1;have Zd:Hid (∀W,Calls prog 94 #[.string (mk I),.string ⟨#[45]⟩] W fun e w'=>e=.returned (.string ⟨#[]⟩)∧Below W.heap.size W w'):=aen H3.out;clear H3 h0 h1 HT HX;generalize mk I=I' at *;cases p <;> cases q
   all_goals
    go_enter Tryz.func172,Tryz.ntmps172;go_wp2_with fail;with_reducible refine(H1.out _).mono ?_
    rintro e w0 ⟨rfl,rfl⟩;go_wp2_with fail;with_reducible refine(H2.out _).mono ?_
    rintro e w0 ⟨rfl,rfl⟩;go_wp2_with fail;with_reducible refine(Zd.out _).mono ?_
    rintro e w1 ⟨rfl,b1⟩;go_wp2_with fail;go_ret;exact⟨dX (by rw[HF.out];rfl),b1⟩
  ·have HF:Hid (R=[]):=aen (by rw[HX.out,if_pos (Or.inr (by simpa using h1))]);obtain⟨y1,y2⟩:=iV (mk T) (by rw[bytesL_mk'];exact fun e=>h1 (HT.out.1 e));clear h0 h1 HT HX;generalize mk I=I' at *;generalize mk T=T' at *;go_enter Tryz.func172,Tryz.ntmps172;go_wp2_with fail;with_reducible refine(H1.out _).mono ?_
   rintro e w0 ⟨rfl,rfl⟩;go_wp2_with fail;with_reducible refine(H2.out _).mono ?_
   rintro e w0 ⟨rfl,rfl⟩;go_wp2_with fail;with_reducible refine(H3.out _).mono ?_
   rintro e w1 ⟨rfl,b1⟩;go_wp2_with fail;go_ret;exact⟨dX (by rw[HF.out];rfl),b1⟩
theorem Ze(s:ByteArray)(w:World)(hs:s.size≤1000000):Calls prog 228 #[.string s] w fun e w'=>e=.returned (.string (mk (cellL (bytesL s))))∧w=w':=by
 have HT:=aen fun W=>Jc s W hs;have hz:(mk (trimS (bytesL s))).size≤1000000:=by rw[mk_size];have:=pY (bytesL s);rw[bytesL_length] at this;omega
 have HX:Hid (fD (sfx (mk (trimS (bytesL s))) 0)=cellL (bytesL s)):=aen (by unfold sfx cellL;rw[bytesL_mk',List.drop_zero]);generalize cellL (bytesL s)=R at *;generalize mk (trimS (bytesL s))=T at *;go_enter Tryz.func228,Tryz.ntmps228;go_wp2_with fail;with_reducible refine(HT.out _).mono ?_
 rintro e w0 ⟨rfl,rfl⟩;go_wp2_with fail;go_loop [3,4] (fun v3 v4=>∃(k:Nat) (acc:List UInt8),v3=.string (mk acc)∧v4=.int .i64 k∧k≤T.size∧acc.length≤k∧Hid (acc++fD (sfx T k)=R)) (fun _ v=>T.size - (intOf v).toNat);case atStart=>exact⟨0,[],rfl,rfl,by omega,by simp,HX⟩
 case round=>
  obtain⟨k,acc,rfl,rfl,hk,hal,aY⟩:=hrel;by_cases hlt:k<T.size
  ·have hlt2:((T[k].toNat:Nat):Int)<256:=by rw[get_bt T k hlt];have:=aK T k;omega
   by_cases hc:bt T k=92∧k+1<T.size∧bt T (k+1)=124
   ·obtain⟨c1,c2,c3⟩:=hc;have z1:(((T[k].toNat:Nat):Int)==92)=true:=by rw[get_bt T k hlt,c1];rfl
    have z2:(((T[k+1].toNat:Nat):Int)==124)=true:=by rw[get_bt T (k+1) c2,c3];rfl
    have HN:Hid (acc++[T.get! (k+1)]++fD (sfx T (k+2))=R):=aen (by rw[←aY.out,Y9 T k c2 c1 c3];simp);have cat:∀w:World,(Op.stringOp .add (mk acc) (T.extract (k+1) (k+1+1))).run prog w=.ok (.string (mk (acc++[T.get! (k+1)]))) w:=fun w=>by
     rw[run_string_add_sum w _ _ (by rw[mk_size,aex];omega),QJ T acc (k+1) c2]
    clear c1 c3;have j1:(0:Int)≤(k:Int)+1:=by omega
    have j2:(k:Int)+1≤(k:Int)+1+1:=by omega
    have j3:(k:Int)+1+1≤(T.size:Int):=by omega
    go_wp2_with fail;go_round;case rel=>exact⟨k+2,acc++[T.get! (k+1)],rfl,by go_num,by omega,by simp;omega,HN⟩
    case measure=>simp[intOf];omega
   ·have HN:Hid (acc++[T.get! k]++fD (sfx T (k+1))=R):=aen (by rw[←aY.out,Za T k hlt hc];simp);have cat:∀w:World,(Op.stringOp .add (mk acc) (T.extract k (k+1))).run prog w=.ok (.string (mk (acc++[T.get! k]))) w:=fun w=>by
     rw[run_string_add_sum w _ _ (by rw[mk_size,aex];omega),QJ T acc k hlt]
    have hw:(((T[k].toNat:Nat):Int)==92)=false∨((((T[k].toNat:Nat):Int)==92)=true∧T.size≤k+1)∨(∃h2:k+1<T.size,(((T[k].toNat:Nat):Int)==92)=true∧(((T[k+1].toNat:Nat):Int)==124)=false):=by
     rw[get_bt T k hlt];by_cases c1:bt T k=92
     ·right;by_cases c2:k+1<T.size
      ·right;refine⟨c2,by rw[c1];rfl,?_⟩;rw[get_bt T (k+1) c2,aes];intro e;exact hc ⟨c1,c2,by omega⟩
      ·left;exact⟨by rw[c1];rfl,by omega⟩
     ·left;rw[aes];omega
    clear hc;have j1:(0:Int)≤(k:Int):=by omega
    have j2:(k:Int)≤(k:Int)+1:=by omega
    have j3:(k:Int)+1≤(T.size:Int):=by omega
    rcases hw with z1|⟨z1,z2⟩|⟨h2,z1,z2⟩;all_goals
     go_wp2_with fail;go_round;case rel=>exact⟨k+1,acc++[T.get! k],rfl,by go_num,by omega,by simp;omega,HN⟩
     case measure=>simp[intOf];omega
  ·have HF:Hid (acc=R):=aen (by rw[←aY.out,kU T k (by omega)];simp[fD]);go_wp2_with fail;go_ret;exact⟨dX (by rw[HF.out]),rfl⟩
theorem Zf(c:ByteArray):(Lib.hasPrefix (bytesL c) [58]=true∧∃h:0<c.size,(((c[0].toNat:Nat):Int)==58)=true)∨(Lib.hasPrefix (bytesL c) [58]=false∧c.size=0)∨(Lib.hasPrefix (bytesL c) [58]=false∧∃h:0<c.size,(((c[0].toNat:Nat):Int)==58)=false):=by
 by_cases h0:c.size=0
 ·right;left;refine⟨?_,h0⟩;rw[(size_nil c).1 h0];rfl
 ·have h:0<c.size:=by omega
  have e:bytesL c=c.get! 0 :: sfx c 1:=by have:=bV c 0 h;unfold sfx at this ⊢;simpa using this
  by_cases h1:bt c 0=58
  ·left;refine⟨?_,h,by rw[get_bt c 0 h,h1];rfl⟩;rw[e,(eY c 0 58 (by decide)).2 h1];rfl
  ·right;right;refine⟨?_,h,by rw[get_bt c 0 h,aes];omega⟩;rw[e];show ((58:UInt8)==c.get! 0&&true)=false;rw[Bool.and_true,aes];exact fun e=>h1 ((eY c 0 58 (by decide)).1 e.symm)
theorem Zg(c:ByteArray)(h:Lib.hasPrefix (bytesL c) [58]=true):bytesL (c.extract 1 c.size)=jT (bytesL c):=by
 unfold jT Lib.trimPrefix;rw[if_pos h,extract_drop,bytesL_mk'];rfl
theorem Zh(c:List UInt8)(h:Lib.hasPrefix c [58]=false):c=jT c:=by
 unfold jT Lib.trimPrefix;rw[if_neg (by rw[h];simp)]
theorem Kq(l:List UInt8)(a:UInt8):Lib.hasSuffix (l++[a]) [58]=(a==58):=by
 unfold Lib.hasSuffix List.isSuffixOf;rw[List.reverse_append];show ((58:UInt8)==a&&true)=_;rw[Bool.and_true,Bool.beq_comm]
theorem Zi(c:ByteArray):(Lib.hasSuffix (bytesL c) [58]=true∧∃h:0<c.size,(((c[c.size - 1].toNat:Nat):Int)==58)=true)∨(Lib.hasSuffix (bytesL c) [58]=false∧c.size=0)∨(Lib.hasSuffix (bytesL c) [58]=false∧∃h:0<c.size,(((c[c.size - 1].toNat:Nat):Int)==58)=false):=by
 by_cases h0:c.size=0
 ·right;left;refine⟨?_,h0⟩;rw[(size_nil c).1 h0];rfl
 ·have h:0<c.size:=by omega
  have e:=Jb c h;by_cases h1:bt c (c.size - 1)=58
  ·left;refine⟨?_,h,by rw[get_bt c _ (by omega),h1];rfl⟩;rw[e,Kq,(eY c _ 58 (by decide)).2 h1];rfl
  ·right;right;refine⟨?_,h,by rw[get_bt c _ (by omega),aes];omega⟩;rw[e,Kq,aes];exact fun e=>h1 ((eY c _ 58 (by decide)).1 e)
theorem Zj(c:ByteArray)(h:Lib.hasSuffix (bytesL c) [58]=true):bytesL (c.extract 0 (c.size - 1))=Lib.trimSuffix (bytesL c) [58]:=by
 unfold Lib.trimSuffix;rw[if_pos h,wC,bytesL_mk',bytesL_length];rfl
theorem Zk(c:List UInt8)(h:Lib.hasSuffix c [58]=false):c=Lib.trimSuffix c [58]:=by
 unfold Lib.trimSuffix;rw[if_neg (by rw[h];simp)]
theorem Zl(s:ByteArray)(k:Nat)(h:s.size≤k):(sfx s k).all (· == 45)=true:=by rw[kU s k h];rfl
theorem Zm(s:ByteArray)(k:Nat)(h:k<s.size)(hc:bt s k=45):(sfx s k).all (· == 45)=(sfx s (k+1)).all (· == 45):=by
 rw[bV s k h,List.all_cons,(eY s k 45 (by decide)).2 hc];rfl
theorem Zn(s:ByteArray)(k:Nat)(h:k<s.size)(hc:bt s k≠45):(sfx s k).all (· == 45)=false:=by
 rw[bV s k h,List.all_cons,beq_eq_false_iff_ne.2 (show s.get! k≠45 from fun e=>hc ((eY s k 45 (by decide)).1 e))];rfl
theorem Zo(c:ByteArray)(w:World)(hs:c.size≤1000000):Calls prog 190 #[.string c] w fun e w'=>e=.returned (.string (mk (oq (bytesL c))))∧w=w':=by
 have HW:=aen (Zf c);have HC:=aen (Zg c);have HN:=aen (Zh (bytesL c));have HX:Hid (oq (bytesL c)=if lg (bytesL c)=[]∨(lg (bytesL c)).all (· == 45)=false then [] else Ag (Lib.hasPrefix (bytesL c) [58]) (Lib.hasSuffix (jT (bytesL c)) [58])):=aen rfl;have HI:Hid (lg (bytesL c)=Lib.trimSuffix (jT (bytesL c)) [58]):=aen rfl;generalize oq (bytesL c)=R at *;generalize Lib.hasPrefix (bytesL c) [58]=p at *;generalize lg (bytesL c)=I2 at *;generalize jT (bytesL c)=I1 at *;go_enter Tryz.func190,Tryz.ntmps190;go_upto_region 1 with fail
 go_cut [3] (fun s3 wx=>s3=.bool p∧w=wx);case first=>
  rcases HW.out with ⟨rfl,h0,z⟩|⟨rfl,h0⟩|⟨rfl,h0,z⟩
  ·obtain⟨x1,x2⟩:=iV c (fun e=>by have:=(size_nil c).2 e;omega);go_wp2_with fail;go_meet;exact⟨rfl,rfl⟩
  ·obtain⟨x1,x2⟩:=wE c ((size_nil c).1 h0);go_wp2_with fail;go_meet;exact⟨rfl,rfl⟩
  ·obtain⟨x1,x2⟩:=iV c (fun e=>by have:=(size_nil c).2 e;omega);go_wp2_with fail;go_meet;exact⟨rfl,rfl⟩
 case rest=>
 obtain⟨rfl,rfl⟩:=hcut;go_upto_if 13 with fail
 go_cut [0] (fun s0 wx=>(∃X:ByteArray,s0=.string X∧Hid (bytesL X=I1)∧X.size≤c.size)∧w=wx);case first=>
  cases p
  ·go_wp2_with fail;go_meet;exact⟨⟨c,rfl,aen (HN.out (by first|trivial|rfl)),aeo _⟩,rfl⟩
  ·obtain⟨h0,_⟩:∃h:0<c.size,(((c[0].toNat:Nat):Int)==58)=true:=by
    rcases HW.out with ⟨_,h0,z⟩|⟨h,_⟩|⟨h,_⟩
    ·exact⟨h0,z⟩
    ·cases h
    ·cases h
   have h1:(1:Int)≤(c.size:Int):=by omega
   go_wp2_with fail;go_meet;exact⟨⟨_,rfl,aen (HC.out (by first|trivial|rfl)),by rw[aex];omega⟩,rfl⟩
 case rest=>
 obtain⟨⟨X,rfl,Kr,hXz⟩,rfl⟩:=hcut;clear HW HC HN;have HW:=aen (Zi X);have HC:=aen (Zj X);have HN:=aen (Zk (bytesL X));rw[Kr.out] at HW HC HN;generalize Lib.hasSuffix I1 [58]=q at *;have hcast:0<X.size→((X.size:Int) - 1)=((X.size - 1:Nat):Int):=fun h=>by omega
 go_upto_region 4 with fail
 go_cut [4] (fun s4 wx=>s4=.bool q∧w=wx);case first=>
  rcases HW.out with ⟨rfl,h0,z⟩|⟨rfl,h0⟩|⟨rfl,h0,z⟩
  ·obtain⟨x1,x2⟩:=iV X (fun e=>by have:=(size_nil X).2 e;omega);have hcast:=hcast h0;have oM:((X.size:Int) - 1).toNat=X.size - 1:=by omega
   go_wp2_with fail;go_meet;exact⟨rfl,rfl⟩
  ·obtain⟨x1,x2⟩:=wE X ((size_nil X).1 h0);go_wp2_with fail;go_meet;exact⟨rfl,rfl⟩
  ·obtain⟨x1,x2⟩:=iV X (fun e=>by have:=(size_nil X).2 e;omega);have hcast:=hcast h0;have oM:((X.size:Int) - 1).toNat=X.size - 1:=by omega
   go_wp2_with fail;go_meet;exact⟨rfl,rfl⟩
 case rest=>
 obtain⟨rfl,rfl⟩:=hcut;go_upto_if 26 with fail
 go_cut [0] (fun s0 wx=>(∃Z:ByteArray,s0=.string Z∧Hid (bytesL Z=I2)∧Z.size≤X.size)∧w=wx);case first=>
  cases q
  ·go_wp2_with fail;go_meet;exact⟨⟨X,rfl,aen (by rw[Kr.out,HN.out (by first|trivial|rfl)];exact HI.out.symm),aeo _⟩,rfl⟩
  ·obtain⟨h0,_⟩:∃h:0<X.size,(((X[X.size - 1].toNat:Nat):Int)==58)=true:=by
    rcases HW.out with ⟨_,h0,z⟩|⟨h,_⟩|⟨h,_⟩
    ·exact⟨h0,z⟩
    ·cases h
    ·cases h
   have hcast:=hcast h0;have oM:((X.size:Int) - 1).toNat=X.size - 1:=by omega
   go_wp2_with fail;go_meet;exact⟨⟨_,rfl,aen ((HC.out (by first|trivial|rfl)).trans HI.out.symm),by rw[aex];omega⟩,rfl⟩
 case rest=>
 obtain⟨⟨Z,rfl,HZ,hZz⟩,rfl⟩:=hcut;clear HW HC HN HI Kr hcast;have HZ0:Hid ((bytesL Z).all (· == 45)=(sfx Z 0).all (· == 45)):=aen rfl;rw[←HZ.out] at HX;clear HZ;go_wp2_with fail;go_loop [5] (fun v=>∃k:Nat,k≤Z.size∧v=.int .i64 k∧Hid ((bytesL Z).all (· == 45)=(sfx Z k).all (· == 45))) (fun v=>Z.size - (intOf v).toNat);case atStart=>exact⟨0,by omega,rfl,HZ0⟩
 case round=>
  obtain⟨k,hk,rfl,Hk⟩:=hrel;by_cases hlt:k<Z.size
  ·have hlt2:((Z[k].toNat:Nat):Int)<256:=by rw[get_bt Z k hlt];have:=aK Z k;omega
   by_cases hc:bt Z k=45
   ·have z:(((Z[k].toNat:Nat):Int) != 45)=false:=by rw[get_bt Z k hlt,hc];rfl
    have HF:Hid ((bytesL Z).all (· == 45)=(sfx Z (k+1)).all (· == 45)):=aen (by rw[Hk.out,Zm Z k hlt hc]);clear hc;go_wp2_with fail;go_round;case rel=>exact⟨k+1,by omega,by go_num,HF⟩
    case measure=>simp[intOf];omega
   ·have z:(((Z[k].toNat:Nat):Int) != 45)=true:=by rw[get_bt Z k hlt];simp;omega
    have HF:Hid (R=[]):=aen (by rw[HX.out,if_pos (Or.inr (by rw[Hk.out];exact Zn Z k hlt hc))]);clear hc;go_wp2_with fail;go_ret;exact⟨dX (by rw[HF.out];rfl),rfl⟩
  ·have HA:Hid ((bytesL Z).all (· == 45)=true):=aen (by rw[Hk.out,Zl Z k (by omega)]);by_cases h0:Z.size=0
   ·have HF:Hid (R=[]):=aen (by rw[HX.out,if_pos (Or.inl ((size_nil Z).1 h0))]);obtain⟨x1,x2⟩:=wE Z ((size_nil Z).1 h0);go_wp2_with fail;go_ret;exact⟨dX (by rw[HF.out];rfl),rfl⟩
   ·have HF:Hid (R=Ag p q):=aen (by rw[HX.out,if_neg (by rintro (e|e);exact h0 ((size_nil Z).2 e);rw[HA.out] at e;cases e)]);obtain⟨x1,x2⟩:=iV Z (fun e=>h0 ((size_nil Z).2 e));cases p <;> cases q
    all_goals
     go_wp2_with fail;go_ret;exact⟨dX (by rw[HF.out];rfl),rfl⟩
theorem Zp(c:ByteArray):(Lib.hasPrefix (bytesL c) [124]=true∧∃h:0<c.size,(((c[0].toNat:Nat):Int)==124)=true)∨(Lib.hasPrefix (bytesL c) [124]=false∧c.size=0)∨(Lib.hasPrefix (bytesL c) [124]=false∧∃h:0<c.size,(((c[0].toNat:Nat):Int)==124)=false):=by
 by_cases h0:c.size=0
 ·right;left;refine⟨?_,h0⟩;rw[(size_nil c).1 h0];rfl
 ·have h:0<c.size:=by omega
  have e:bytesL c=c.get! 0 :: sfx c 1:=by have:=bV c 0 h;unfold sfx at this ⊢;simpa using this
  by_cases h1:bt c 0=124
  ·left;refine⟨?_,h,by rw[get_bt c 0 h,h1];rfl⟩;rw[e,(eY c 0 124 (by decide)).2 h1];rfl
  ·right;right;refine⟨?_,h,by rw[get_bt c 0 h,aes];omega⟩;rw[e];show ((124:UInt8)==c.get! 0&&true)=false;rw[Bool.and_true,aes];exact fun e=>h1 ((eY c 0 124 (by decide)).1 e.symm)
theorem Zq(c:ByteArray)(h:Lib.hasPrefix (bytesL c) [124]=true):c.extract 1 c.size=mk (Lib.trimPrefix (bytesL c) [124]):=by
 unfold Lib.trimPrefix;rw[if_pos h,extract_drop];rfl
theorem Zr(c:ByteArray)(h:Lib.hasPrefix (bytesL c) [124]=false):c=mk (Lib.trimPrefix (bytesL c) [124]):=by
 unfold Lib.trimPrefix;rw[if_neg (by rw[h];simp),eX]
def cellS(p:List UInt8):Value:=.string (mk (cellL p))
theorem QK(s:ByteArray)(i k:Nat)(w:World)(hs:s.size≤1000000):Calls prog 228 #[.string (s.extract i k)] w fun e w'=>e=.returned (.string (mk (cellL (sub s i k))))∧w=w':=by
 have h:=Ze (s.extract i k) w (by have:(s.extract i k).size≤s.size:=(by rw[aex];omega);omega);rw[bytesL_sub] at h;exact h
def Zs(C:ByteArray)(all:List (List UInt8))(w:World)(v4 v5 v6:Value)(wr:World):Prop:=
 ∃(a i:Nat) (done:List (List UInt8)),v5=.int .i64 a∧v6=.int .i64 i∧a≤i∧i≤C.size∧wr.ownsRow w.heap.size 9 1 v4 done.length (done.map cellS)∧Below w.heap.size w wr∧Hid (done++dO C a i=all)
theorem Zt(s:ByteArray)(w:World)(hs:s.size≤1000000) :
 Calls prog 189 #[.string s] w fun e W'=>∃v,e=.returned v∧W'.ownsRow w.heap.size 9 1 v (gB (bytesL s)).length ((gB (bytesL s)).map cellS)∧Below w.heap.size w W':=by
 have HT:=aen fun W=>Jc s W hs;have HW:=aen (Zp (mk (trimS (bytesL s))));have HC:=aen (Zq (mk (trimS (bytesL s))));have HN:=aen (Zr (mk (trimS (bytesL s))));have HK:Hid (mk (Lib.trimPrefix (bytesL (mk (trimS (bytesL s)))) [124])=iC (bytesL s)):=aen (by rw[bytesL_mk'];rfl);have hz1:=Jd (bytesL s);have hz2:=BJ (bytesL s);rw[bytesL_length] at hz1 hz2;rw[HK.out] at HC HN;have HX:Hid (jm (bytesL s)=if 0<(iC (bytesL s)).size∧fK (iC (bytesL s)) ((iC (bytesL s)).size - 1)=true then (iC (bytesL s)).extract 0 ((iC (bytesL s)).size - 1) else iC (bytesL s)):=aen rfl;have HP:Hid (gB (bytesL s)=dO (jm (bytesL s)) 0 0):=aen (by rw[I9];rfl);have hN:(dO (jm (bytesL s)) 0 0).length≤1000001:=by rw[←HP.out];have:=BG (bytesL (jm (bytesL s))) false;rw[bytesL_length] at this;unfold gB;omega
 rw[HP.out];clear HP HK;generalize hall:dO (jm (bytesL s)) 0 0=all at *;have Je:=aen hall;clear hall;generalize jm (bytesL s)=C at *;generalize iC (bytesL s)=D at *;generalize hp:Lib.hasPrefix (bytesL (mk (trimS (bytesL s)))) [124]=p at *;clear hp;generalize mk (trimS (bytesL s))=T at *;obtain⟨i0,hi,hi0,hi1,hi2⟩:=info_parts ru;go_enter Tryz.func189,Tryz.ntmps189;go_wp2_with fail;with_reducible refine(HT.out _).mono ?_
 rintro e w0 ⟨rfl,rfl⟩;go_upto_region 2 with fail
 go_cut [15] (fun s15 wx=>s15=.bool p∧w=wx);case first=>
  rcases HW.out with ⟨rfl,h0,z⟩|⟨rfl,h0⟩|⟨rfl,h0,z⟩
  ·obtain⟨x1,x2⟩:=iV T (fun e=>by have:=(size_nil T).2 e;omega);go_wp2_with fail;go_meet;exact⟨rfl,rfl⟩
  ·obtain⟨x1,x2⟩:=wE T ((size_nil T).1 h0);go_wp2_with fail;go_meet;exact⟨rfl,rfl⟩
  ·obtain⟨x1,x2⟩:=iV T (fun e=>by have:=(size_nil T).2 e;omega);go_wp2_with fail;go_meet;exact⟨rfl,rfl⟩
 case rest=>
 obtain⟨rfl,rfl⟩:=hcut;go_upto_if 15 with fail
 go_cut [3] (fun s3 wx=>s3=.string D∧w=wx);case first=>
  cases p
  ·have e:=HN.out (by first|trivial|rfl);go_wp2_with fail;go_meet;exact⟨by rw[←e],rfl⟩
  ·obtain⟨h0,_⟩:∃h:0<T.size,(((T[0].toNat:Nat):Int)==124)=true:=by
    rcases HW.out with ⟨_,h0,z⟩|⟨h,_⟩|⟨h,_⟩
    ·exact⟨h0,z⟩
    ·cases h
    ·cases h
   have h1:(1:Int)≤(T.size:Int):=by omega
   have e:=HC.out (by first|trivial|rfl);go_wp2_with fail;go_meet;exact⟨by rw[←e],rfl⟩
 case rest=>
 obtain⟨rfl,rfl⟩:=hcut;clear HW HC HN;have HS:=aen fun (h:0<D.size) W=>OH D (D.size - 1) W (by omega) (by omega);have QL:Hid (0<D.size→fK D (D.size - 1)=true→C=D.extract 0 (D.size - 1)):=aen fun h1 h2=>by rw[HX.out,if_pos ⟨h1,h2⟩]
 have QM:Hid (¬(0<D.size∧fK D (D.size - 1)=true)→C=D):=aen fun h1=>by rw[HX.out,if_neg h1]
 clear HX;generalize hq:fK D (D.size - 1)=q at *;clear hq;go_upto_region 4 with fail
 go_cut [26] (fun s26 wx=>(∃b:Bool,s26=.bool b∧(b=true↔(0<D.size∧q=true)))∧w=wx);case first=>
  by_cases h0:0<D.size
  ·obtain⟨x1,x2⟩:=iV D (fun e=>by have:=(size_nil D).2 e;omega);have hcast:((D.size:Int) - 1)=((D.size - 1:Nat):Int):=by omega
   have oM:((D.size:Int) - 1).toNat=D.size - 1:=by omega
   have jU:=aen (HS.out h0);go_wp2_with fail;with_reducible refine(jU.out _).mono ?_
   rintro e w0 ⟨rfl,rfl⟩;go_wp2_with fail;go_meet;exact⟨⟨q,rfl,by simp[h0]⟩,rfl⟩
  ·obtain⟨x1,x2⟩:=wE D ((size_nil D).1 (by omega));go_wp2_with fail;go_meet;exact⟨⟨false,rfl,by simp[h0]⟩,rfl⟩
 case rest=>
 obtain⟨⟨b,rfl,hbq⟩,rfl⟩:=hcut;go_upto_if 26 with fail
 go_cut [3] (fun s3 wx=>s3=.string C∧w=wx);case first=>
  cases b
  ·have e:=QM.out (fun e=>by have:=hbq.2 e;cases this);clear hbq;go_wp2_with fail;go_meet;exact⟨by rw[e],rfl⟩
  ·obtain⟨h0,h1⟩:=hbq.1 rfl;have e:=QL.out h0 h1;clear hbq;have hcast:((D.size:Int) - 1)=((D.size - 1:Nat):Int):=by omega
   have oM:((D.size:Int) - 1).toNat=D.size - 1:=by omega
   go_wp2_with fail;go_meet;exact⟨by rw[e],rfl⟩
 case rest=>
 obtain⟨rfl,rfl⟩:=hcut;clear HS QL QM hbq;go_wp2_with fail;go_loopw [4,5,6] (fun v4 v5 v6 wr=>Zs C all w v4 v5 v6 wr) (fun _ _ v _=>C.size - (intOf v).toNat);case atStart=>exact⟨0,0,[],rfl,rfl,by omega,by omega,World.ownsRow_nil _ _ _ _,aer _ _,Je⟩
 case round=>
  obtain⟨a,i,done,rfl,rfl,hai,hic,hown,hbw,lM⟩:=hrel;have hz:=hbw.size;by_cases hlt:i<C.size
  ·have HS:=aen fun W=>OH C i W (by omega) hlt;cases hsb:fK C i
   ·rw[hsb] at HS;have HN:Hid (done++dO C a (i+1)=all):=aen (by rw[←Ou C a i hai hlt hsb];exact lM.out);clear hsb;go_wp2_with fail;with_reducible refine(HS.out _).mono ?_
    rintro e w0 ⟨rfl,rfl⟩;go_wp2_with fail;go_roundw;case rel=>exact⟨a,i+1,done,rfl,by go_num,by omega,by omega,hown,hbw,HN⟩
    case measure=>simp[intOf];omega
   ·rw[hsb] at HS;have HN:Hid (done++[sub C a i]++dO C (i+1) (i+1)=all):=aen (by rw[←lM.out,Ot C a i hlt hsb];simp);have hdl:done.length+1≤1000001:=by
     have:=congrArg List.length HN.out;rw[aey,aey] at this;simp at this;omega
    have HP:=aen fun W=>QK C a i W (by omega);have HV:Hid (cellS (sub C a i)=.string (mk (cellL (sub C a i)))):=aen rfl;generalize mk (cellL (sub C a i))=Y at *;clear hsb;have j1:(a:Int)≤(i:Int):=by omega
    have j2:(i:Int)≤(C.size:Int):=by omega
    go_wp2_with fail;with_reducible refine(HS.out _).mono ?_
    rintro e w0 ⟨rfl,rfl⟩;go_wp2_with fail;with_reducible refine(HP.out _).mono ?_
    rintro e w0 ⟨rfl,rfl⟩;go_wp2_with (at_builtin;refine wpList_append_own _ rfl _ _ 22 rfl w.heap.size 9 i0 _ 1 16 Tryz.underlying22 hi hi0 hi1 hi2 rfl (by decide) _ _ _ rfl (hown.alloc _) ⟨wr.heap.size,0,none⟩ 1 1 [.string Y] rfl rfl ?c1 ?c2 ?c3 ?c4 ?c5 ?_);case c1=>
     intro j u hj;match j,hj with
     |0,hj=>simp at hj;subst hj;simp[Addr.add]
    case c2=>intro u hu;simp at hu;subst hu;rfl
    case c3=>unfold maxLen;omega
    case c4=>omega
    case c5=>simp;omega
    intro v' w2 hown3 hgrow _;have hnx:Below w.heap.size w w2:=(hbw.alloc hz _).grown hgrow (by simp;omega) (fun k hk=>(hown.lt k hk).1);go_wp2_with fail;go_roundw;case rel=>
     refine⟨i+1,i+1,done++[sub C a i],by go_num,by go_num,by omega,by omega,?_,hnx,HN⟩;rw[List.map_append,aey];show w2.ownsRow _ _ _ _ (done.length+1) (done.map cellS++[cellS (sub C a i)]);rw[HV.out];exact hown3
    case measure=>simp[intOf];omega
  ·obtain rfl:i=C.size:=by omega
   have HN:Hid (done++[sub C a C.size]=all):=aen (by rw[←lM.out,Ov C a C.size (aeo _)]);have hdl:done.length+1≤1000001:=by
    have:=congrArg List.length HN.out;rw[aey] at this;simp at this;omega
   have HP:=aen fun W=>QK C a C.size W (by omega);have HV:Hid (cellS (sub C a C.size)=.string (mk (cellL (sub C a C.size)))):=aen rfl;generalize mk (cellL (sub C a C.size))=Y at *;have j1:(a:Int)≤(C.size:Int):=by omega
   go_wp2_with fail;with_reducible refine(HP.out _).mono ?_
   rintro e w0 ⟨rfl,rfl⟩;go_wp2_with (at_builtin;refine wpList_append_own _ rfl _ _ 22 rfl w.heap.size 9 i0 _ 1 16 Tryz.underlying22 hi hi0 hi1 hi2 rfl (by decide) _ _ _ rfl (hown.alloc _) ⟨wr.heap.size,0,none⟩ 1 1 [.string Y] rfl rfl ?c1 ?c2 ?c3 ?c4 ?c5 ?_);case c1=>
    intro j u hj;match j,hj with
    |0,hj=>simp at hj;subst hj;simp[Addr.add]
   case c2=>intro u hu;simp at hu;subst hu;rfl
   case c3=>unfold maxLen;omega
   case c4=>omega
   case c5=>simp;omega
   intro v' w2 hown3 hgrow _;have hnx:Below w.heap.size w w2:=(hbw.alloc hz _).grown hgrow (by simp;omega) (fun k hk=>(hown.lt k hk).1);go_wp2_with fail;go_ret;refine⟨v',rfl,?_,hnx⟩;rw[←HN.out,List.map_append,aey];show w2.ownsRow _ _ _ _ (done.length+1) (done.map cellS++[cellS (sub C a C.size)]);rw[HV.out];exact hown3
def gu(zs:List ByteArray)(n:Nat):List ByteArray:=zs.take n++List.replicate (n - zs.length) ⟨#[]⟩
theorem Ks(zs:List ByteArray)(n:Nat):(gu zs n).length=n:=by unfold gu;simp;omega
theorem Zu(zs:List ByteArray)(n:Nat):gu zs (n+1)=gu zs n++[if h:n<zs.length then zs[n] else ⟨#[]⟩]:=by
 unfold gu;by_cases h:n<zs.length
 ·rw[dif_pos h,List.take_succ_eq_append_getElem h,show n+1 - zs.length=0 by omega,show n - zs.length=0 by omega];simp
 ·rw[dif_neg h,List.take_of_length_le (by omega),List.take_of_length_le (by omega),show n+1 - zs.length=(n - zs.length)+1 by omega,List.replicate_succ'];simp
def fQ(c:Int):Nat:=min c.toNat 32
theorem QN(z:Value)(n:Nat):madeCells #[z] n=(List.replicate n z).toArray:=by
 unfold madeCells;apply Array.ext
 ·simp
 ·intro i h1 h2;simp[Nat.mod_one]
theorem Zv(zs:List ByteArray)(n:Nat):splice (List.replicate n (Value.string ⟨#[]⟩)) 0 (strs (zs.take n))=strs (gu zs n):=by
 unfold splice gu strs;simp[List.map_append,List.map_replicate,List.drop_replicate];by_cases h:n≤zs.length
 ·rw[show min n zs.length=n by omega,show n - n=0 by omega,show n - zs.length=0 by omega]
 ·rw[show min n zs.length=zs.length by omega]
def Zw(zs:List ByteArray)(n:Nat)(w:World)(v5 v6:Value)(wr:World):Prop:=
 ∃k:Nat,v6=.int .i64 k∧k≤n∧wr.ownsRow w.heap.size 9 1 v5 k (strs (gu zs k))∧Below w.heap.size w wr
end Go.Proofs.YtpoafhgbhnblmaaGreatDoor
