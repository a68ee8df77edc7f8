import Derived.Test.YtpoafhgbhnblmaaGreatDoorF18
set_option linter.unusedVariables false
set_option linter.unusedSimpArgs false
set_option maxRecDepth 100000
set_option maxHeartbeats 20000000
namespace Go.Proofs.YtpoafhgbhnblmaaGreatDoor
open Go.Proofs.Tryz (prog)
open Go.RowKit
theorem Ri{W:World}{g:Nat}{x0 x1 x2 x3 x4 x5 x6 x7 x8 x9 x10:Value}{u7:Value}{u8:Value}{P:Ending→World→Prop}{act:Act}(hr:ae W g 46 #[x0,x1,x2,x3,x4,x5,x6,x7,x8,x9,x10])(h6:act.tmps.getD 6 undef=.pointer (some ⟨g,0,none⟩))(h7:act.tmps.getD 7 undef=u7)(h8:act.tmps.getD 8 undef=u8)(hd:act.defers=[])(hP:P (.returned (.tuple #[.agg #[x0,x1,x2,x3,x4,x5,x6,x7,x8,x9,x10],u7,u8])) W):bodyPost prog Tryz.f70 P Exit.ret act W:=by
 obtain⟨c0,c1,c2,c3,c4,c5,c6,c7,c8,c9,c10,_⟩:=az hr;refine bodyPost_ret (v:=.tuple #[.agg #[x0,x1,x2,x3,x4,x5,x6,x7,x8,x9,x10],u7,u8]) ?_ hd hP;rw[aew] at h6 h7 h8;simp[results,Tryz.results70,go_sem,h6,h7,h8,c0,c1,c2,c3,c4,c5,c6,c7,c8,c9,c10]
theorem aan{W:World}{g:Nat}{x0 x1 x2 x3 x4 x5 x6 x7 x8 x9 x10:Value}{u7:Value}{u8:Value}{P:Ending→World→Prop}{act:Act}(hr:ae W g 46 #[x0,x1,x2,x3,x4,x5,x6,x7,x8,x9,x10])(h6:act.tmps.getD 6 undef=.pointer (some ⟨g,0,none⟩))(h7:act.tmps.getD 7 undef=u7)(h8:act.tmps.getD 8 undef=u8)(hd:act.defers=[])(hP:P (.returned (.tuple #[.agg #[x0,x1,x2,x3,x4,x5,x6,x7,x8,x9,x10],u7,u8])) W):bodyPost prog Tryz.f71 P Exit.ret act W:=by
 obtain⟨c0,c1,c2,c3,c4,c5,c6,c7,c8,c9,c10,_⟩:=az hr;refine bodyPost_ret (v:=.tuple #[.agg #[x0,x1,x2,x3,x4,x5,x6,x7,x8,x9,x10],u7,u8]) ?_ hd hP;rw[aew] at h6 h7 h8;simp[results,Tryz.results71,go_sem,h6,h7,h8,c0,c1,c2,c3,c4,c5,c6,c7,c8,c9,c10]
theorem Rj{W:World}{g:Nat}{x0 x1 x2 x3 x4 x5 x6 x7 x8 x9 x10:Value}{u9:Value}{u10:Value}{P:Ending→World→Prop}{act:Act}(hr:ae W g 46 #[x0,x1,x2,x3,x4,x5,x6,x7,x8,x9,x10])(h8:act.tmps.getD 8 undef=.pointer (some ⟨g,0,none⟩))(h9:act.tmps.getD 9 undef=u9)(h10:act.tmps.getD 10 undef=u10)(hd:act.defers=[])(hP:P (.returned (.tuple #[.agg #[x0,x1,x2,x3,x4,x5,x6,x7,x8,x9,x10],u9,u10])) W):bodyPost prog Tryz.f74 P Exit.ret act W:=by
 obtain⟨c0,c1,c2,c3,c4,c5,c6,c7,c8,c9,c10,_⟩:=az hr;refine bodyPost_ret (v:=.tuple #[.agg #[x0,x1,x2,x3,x4,x5,x6,x7,x8,x9,x10],u9,u10]) ?_ hd hP;rw[aew] at h8 h9 h10;simp[results,Tryz.results74,go_sem,h8,h9,h10,c0,c1,c2,c3,c4,c5,c6,c7,c8,c9,c10]
theorem Gi{W:World}{g:Nat}{x0 x1 x2 x3 x4 x5 x6 x7 x8 x9 x10:Value}{u9:Value}{u10:Value}{P:Ending→World→Prop}{act:Act}(hr:ae W g 46 #[x0,x1,x2,x3,x4,x5,x6,x7,x8,x9,x10])(h8:act.tmps.getD 8 undef=.pointer (some ⟨g,0,none⟩))(h9:act.tmps.getD 9 undef=u9)(h10:act.tmps.getD 10 undef=u10)(hd:act.defers=[])(hP:P (.returned (.tuple #[.agg #[x0,x1,x2,x3,x4,x5,x6,x7,x8,x9,x10],u9,u10])) W):bodyPost prog Tryz.f76 P Exit.ret act W:=by
 obtain⟨c0,c1,c2,c3,c4,c5,c6,c7,c8,c9,c10,_⟩:=az hr;refine bodyPost_ret (v:=.tuple #[.agg #[x0,x1,x2,x3,x4,x5,x6,x7,x8,x9,x10],u9,u10]) ?_ hd hP;rw[aew] at h8 h9 h10;simp[results,Tryz.results76,go_sem,h8,h9,h10,c0,c1,c2,c3,c4,c5,c6,c7,c8,c9,c10]
theorem Rk{W:World}{g:Nat}{x0 x1 x2 x3 x4 x5 x6 x7 x8 x9 x10:Value}{u7:Value}{u8:Value}{P:Ending→World→Prop}{act:Act}(hr:ae W g 46 #[x0,x1,x2,x3,x4,x5,x6,x7,x8,x9,x10])(h6:act.tmps.getD 6 undef=.pointer (some ⟨g,0,none⟩))(h7:act.tmps.getD 7 undef=u7)(h8:act.tmps.getD 8 undef=u8)(hd:act.defers=[])(hP:P (.returned (.tuple #[.agg #[x0,x1,x2,x3,x4,x5,x6,x7,x8,x9,x10],u7,u8])) W):bodyPost prog Tryz.f78 P Exit.ret act W:=by
 obtain⟨c0,c1,c2,c3,c4,c5,c6,c7,c8,c9,c10,_⟩:=az hr;refine bodyPost_ret (v:=.tuple #[.agg #[x0,x1,x2,x3,x4,x5,x6,x7,x8,x9,x10],u7,u8]) ?_ hd hP;rw[aew] at h6 h7 h8;simp[results,Tryz.results78,go_sem,h6,h7,h8,c0,c1,c2,c3,c4,c5,c6,c7,c8,c9,c10]
theorem jG{W:World}{g:Nat}{x0 x1 x2 x3 x4 x5 x6 x7 x8 x9 x10:Value}{u9:Value}{u10:Value}{P:Ending→World→Prop}{act:Act}(hr:ae W g 46 #[x0,x1,x2,x3,x4,x5,x6,x7,x8,x9,x10])(h8:act.tmps.getD 8 undef=.pointer (some ⟨g,0,none⟩))(h9:act.tmps.getD 9 undef=u9)(h10:act.tmps.getD 10 undef=u10)(hd:act.defers=[])(hP:P (.returned (.tuple #[.agg #[x0,x1,x2,x3,x4,x5,x6,x7,x8,x9,x10],u9,u10])) W):bodyPost prog Tryz.f39 P Exit.ret act W:=by
 obtain⟨c0,c1,c2,c3,c4,c5,c6,c7,c8,c9,c10,_⟩:=az hr;refine bodyPost_ret (v:=.tuple #[.agg #[x0,x1,x2,x3,x4,x5,x6,x7,x8,x9,x10],u9,u10]) ?_ hd hP;rw[aew] at h8 h9 h10;simp[results,Tryz.results39,go_sem,h8,h9,h10,c0,c1,c2,c3,c4,c5,c6,c7,c8,c9,c10]
theorem aao{W:World}{g:Nat}{x0 x1 x2 x3 x4 x5 x6 x7 x8 x9 x10:Value}{u5:Value}{P:Ending→World→Prop}{act:Act}(hr:ae W g 46 #[x0,x1,x2,x3,x4,x5,x6,x7,x8,x9,x10])(h4:act.tmps.getD 4 undef=.pointer (some ⟨g,0,none⟩))(h5:act.tmps.getD 5 undef=u5)(hd:act.defers=[])(hP:P (.returned (.tuple #[.agg #[x0,x1,x2,x3,x4,x5,x6,x7,x8,x9,x10],u5])) W):bodyPost prog Tryz.f79 P Exit.ret act W:=by
 obtain⟨c0,c1,c2,c3,c4,c5,c6,c7,c8,c9,c10,_⟩:=az hr;refine bodyPost_ret (v:=.tuple #[.agg #[x0,x1,x2,x3,x4,x5,x6,x7,x8,x9,x10],u5]) ?_ hd hP;rw[aew] at h4 h5;simp[results,Tryz.results79,go_sem,h4,h5,c0,c1,c2,c3,c4,c5,c6,c7,c8,c9,c10]
theorem aap{W:World}{g:Nat}{x0 x1 x2 x3 x4 x5 x6 x7 x8 x9 x10:Value}{P:Ending→World→Prop}{act:Act}(hr:ae W g 46 #[x0,x1,x2,x3,x4,x5,x6,x7,x8,x9,x10])(h4:act.tmps.getD 4 undef=.pointer (some ⟨g,0,none⟩))(hd:act.defers=[])(hP:P (.returned (.agg #[x0,x1,x2,x3,x4,x5,x6,x7,x8,x9,x10])) W):bodyPost prog Tryz.f121 P Exit.ret act W:=by
 obtain⟨c0,c1,c2,c3,c4,c5,c6,c7,c8,c9,c10,_⟩:=az hr;refine bodyPost_ret (v:=.agg #[x0,x1,x2,x3,x4,x5,x6,x7,x8,x9,x10]) ?_ hd hP;rw[aew] at h4;simp[results,Tryz.results121,go_sem,h4,c0,c1,c2,c3,c4,c5,c6,c7,c8,c9,c10]
theorem Rl{W:World}{g:Nat}{x y z u:Value}{P:Ending→World→Prop}{act:Act}(hr:ae W g 43 #[x,y,z])(h6:act.tmps.getD 6 undef=u)(h7:act.tmps.getD 7 undef=.pointer (some ⟨g,0,none⟩))(hd:act.defers=[])(hP:P (.returned (.tuple #[u,.agg #[x,y,z]])) W):bodyPost prog Tryz.f72 P Exit.ret act W:=by
 have c0:W.cell? ⟨g,0,none⟩=some x:=hr.cell 0;have c1:W.cell? ⟨g,1,none⟩=some y:=hr.cell 1;have c2:W.cell? ⟨g,2,none⟩=some z:=hr.cell 2;refine bodyPost_ret (v:=.tuple #[u,.agg #[x,y,z]]) ?_ hd hP;rw[aew] at h6 h7;simp[results,Tryz.results72,go_sem,h6,h7,c0,c1,c2]
theorem KG(zs:List ByteArray)(k:Nat)(h:k<zs.length):fC (zs.take (k+1))=fC (zs.take k)++(bytesL zs[k]++[10]):=by
 unfold fC;rw[List.take_succ_eq_append_getElem h,List.flatMap_append];simp
theorem Rn(zs:List ByteArray)(M:Nat)(hM:∀z∈zs,z.size≤M):∀k,(fC (zs.take k)).length≤k * (M+1):=by
 intro k;induction k with
 |zero=>simp[fC]
 |succ k ih=>
  by_cases h:k<zs.length
  ·rw[KG zs k h,aey,aey,bytesL_length];have:=hM zs[k] (List.getElem_mem h);have e:(k+1) * (M+1)=k * (M+1)+(M+1):=Nat.succ_mul _ _;simp only[List.length_singleton];omega
  ·rw[List.take_of_length_le (by omega)];rw[List.take_of_length_le (by omega)] at ih;exact aev ih (Nat.mul_le_mul_right _ (by omega))
def aaq(zs:List ByteArray)(w:World)(i:Value)(wr:World):Prop:=
 ∃(k:Nat) (acc:List UInt8),i=.int .i64 k∧k≤zs.length∧Lib.IsBuilderF 158 5 w.heap.size w.heap.size (Lib.byteCells acc) wr∧Below w.heap.size w wr∧Hid (acc=fC (zs.take k))∧w.heap.size<wr.heap.size
theorem Ro(zs:List ByteArray)(A:Option Addr)(c B:Nat)(w:World)(hr:Reads w B 1 A zs.length (strs zs))(hB:B≤w.heap.size)(hl:zs.length≤10000)(hM:∀z∈zs,z.size≤100000) :
 Calls prog 116 #[.slice A zs.length c] w fun e w'=>e=.returned (.string (mk (fC zs)))∧Below w.heap.size w w':=by
 have HX:Hid (fC zs=fC (zs.take zs.length)):=aen (by rw[List.take_length]);have HL:=aen (Rn zs 100000 hM);have HM:=aen hM;have qy:=aen hr;have hI0:=aen (Lib.IsBuilderF.of (Lib.fresh_isBuilder 158 5 w));have hB0:Hid (∀x y z,Below w.heap.size w (w.alloc (.cells x y z))):=aen fun _ _ _=>(aer _ w).alloc (aeo _) _;generalize fC zs=R at *;clear hr hM;go_enter Tryz.func116,Tryz.ntmps116;go_wp2_with fail;go_loopw [8] (fun v wr=>aaq zs w v wr) (fun v _=>zs.length - (intOf v).toNat);case atStart=>exact⟨0,[],rfl,by omega,hI0.out,hB0.out _ _ _,aen rfl,by simp⟩
 case round=>
  clear hI0 hB0;obtain⟨k,acc,rfl,hk,hI,hbw,aY,hsz⟩:=hrel;have hal:acc.length≤k * 100001:=by rw[aY.out];exact HL.out k
  by_cases hlt:k<zs.length
  ·obtain⟨b,off,rfl,hbB,hcell⟩:=ve qy.out (by omega);have hc:wr.cell? ⟨b,off+k,none⟩=some (.string zs[k]):=(hbw.cell (p:=⟨b,off+k,none⟩) (by show b<_;omega)).trans (hcell k hlt);have hst:=aen (KG zs k hlt);have fO:=HM.out zs[k] (List.getElem_mem hlt);have hkm:k * 100001≤10000 * 100001:=Nat.mul_le_mul_right _ (by omega);have HS:Hid (Lib.strCells zs[k]=Lib.byteCells (bytesL zs[k])):=aen (by rw[Lib.strCells_eq];rfl);have hzl:=bytesL_length zs[k];generalize zs[k]=z at *;clear hcell;go_wp2_with fail;refine(EM w.heap.size w.heap.size _ z _ hI (by rw[Lib.byteCells_length];omega) (by omega)).mono ?_;rintro e W1 ⟨rfl,h1,b2,_⟩;have hz2:=b2.size;rw[HS.out,←Lib.byteCells_append] at h1;go_wp2_with fail;refine(zM w.heap.size w.heap.size _ 10 _ (Or.inr h1) (by rw[Lib.byteCells_length,aey,hzl];omega) (by omega)).mono ?_;rintro e W2 ⟨rfl,h2,b3,_⟩;have hz3:=b3.size;replace h2:Lib.BuilderAtF 158 5 w.heap.size w.heap.size (Value.pointer (some {block:=w.heap.size,off:=0})) (Lib.byteCells (acc++bytesL z++[10])) W2:=by
    rw[Lib.byteCells_append];exact h2
   go_wp2_with fail;go_roundw;case rel=>
    exact⟨k+1,acc++(bytesL z++[10]),by go_num,by omega,by rw[←List.append_assoc];exact Or.inr h2,(hbw.trans b2).trans b3,aen (by rw[hst.out,aY.out]),by omega⟩
   case measure=>simp[intOf];omega
  ·have HF:Hid (acc=R):=aen (by rw[aY.out,HX.out,show k=zs.length by omega]);go_wp2_with fail;refine(Tryz.Builder_String_any_k w.heap.size w.heap.size acc _ hI (by omega)).mono ?_;rintro e W1 ⟨rfl,h1,b1,_⟩;go_wp2_with fail;go_ret;exact⟨by rw[←HF.out];rfl,hbw.trans b1⟩
theorem Gj(s:ByteArray)(w:World)(hs:s.size≤1000000):Calls prog 17 #[.string s] w fun e w'=>e=.returned (.bool (aF s))∧w=w':=by
 have HI:=aen fun W=>BH s W hs;have HB:Hid (aF s=decide (ah s 0=s.size)):=aen rfl;generalize aF s=b at *;generalize ah s 0=i at *;have hb:∃q:Bool,(i==s.size)=q∧((i:Int)==(s.size:Int))=q∧Hid (b=q):=by
  by_cases h:i=s.size
  ·exact⟨true,by rw[beq_iff_eq];exact h,by rw[beq_iff_eq];omega,aen (by rw[HB.out];exact aeq h)⟩
  ·exact⟨false,by rw[aes];exact h,by rw[aes];omega,aen (by rw[HB.out];exact aep h)⟩
 obtain⟨q,n1,n2,hq⟩:=hb;go_enter Tryz.func17,Tryz.ntmps17;go_wp2_with fail;with_reducible refine(HI.out _).mono ?_
 rintro e w' ⟨rfl,rfl⟩;go_wp2_with fail;go_ret;exact⟨aJ (by rw[hq.out]),rfl⟩
theorem Rq(s:ByteArray)(n:Nat)(w:World)(hs:s.size≤1000000)(hn:n≤1000000):Calls prog 133 #[.string s,.int .i64 n] w fun e w'=>e=.returned (.string (aT s n))∧w=w':=by
 have HI:=aen fun W=>BH s W hs;have hl:=kC s;have HB:Hid (aT s n=s.extract (min n (ah s 0)) s.size):=aen rfl;generalize aT s n=b at *;generalize ah s 0=i at *;have z0:decide ((n:Int)<0)=false:=aep (by omega);have z00:decide ((i:Int)<0)=false:=aep (by omega);have hii:(i:Int)≤(s.size:Int):=by omega
 by_cases h:n<i
 ·have z1:decide ((n:Int)<(i:Int))=true:=aeq (by omega);have z2:decide (n<i)=true:=aeq h;have hni:(n:Int)≤(s.size:Int):=by omega
  have HF:Hid (b=s.extract n s.size):=aen (by rw[HB.out,Nat.min_eq_left (by omega)]);clear HB;go_enter Tryz.func133,Tryz.ntmps133;go_wp2_with fail;with_reducible refine(HI.out _).mono ?_
  rintro e w' ⟨rfl,rfl⟩;go_wp2_with fail;go_ret;exact⟨dX (by rw[HF.out]),rfl⟩
 ·have z1:decide ((n:Int)<(i:Int))=false:=aep (by omega);have z2:decide (n<i)=false:=aep h;have HF:Hid (b=s.extract i s.size):=aen (by rw[HB.out,Nat.min_eq_right (by omega)]);clear HB;go_enter Tryz.func133,Tryz.ntmps133;go_wp2_with fail;with_reducible refine(HI.out _).mono ?_
  rintro e w' ⟨rfl,rfl⟩;go_wp2_with fail;go_ret;exact⟨dX (by rw[HF.out]),rfl⟩
theorem Rt(zs:List ByteArray)(A:Option Addr)(c B:Nat)(w:World)(hr:Reads w B 1 A zs.length (strs zs))(hl:zs.length≤10000)(hM:∀z∈zs,z.size≤100000) :
 Calls prog 85 #[.slice A zs.length c] w fun e w'=>e=.returned (.string (mk (fC zs)))∧w=w':=by
 have HX:Hid (fC zs=fC (zs.take zs.length)):=aen (by rw[List.take_length]);have HL:=aen (Rn zs 100000 hM);have HM:=aen hM;have qy:=aen hr;generalize fC zs=R at *;clear hr hM;go_enter Tryz.func85,Tryz.ntmps85;go_wp2_with fail;go_loop [3,4] (fun v3 v4=>∃(k:Nat) (acc:List UInt8),v3=.string (mk acc)∧v4=.int .i64 k∧k≤zs.length∧Hid (acc=fC (zs.take k))) (fun _ v=>zs.length - (intOf v).toNat);case atStart=>exact⟨0,[],rfl,rfl,by omega,aen rfl⟩
 case round=>
  obtain⟨k,acc,rfl,rfl,hk,aY⟩:=hrel;have hal:acc.length≤k * 100001:=by rw[aY.out];exact HL.out k
  have hkm:k * 100001≤10000 * 100001:=Nat.mul_le_mul_right _ (by omega);by_cases hlt:k<zs.length
  ·obtain⟨b,off,rfl,hbB,hcell⟩:=ve qy.out (by omega);have hc:=hcell k hlt;have hst:=aen (KG zs k hlt);have fO:=HM.out zs[k] (List.getElem_mem hlt);have hzl:=bytesL_length zs[k];generalize zs[k]=z at *;have aar:∀w:World,(Op.stringOp .add (mk acc) z).run prog w=.ok (.string (mk (acc++bytesL z))) w:=fun w=>zJ w acc z _ (by omega) rfl;have aas:∀w:World,(Op.stringOp .add (mk (acc++bytesL z)) ⟨#[10]⟩).run prog w=.ok (.string (mk (acc++bytesL z++[10]))) w:=fun w=>zJ w _ ⟨#[10]⟩ _ (by rw[aey];show _+1≤_;omega) rfl;clear hcell;go_wp2_with fail;go_round;case rel=>exact⟨k+1,_,rfl,by go_num,by omega,aen (by rw[hst.out,aY.out])⟩
   case measure=>simp[intOf];omega
  ·have HF:Hid (acc=R):=aen (by rw[aY.out,HX.out,show k=zs.length by omega]);go_wp2_with fail;go_ret;exact⟨dX (by rw[HF.out]),rfl⟩
theorem Gl(zs:List ByteArray)(i:Nat)(m:ag)(h:i<zs.length):i+1≤gy zs i m∧gy zs i m≤zs.length:=by
 have h1:=Rh (fun j=>!aF (ln zs j)) (i+1) (jr (pq zs m) zs.length (i+1) - (i+1));have h2:=mZ (pq zs m) zs.length (i+1) (by omega);unfold gy;omega
theorem yG(zs:List ByteArray)(i:Nat)(m:ag)(h:i<zs.length):i+1≤(aQ zs i m).2∧(aQ zs i m).2≤zs.length:=by
 have:=Gl zs i m h;unfold aQ;by_cases hn:uh zs i m=true
 ·rw[if_pos hn];exact⟨aeo _,h⟩
 ·rw[if_neg hn];exact this
theorem Dk(zs:List ByteArray)(i:Nat)(h:i≤zs.length):i≤dS zs i∧dS zs i≤zs.length:=by
 have:=mZ (fun j=>!aF (ln zs j)) zs.length i h;exact⟨this.1,this.2.1⟩
theorem Ru(rec:List ByteArray→Option (List BkT))(zs:List ByteArray):∀(f g i:Nat) (m:ag),i<zs.length→zs.length - i≤f→zs.length - i≤g→uj rec zs f i m=uj rec zs g i m
 |0,_,i,m,h,hf,_=>absurd h (by omega)
 |_+1,0,i,m,h,_,hg=>absurd h (by omega)
 |f+1,g+1,i,m,h,hf,hg=>by
  unfold uj;have hb:=yG zs i m h;have hn:=Dk zs (aQ zs i m).2 hb.2;cases hr:rec (aQ zs i m).1 with
  |none=>rfl
  |some kids=>
   simp only[];by_cases hc:dS zs (aQ zs i m).2<zs.length∧iL m (ai (ln zs (dS zs (aQ zs i m).2)))=true
   ·rw[if_pos hc,if_pos hc,Ru rec zs f g _ _ hc.1 (by omega) (by omega)]
   ·rw[if_neg hc,if_neg hc]
def jH(rec:List ByteArray→Option (List BkT))(zs:List ByteArray)(i:Nat)(m:ag):Option (List BkT × Nat):=uj rec zs (zs.length - i) i m
theorem Rw(rec:List ByteArray→Option (List BkT))(zs:List ByteArray)(i:Nat)(m:ag)(h:i<zs.length):jH rec zs i m=
 match rec (aQ zs i m).1 with
 |none=>none
 |some kids=>
  if dS zs (aQ zs i m).2<zs.length∧iL m (ai (ln zs (dS zs (aQ zs i m).2)))=true then
   (jH rec zs (dS zs (aQ zs i m).2) (ai (ln zs (dS zs (aQ zs i m).2)))).map fun r=>(fe 9 kids :: r.1,r.2)
  else some ([fe 9 kids],(aQ zs i m).2):=by
 have hb:=yG zs i m h;have hn:=Dk zs (aQ zs i m).2 hb.2;unfold jH;obtain⟨f,hf⟩:∃f,zs.length - i=f+1:=⟨zs.length - i - 1,by omega⟩;rw[hf];conv=>lhs;unfold uj
 cases hr:rec (aQ zs i m).1 with
 |none=>rfl
 |some kids=>
  simp only[];by_cases hc:dS zs (aQ zs i m).2<zs.length∧iL m (ai (ln zs (dS zs (aQ zs i m).2)))=true
  ·rw[if_pos hc,if_pos hc,Ru rec zs f (zs.length - dS zs (aQ zs i m).2) _ _ hc.1 (by omega) (by omega)]
  ·rw[if_neg hc,if_neg hc]
theorem Rx(rec:List ByteArray→Option (List BkT))(zs:List ByteArray):∀(f i:Nat) (m:ag) (r:List BkT × Nat),i<zs.length→uj rec zs f i m=some r→i<r.2∧r.2≤zs.length
 |0,i,m,r,h,e=>by cases e
 |f+1,i,m,r,h,e=>by
  have hb:=yG zs i m h;have hn:=Dk zs (aQ zs i m).2 hb.2;unfold uj at e;cases hr:rec (aQ zs i m).1 with
  |none=>rw[hr] at e;cases e
  |some kids=>
   rw[hr] at e;simp only[] at e;by_cases hc:dS zs (aQ zs i m).2<zs.length∧iL m (ai (ln zs (dS zs (aQ zs i m).2)))=true
   ·rw[if_pos hc] at e;cases hi:uj rec zs f (dS zs (aQ zs i m).2) (ai (ln zs (dS zs (aQ zs i m).2))) with
    |none=>rw[hi] at e;cases e
    |some q=>
     rw[hi] at e;injection e with e
     subst e;have:=Rx rec zs f _ _ q hc.1 hi;exact⟨by show i<q.2;omega,this.2⟩
   ·rw[if_neg hc] at e;injection e with e
    subst e;exact⟨by show i<(aQ zs i m).2;omega,hb.2⟩
theorem Am{α β:Type}{o:Option α}{f:α→β}{b:β}(h:o.map f=some b):∃a,o=some a∧b=f a:=by
 cases o with
 |none=>cases h
 |some a=>injection h with h;exact⟨a,rfl,h.symm⟩
theorem KH(zs:List ByteArray)(m:ag)(i:Nat)(h:i<zs.length):i<min (bD zs m (i+1)+1) zs.length∧min (bD zs m (i+1)+1) zs.length≤zs.length:=by
 have:=mZ (qB zs m) zs.length (i+1) (by omega);unfold bD;omega
theorem Ry(jv ng:List ByteArray→Option (List BkT))(d2 d3:Bool)(zs:List ByteArray)(i:Nat)(h:i<zs.length)(r:BkT × Nat)(e:iM jv ng d2 d3 zs i (ai (ln zs i))=some r):i<r.2∧r.2≤zs.length:=by
 have hk:kindOf zs i=(ai (ln zs i)).kind:=rfl;generalize ai (ln zs i)=m at *;unfold iM at e;by_cases h2:m.kind=2
 ·rw[if_pos h2] at e;injection e with e;subst e;exact⟨Nat.lt_succ_self _,h⟩
 rw[if_neg h2] at e;by_cases h3:m.kind=3
 ·rw[if_pos h3] at e;injection e with e;subst e;exact⟨Nat.lt_succ_self _,h⟩
 rw[if_neg h3] at e;by_cases h11:m.kind=11
 ·rw[if_pos h11] at e;injection e with e;subst e;exact⟨Nat.lt_succ_self _,h⟩
 rw[if_neg h11] at e;by_cases h4:m.kind=4
 ·rw[if_pos h4] at e;obtain⟨k,_,rfl⟩:=Am e;obtain⟨s1,s2,s3,s4⟩:=mZ (fun j=>!decide (kindOf zs j=4)) zs.length i (by omega);refine⟨?_,s2⟩;show i<jr (fun j=>!decide (kindOf zs j=4)) zs.length i;rcases Nat.lt_or_ge i (jr (fun j=>!decide (kindOf zs j=4)) zs.length i) with hl | hl
  ·exact hl
  ·have ei:jr (fun j=>!decide (kindOf zs j=4)) zs.length i=i:=by omega
   have:=s4 (by omega);rw[ei,hk,h4] at this;cases this
 rw[if_neg h4] at e;by_cases h7:m.kind=7
 ·rw[if_pos h7] at e;injection e with e;subst e;exact KH zs m i h
 rw[if_neg h7] at e;by_cases h8:m.kind=8
 ·rw[if_pos h8] at e;injection e with e;subst e;exact KH zs m i h
 rw[if_neg h8] at e;by_cases h9:m.kind=9
 ·rw[if_pos h9] at e;obtain⟨k,_,rfl⟩:=Am e;exact KH zs m i h
 rw[if_neg h9] at e;by_cases h10:m.kind=10
 ·rw[if_pos h10] at e;obtain⟨k,_,rfl⟩:=Am e;have:=yG zs i m h;exact⟨by show i<(aQ zs i m).2;omega,this.2⟩
 rw[if_neg h10] at e;by_cases rD:m.kind=5∨m.kind=6
 ·rw[if_pos rD] at e;by_cases hd:d2=true
  ·rw[if_pos hd] at e;obtain⟨q,hq,rfl⟩:=Am e;exact Rx ng zs _ i m q h hq
  ·rw[if_neg hd] at e;cases e
 rw[if_neg rD] at e;by_cases ht:gZ zs i=true
 ·rw[if_pos ht] at e;by_cases hd:d3=true
  ·rw[if_pos hd] at e;injection e with e
   subst e;have hi:i+1<zs.length:=by
    unfold gZ at ht;rw[Bool.and_eq_true,decide_eq_true_eq] at ht;exact ht.1
   have:=mZ (fun j=>!decide (kindOf zs j=0)) zs.length (i+2) (by omega);exact⟨by show i<jr _ _ _;omega,this.2.1⟩
  ·rw[if_neg hd] at e;cases e
 ·rw[if_neg ht] at e;injection e with e
  subst e;have:=mZ (fun j=>!decide (kindOf zs j=0)||gZ zs j) zs.length (i+1) (by omega);exact⟨by show i<jr _ _ _;omega,this.2.1⟩
theorem KJ(at_:Nat→ag→Option (BkT × Nat))(zs:List ByteArray)(hat:∀i r,i<zs.length→at_ i (ai (ln zs i))=some r→i<r.2):∀(f g i:Nat),zs.length - i≤f→zs.length - i≤g→pz at_ zs f i=pz at_ zs g i
 |0,0,i,_,_=>rfl
 |0,g+1,i,hf,_=>by
  unfold pz;rw[if_pos (by omega)]
 |f+1,0,i,_,hg=>by
  conv=>lhs;unfold pz
  rw[if_pos (by omega)];rfl
 |f+1,g+1,i,hf,hg=>by
  unfold pz;by_cases h:zs.length≤i
  ·rw[if_pos h,if_pos h]
  ·rw[if_neg h,if_neg h];by_cases hb:aF (ln zs i)=true
   ·rw[if_pos hb,if_pos hb,KJ at_ zs hat f g (i+1) (by omega) (by omega)]
   ·rw[if_neg hb,if_neg hb];cases hm:at_ i (ai (ln zs i)) with
    |none=>rfl
    |some r=>
     obtain⟨b,tq⟩:=r;have:=hat i _ (by omega) hm;simp only[] at this ⊢;rw[KJ at_ zs hat f g tq (by omega) (by omega)]
def iO(at_:Nat→ag→Option (BkT × Nat))(zs:List ByteArray)(i:Nat):Option (List BkT × List (Nat × Nat)):=pz at_ zs (zs.length - i) i
theorem Gm(at_:Nat→ag→Option (BkT × Nat))(zs:List ByteArray)(i:Nat)(h:zs.length≤i):iO at_ zs i=some ([],[]):=by
 unfold iO;rw[show zs.length - i=0 by omega];rfl
theorem KL(at_:Nat→ag→Option (BkT × Nat))(zs:List ByteArray)(i:Nat)(h:i<zs.length)(hb:aF (ln zs i)=true):iO at_ zs i=iO at_ zs (i+1):=by
 unfold iO;obtain⟨f,hf⟩:∃f,zs.length - i=f+1:=⟨zs.length - i - 1,by omega⟩;rw[hf];conv=>lhs;unfold pz
 rw[if_neg (by omega),if_pos hb,show zs.length - (i+1)=f by omega]
theorem Rz(at_:Nat→ag→Option (BkT × Nat))(zs:List ByteArray)(hat:∀i r,i<zs.length→at_ i (ai (ln zs i))=some r→i<r.2)(i:Nat)(h:i<zs.length)(hb:aF (ln zs i)=false):iO at_ zs i=
 match at_ i (ai (ln zs i)) with
 |none=>none
 |some (b,tq)=>(iO at_ zs tq).map fun r=>(b :: r.1,(i,tq) :: r.2):=by
 unfold iO;obtain⟨f,hf⟩:∃f,zs.length - i=f+1:=⟨zs.length - i - 1,by omega⟩;rw[hf];conv=>lhs;unfold pz
 rw[if_neg (by omega),if_neg (by rw[hb];exact Bool.false_ne_true)];cases hm:at_ i (ai (ln zs i)) with
 |none=>rfl
 |some r=>
  obtain⟨b,tq⟩:=r;have:=hat i _ h hm;simp only[] at this ⊢;rw[KJ at_ zs hat f (zs.length - tq) tq (by omega) (by omega)]
def fJ:Nat→List ByteArray→Nat→ag→Option (BkT × Nat)
 |0,_=>fun _ _=>none
 |1,zs=>iM (fun l=>(bg 0 l).map (·.1)) (fun _=>none) false false zs
 |n+2,zs=>iM (fun l=>(bg (n+1) l).map (·.1)) (fun l=>(bg n l).map (·.1)) true (decide (1≤n)) zs
theorem KN(n:Nat)(zs:List ByteArray):bg n zs=iO (fJ n zs) zs 0:=by
 match n with
 |0=>rfl
 |1=>rfl
 |n+2=>rfl
theorem KQ(zs:List ByteArray):fJ 1 zs=iM (fun l=>(bg 0 l).map (·.1)) (fun _=>none) false false zs:=rfl
theorem KT(n:Nat)(zs:List ByteArray):fJ (n+2) zs=iM (fun l=>(bg (n+1) l).map (·.1)) (fun l=>(bg n l).map (·.1)) true (decide (1≤n)) zs:=rfl
theorem Dl(n:Nat)(zs:List ByteArray)(i:Nat)(r:BkT × Nat)(h:i<zs.length)(e:fJ n zs i (ai (ln zs i))=some r):i<r.2∧r.2≤zs.length:=by
 match n with
 |0=>cases e
 |1=>rw[KQ] at e;exact Ry _ _ _ _ zs i h r e
 |n+2=>rw[KT] at e;exact Ry _ _ _ _ zs i h r e
theorem rE{W:World}{g:Nat}{x y z u:Value}{P:Ending→World→Prop}{act:Act}(hr:ae W g 43 #[x,y,z])(h4:act.tmps.getD 4 undef=.pointer (some ⟨g,0,none⟩))
 (h5:act.tmps.getD 5 undef=u) (hd:act.defers=[]) (hP:P (.returned (.tuple #[.agg #[x,y,z],u])) W):bodyPost prog Tryz.f117 P Exit.ret act W:=by
 have c0:W.cell? ⟨g,0,none⟩=some x:=hr.cell 0;have c1:W.cell? ⟨g,1,none⟩=some y:=hr.cell 1;have c2:W.cell? ⟨g,2,none⟩=some z:=hr.cell 2;refine bodyPost_ret (v:=.tuple #[.agg #[x,y,z],u]) ?_ hd hP;rw[aew] at h4 h5;simp[results,Tryz.results117,go_sem,h4,h5,c0,c1,c2]
theorem iF{r:AttrL × Bool}{b:Bool}{w w':World}(hr:r=(ak,b))(hb:Below w.heap.size w w'):ug r w (.returned (.tuple #[.agg #[.string ⟨#[]⟩,.slice none 0 0,.slice none 0 0],.bool b])) w':=by
 subst hr;exact⟨⟨_,_,rfl,wP _ _ hb.size⟩,hb⟩
theorem KU{r:AttrL × Bool}{a:AttrL}{b:Bool}{vC vP:Value}{w w':World}(hr:r=(a,b))(ho:aZ w' w.heap.size a vC vP)(hb:Below w.heap.size w w'):ug r w (.returned (.tuple #[.agg #[.string a.id,vC,vP],.bool b])) w':=by
 subst hr;exact⟨⟨_,_,rfl,ho⟩,hb⟩
structure CW(w:World)(MK:Array Value)(W:World):Prop where
 aP:ae W w.heap.size 74 MK
 at_:ae W (w.heap.size+1) 43 #[.string ⟨#[]⟩,.slice none 0 0,.slice none 0 0]
 bel:Below w.heap.size w W
def Ap(w:World)(MK:Array Value):World:=(w.alloc (.cells MK 74)).alloc (.cells #[.string ⟨#[]⟩,.slice none 0 0,.slice none 0 0] 43)
theorem Gn(w:World)(MK:Array Value):CW w MK (Ap w MK):=by
 refine⟨(ae.new w _ _).alloc _,?_,((aer _ w).alloc (aeo _) _).alloc (by simp) _⟩;have:=ae.new (w.alloc (.cells MK 74)) 43 #[.string ⟨#[]⟩,.slice none 0 0,.slice none 0 0];unfold Ap;simpa using this
theorem CW.next{w W W':World}{MK:Array Value}(h:CW w MK W)(hb:Below W.heap.size W W'):CW w MK W':=
 ⟨h.aP.below hb h.aP.lt,h.at_.below hb h.at_.lt,h.bel.trans (hb.mono h.bel.size)⟩
theorem CW.facts{w W:World}{MK:Array Value}(h:CW w MK W):W.cell? ⟨w.heap.size,1,none⟩=MK[1]?∧W.cell? ⟨w.heap.size,2,none⟩=MK[2]?∧
 W.cell? ⟨w.heap.size+1,0,none⟩=some (.string ⟨#[]⟩)∧W.cell? ⟨w.heap.size+1,1,none⟩=some (.slice none 0 0)∧W.cell? ⟨w.heap.size+1,2,none⟩=some (.slice none 0 0)∧
 W.frozen? ⟨w.heap.size+1,0,none⟩=false∧W.frozen? ⟨w.heap.size+1,1,none⟩=false∧W.frozen? ⟨w.heap.size+1,2,none⟩=false∧w.heap.size+1<W.heap.size:=
 ⟨h.aP.cell 1,h.aP.cell 2,h.at_.cell 0,h.at_.cell 1,h.at_.cell 2,h.at_.frozen 0,h.at_.frozen 1,h.at_.frozen 2,h.at_.lt⟩
theorem CW.done{w W:World}{MK:Array Value}(h:CW w MK W)(x y z:Value):ae (((W.setCell ⟨w.heap.size+1,0,none⟩ x).setCell ⟨w.heap.size+1,1,none⟩ y).setCell ⟨w.heap.size+1,2,none⟩ z) (w.heap.size+1) 43 #[x,y,z]∧
 Below w.heap.size w (((W.setCell ⟨w.heap.size+1,0,none⟩ x).setCell ⟨w.heap.size+1,1,none⟩ y).setCell ⟨w.heap.size+1,2,none⟩ z):=
 ⟨fZ h.at_ rfl x y z,below3 h.bel (Nat.le_succ _) x y z⟩
theorem aat(s:ByteArray)(K N o:Int)(ch s4 s5 s6 s7 s8:ByteArray)(A9:Option Addr)(n9 c9:Nat)(af:Option Addr)(n10 c10:Nat)(w:World)(hs:s.size≤1000000) :
 Calls prog 117 #[.string s,.agg #[.int .i64 K,.int .i64 N,.string ch,.int .i64 o,.string s4,.string s5,.string s6,.string s7,.string s8,.slice A9 n9 c9,.slice af n10 c10]] w (ug (fP s K N ch) w):=by
 have HI:=aen fun W=>zT s W hs;have hil:ah s 0≤s.size:=kC s;have hcz:(s.extract (ah s 0) s.size).size=s.size - ah s 0:=by rw[aex];omega
 have HR:Hid (fP s K N ch=if 3<ah s 0 then (ak,false) else closeD (s.extract (ah s 0) s.size) K N ch):=aen rfl;have HS:=aen (Gn w #[.int .i64 K,.int .i64 N,.string ch,.int .i64 o,.string s4,.string s5,.string s6,.string s7,.string s8,.slice A9 n9 c9,.slice af n10 c10]);generalize fP s K N ch=R at *;generalize ah s 0=ind at *;have Qx:(ind:Int)≤(s.size:Int):=by omega
 by_cases hi:3<ind
 ·have HF:Hid (R=(ak,false)):=aen (by rw[HR.out,if_pos hi]);have d1:decide (3<(ind:Int))=true:=aeq (by omega);have d2:decide (3<ind)=true:=aeq hi;clear HR;go_enter Tryz.func117,Tryz.ntmps117;go_wp2_with fail;with_reducible refine(HI.out _).mono ?_
  rintro e w' ⟨rfl,rfl⟩;go_wp2_with fail;exact rE HS.out.at_ rfl rfl rfl (iF HF.out HS.out.bel)
 have d1:decide (3<(ind:Int))=false:=aep (by omega);have d2:decide (3<ind)=false:=aep hi;have HR2:Hid (R=closeD (s.extract ind s.size) K N ch):=aen (by rw[HR.out,if_neg hi]);clear HR;generalize hcc:s.extract ind s.size=c at *;have hcs:c.size≤1000000:=by omega
 clear hcz;by_cases h7:K=7
 ·subst h7;by_cases hg1:ch.size=1;case neg=>
   have HF:Hid (R=(ak,false)):=aen (by rw[HR2.out];unfold closeD;rw[if_pos rfl,aep (fun h=>hg1 h.1)];rfl);have e1:((ch.size:Int) != 1)=true:=by rw[aeB];omega
   have e2:(ch.size != 1)=true:=by rw[aeB];omega
   clear HR2;go_enter Tryz.func117,Tryz.ntmps117;go_wp2_with fail;with_reducible refine(HI.out _).mono ?_
   rintro e w' ⟨rfl,rfl⟩;go_wp2_with fail;exact rE HS.out.at_ rfl rfl rfl (iF HF.out HS.out.bel)
  have e1:((ch.size:Int) != 1)=false:=by rw[bne_eq_false_iff_eq];omega
  have e2:(ch.size != 1)=false:=by rw[bne_eq_false_iff_eq];omega
  by_cases hg2:N<1
  ·have HF:Hid (R=(ak,false)):=aen (by rw[HR2.out];unfold closeD;rw[if_pos rfl,aep (fun h=>by omega)];rfl);have e3:decide (N<1)=true:=aeq hg2;clear HR2;go_enter Tryz.func117,Tryz.ntmps117;go_wp2_with fail;with_reducible refine(HI.out _).mono ?_
   rintro e w' ⟨rfl,rfl⟩;go_wp2_with fail;exact rE HS.out.at_ rfl rfl rfl (iF HF.out HS.out.bel)
  have e3:decide (N<1)=false:=aep hg2;have h01:0<ch.size:=by omega
  have hgb:=get_bt ch 0 h01;have hb256:=aK ch 0;have dG:Hid (R=(ak,decide (N≤(aI c (· != bt ch 0):Int))&&aF (c.extract (aI c (· != bt ch 0)) c.size))):=aen (by rw[HR2.out];unfold closeD;rw[if_pos rfl,aeq ⟨hg1,by omega⟩];rfl);clear HR2;have HRn:=aen fun W=>BV c (bt ch 0) hb256 W hcs;have hnl:=qf c (· != bt ch 0);generalize aI c (· != bt ch 0)=n at *;generalize bt ch 0=q at *;have hxz:(c.extract n c.size).size≤1000000:=by rw[aex];omega
  have dm:=aen fun W=>wS (c.extract n c.size) W hxz;generalize aF (c.extract n c.size)=bb at *;by_cases hn:N≤(n:Int)
  ·have e4:decide (N≤(n:Int))=true:=aeq hn;have HF:Hid (R=(ak,bb)):=aen (by rw[dG.out,e4];rfl);clear dG;go_enter Tryz.func117,Tryz.ntmps117;go_wp2_with fail;with_reducible refine(HI.out _).mono ?_
   rintro e w' ⟨rfl,rfl⟩;go_wp2_with fail;with_reducible refine(HRn.out _).mono ?_
   rintro e w1 ⟨rfl,b1⟩;have hC:=HS.out.next b1
   obtain⟨k1,k2,a0,a1,a2,f0,f1,f2,hlt⟩:=hC.facts;have HC:=aen hC;simp at k1 k2;clear b1 hC;go_wp2_with fail;with_reducible refine(dm.out _).mono ?_
   rintro e w2 ⟨rfl,rfl⟩;go_wp2_with fail;have hD:=HC.out.done (.string ⟨#[]⟩) (.slice none 0 0) (.slice none 0 0);exact rE hD.1 rfl rfl rfl (iF HF.out hD.2)
  ·have e4:decide (N≤(n:Int))=false:=aep hn;have HF:Hid (R=(ak,false)):=aen (by rw[dG.out,e4];rfl);clear dG;go_enter Tryz.func117,Tryz.ntmps117;go_wp2_with fail;with_reducible refine(HI.out _).mono ?_
   rintro e w' ⟨rfl,rfl⟩;go_wp2_with fail;with_reducible refine(HRn.out _).mono ?_
   rintro e w1 ⟨rfl,b1⟩;have hC:=HS.out.next b1
   obtain⟨k1,k2,a0,a1,a2,f0,f1,f2,hlt⟩:=hC.facts;have HC:=aen hC;simp at k1 k2;clear b1 hC;go_wp2_with fail;have hD:=HC.out.done (.string ⟨#[]⟩) (.slice none 0 0) (.slice none 0 0);exact rE hD.1 rfl rfl rfl (iF HF.out hD.2)
 have z7:(K==7)=false:=by rw[aes];exact h7
 by_cases h8:K=8
 ·subst h8;have HP:Hid (∀W,Calls prog 108 #[.string c,.string ⟨#[36,36]⟩] W fun e w'=>e=.returned (.bool (Lib.hasPrefix (bytesL c) [36,36]))∧W=w'):=aen fun W=>(Tryz.strings_HasPrefix c ⟨#[36,36]⟩ W).mono fun e w' ⟨h,h'⟩=>⟨h,h'.symm⟩;have HR3:Hid (R=if Lib.hasPrefix (bytesL c) [36,36]=true then oh (jq (c.extract 2 c.size)) else (ak,false)):=aen (by rw[HR2.out];unfold closeD;rw[if_neg (by decide),if_pos rfl]);have hpl:Lib.hasPrefix (bytesL c) [36,36]=true→2≤c.size:=fun h=>wW h;clear HR2;generalize Lib.hasPrefix (bytesL c) [36,36]=p at *;cases p with
  |false=>
   have HF:Hid (R=(ak,false)):=aen (by rw[HR3.out];rfl);clear HR3;go_enter Tryz.func117,Tryz.ntmps117;go_wp2_with fail;with_reducible refine(HI.out _).mono ?_
   rintro e w' ⟨rfl,rfl⟩;go_wp2_with fail;with_reducible refine(HP.out _).mono ?_
   rintro e w' ⟨rfl,rfl⟩;go_wp2_with fail;exact rE HS.out.at_ rfl rfl rfl (iF HF.out HS.out.bel)
  |true=>
   have h2:=hpl rfl;have hxz:(c.extract 2 c.size).size≤1000000:=by rw[aex];omega
   have HO:=aen fun W=>Ql (c.extract 2 c.size) W hxz;have dG:Hid (R=oh (jq (c.extract 2 c.size))):=aen (by rw[HR3.out];rfl);clear HR3 hpl;generalize jq (c.extract 2 c.size)=O at *;go_enter Tryz.func117,Tryz.ntmps117;go_wp2_with fail;with_reducible refine(HI.out _).mono ?_
   rintro e w' ⟨rfl,rfl⟩;go_wp2_with fail;with_reducible refine(HP.out _).mono ?_
   rintro e w' ⟨rfl,rfl⟩;go_wp2_with fail;with_reducible refine(HO.out _).mono ?_
   rintro e w1 ⟨⟨a,vC,vP,b,rfl,ho,hO,hb0⟩,b1⟩;have HF:Hid (R=(a,b)):=aen (by
    rw[dG.out,hO];cases b with
    |true=>rfl
    |false=>rw[hb0 rfl];rfl)
   obtain⟨AC,cC,rfl⟩:=ay ho.cls;obtain⟨AP,cP,rfl⟩:=ay ho.aH;have hC:=HS.out.next b1
   have ho':aZ w1 (w.heap.size+2) a (.slice AC a.cl.length cC) (.slice AP a.pr.length cP):=by
    have e:(Ap w #[.int .i64 8,.int .i64 N,.string ch,.int .i64 o,.string s4,.string s5,.string s6,.string s7,.string s8,.slice A9 n9 c9,.slice af n10 c10]).heap.size=w.heap.size+2:=by unfold Ap;simp
    rw[←e];exact ho
   have KW:=aen ho';obtain⟨k1,k2,a0,a1,a2,f0,f1,f2,hlt⟩:=hC.facts;have HC:=aen hC;clear b1 hC ho ho' hO hb0 dG;go_wp2_with fail;have hD:=HC.out.done (.string a.id) (.slice AC a.cl.length cC) (.slice AP a.pr.length cP);exact rE hD.1 rfl rfl rfl (KU HF.out (dN (dR KW.out (tX _ _ _ _ _) (by omega)) (by omega)) hD.2)
 have z8:(K==8)=false:=by rw[aes];exact h8
 by_cases h9:K=9
 ·subst h9;have dG:Hid (R=(ak,decide (1≤N)&&(decide ((aI c (· != 58):Int)=N)&&aF (c.extract (aI c (· != 58)) c.size)))):=aen (by rw[HR2.out];unfold closeD;rw[if_neg (by decide),if_neg (by decide),if_pos rfl]);clear HR2;have HRn:Hid (∀W,Calls prog 102 #[.string c,.int .u8 58] W fun e w'=>e=.returned (.int .i64 (aI c (· != 58)))∧Below W.heap.size W w'):=aen fun W=>BV c 58 (by omega) W hcs;have hnl:=qf c (· != 58);generalize aI c (· != 58)=n at *;have hxz:(c.extract n c.size).size≤1000000:=by rw[aex];omega
  have dm:=aen fun W=>wS (c.extract n c.size) W hxz;generalize aF (c.extract n c.size)=bb at *;have kX:(decide (1≤N)=false∧Hid (R=(ak,false)))∨(decide (1≤N)=true∧((n:Int)==N)=false∧Hid (R=(ak,false)))∨(decide (1≤N)=true∧((n:Int)==N)=true∧Hid (R=(ak,bb))):=by
   by_cases g1:1≤N
   ·by_cases g2:(n:Int)=N
    ·right;right;exact⟨aeq g1,by rw[beq_iff_eq];exact g2,aen (by rw[dG.out,aeq g1,aeq g2];rfl)⟩
    ·right;left;exact⟨aeq g1,by rw[aes];exact g2,aen (by rw[dG.out,aeq g1,aep g2];rfl)⟩
   ·left;exact⟨aep g1,aen (by rw[dG.out,aep g1];rfl)⟩
  clear dG;rcases kX with ⟨g1,HF⟩|⟨g1,g2,HF⟩|⟨g1,g2,HF⟩
  ·go_enter Tryz.func117,Tryz.ntmps117;go_wp2_with fail;with_reducible refine(HI.out _).mono ?_
   rintro e w' ⟨rfl,rfl⟩;go_wp2_with fail;with_reducible refine(HRn.out _).mono ?_
   rintro e w1 ⟨rfl,b1⟩;have hC:=HS.out.next b1
   obtain⟨k1,k2,a0,a1,a2,f0,f1,f2,hlt⟩:=hC.facts;have HC:=aen hC;simp at k1 k2;clear b1 hC;go_wp2_with fail;have hD:=HC.out.done (.string ⟨#[]⟩) (.slice none 0 0) (.slice none 0 0);exact rE hD.1 rfl rfl rfl (iF HF.out hD.2)
  ·go_enter Tryz.func117,Tryz.ntmps117;go_wp2_with fail;with_reducible refine(HI.out _).mono ?_
   rintro e w' ⟨rfl,rfl⟩;go_wp2_with fail;with_reducible refine(HRn.out _).mono ?_
   rintro e w1 ⟨rfl,b1⟩;have hC:=HS.out.next b1
   obtain⟨k1,k2,a0,a1,a2,f0,f1,f2,hlt⟩:=hC.facts;have HC:=aen hC;simp at k1 k2;clear b1 hC;go_wp2_with fail;have hD:=HC.out.done (.string ⟨#[]⟩) (.slice none 0 0) (.slice none 0 0);exact rE hD.1 rfl rfl rfl (iF HF.out hD.2)
  ·go_enter Tryz.func117,Tryz.ntmps117;go_wp2_with fail;with_reducible refine(HI.out _).mono ?_
   rintro e w' ⟨rfl,rfl⟩;go_wp2_with fail;with_reducible refine(HRn.out _).mono ?_
   rintro e w1 ⟨rfl,b1⟩;have hC:=HS.out.next b1
   obtain⟨k1,k2,a0,a1,a2,f0,f1,f2,hlt⟩:=hC.facts;have HC:=aen hC;simp at k1 k2;clear b1 hC;go_wp2_with fail;with_reducible refine(dm.out _).mono ?_
   rintro e w2 ⟨rfl,rfl⟩;go_wp2_with fail;have hD:=HC.out.done (.string ⟨#[]⟩) (.slice none 0 0) (.slice none 0 0);exact rE hD.1 rfl rfl rfl (iF HF.out hD.2)
 have z9:(K==9)=false:=by rw[aes];exact h9
 have HF:Hid (R=(ak,false)):=aen (by rw[HR2.out];unfold closeD;rw[if_neg h7,if_neg h8,if_neg h9]);clear HR2;go_enter Tryz.func117,Tryz.ntmps117;go_wp2_with fail;with_reducible refine(HI.out _).mono ?_
 rintro e w' ⟨rfl,rfl⟩;go_wp2_with fail;exact rE HS.out.at_ rfl rfl rfl (iF HF.out HS.out.bel)
end Go.Proofs.YtpoafhgbhnblmaaGreatDoor
