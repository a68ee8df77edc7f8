import Derived.Test.YtpoafhgbhnblmaaGreatDoorF12
set_option linter.unusedVariables false
set_option linter.unusedSimpArgs false
set_option maxRecDepth 100000
set_option maxHeartbeats 20000000
namespace Go.Proofs.YtpoafhgbhnblmaaGreatDoor
open Go.Proofs.Tryz (prog)
open Go.RowKit
theorem ae.drew{w:World}{g:Nat}{t:TypeId}{cs:Array Value}(h:ae w g t cs):ae w.drew g t cs:=h
theorem nX{W:World}{g D:Nat}{t:TypeId}{cs:Array Value}{o:Obj}(h:ae W g t cs)(hK:W.heap[D]?=some (.deferred (some []))):ae (W.putObj D o) g t cs:=
 ae.grown h (grownBy_putObj' W D o) (fun e=>by cases e;unfold ae at h;rw[h] at hK;cases hK)
section
open Go.Shelf
attribute [local go_sem] Oper.semAt_some
def lT(c:ByteArray)(j:Nat):Bool:=bt c j==bt c 0||bt c j==32
def qm(c:ByteArray):Bool:=(List.range c.size).all (lT c)
def kY(c:ByteArray)(k:Nat):Nat:=((List.range k).filter fun j=>bt c j==bt c 0).length
def kJ(c:ByteArray):Option ag:=
 if (bt c 0=45∨bt c 0=42∨bt c 0=95)∧qm c=true then (if decide (3≤kY c c.size)=true then some {kind:=3,ch:=c.extract 0 1} else none) else none
def cntF(c:ByteArray){n:Nat}(l:List (Fin n)):Nat:=(l.filter fun j=>bt c j.1==bt c 0).length
theorem Ym(c:ByteArray){n:Nat}(l:List (Fin n)):cntF c l≤l.length:=List.length_filter_le _ _
theorem Yn(c:ByteArray)(l:List (Fin c.size))(h:l.map Fin.val=List.range c.size):cntF c l=kY c c.size:=by
 unfold kY cntF;rw[←h,List.filter_map,List.length_map];rfl
theorem Yo(c:ByteArray){n:Nat}(l:List (Fin n))(x:Fin n):cntF c (l++[x])=cntF c l+if bt c x.1=bt c 0 then 1 else 0:=by
 unfold cntF;rw[List.filter_append,aey];by_cases h:bt c x.1=bt c 0
 ·rw[if_pos h,List.filter_cons_of_pos (by rw[beq_iff_eq];exact h)];rfl
 ·rw[if_neg h,List.filter_cons_of_neg (by rw[beq_iff_eq];exact h)];rfl
structure JK(c:ByteArray)(w W:World):Prop where
 zm:ZM W w.heap.size
 b1:Boxed W (w.heap.size+1) 4 (.bool false)
 b2:Boxed W (w.heap.size+1+1) 5 (.int .u8 (bt c 0))
 sz:W.heap.size=w.heap.size+3
 bel:Below w.heap.size w W
theorem FH(c:ByteArray)(w:World):JK c w (((zw w).alloc (.cells #[.bool false] 4)).alloc (.cells #[.int .u8 (bt c 0)] 5)):=by
 refine⟨ae.alloc (ae.alloc (Cj w) _) _,?_,?_,by simp[qj],((qi w).alloc (qi w).size _).alloc (by simp;have:=(qi w).size;omega) _⟩
 ·have:=(Boxed.new (zw w) 4 (.bool false)).alloc (.cells #[.int .u8 (bt c 0)] 5);rw[qj] at this;exact this
 ·have:=Boxed.new ((zw w).alloc (.cells #[.bool false] 4)) 5 (.int .u8 (bt c 0));rw[World.size_alloc,qj] at this;exact this
theorem Yp(c:ByteArray)(ind:Nat)(w:World)(hs:c.size≤1000000)(h0:0<c.size):Calls prog 60 #[.string c,.int .i64 ind] w (oQ (kJ c) w):=by
 have HP:=aen fun W=>BQ c W;have hg:=get_bt c 0 h0;have HR:Hid (kJ c=if (bt c 0=45∨bt c 0=42∨bt c 0=95)∧qm c=true then (if decide (3≤kY c c.size)=true then some {kind:=3,ch:=c.extract 0 1} else none) else none):=aen rfl;generalize kJ c=R at *;by_cases hq:bt c 0=45∨bt c 0=42∨bt c 0=95;case neg=>
  have z1:(((bt c 0:Nat):Int) != 45)=true:=by rw[aeB];omega
  have z2:(((bt c 0:Nat):Int) != 42)=true:=by rw[aeB];omega
  have z3:(((bt c 0:Nat):Int) != 95)=true:=by rw[aeB];omega
  have HF:Hid (R=none):=aen (by rw[HR.out,if_neg (fun h=>hq h.1)]);clear HR hq;go_enter Tryz.func60,Tryz.ntmps60;go_wp2_with fail;exact XG (q:=⟨w.heap.size+1,0,none⟩) (FH c w).zm rfl rfl (FH c w).b1.cell rfl (eG HF.out ⟨_,_,_,_,_,_,_,_,_,_,_,_,_,_,_,rfl⟩ (FH c w).bel)
 have HR2:Hid (R=if qm c=true then (if decide (3≤kY c c.size)=true then some {kind:=3,ch:=c.extract 0 1} else none) else none):=aen (by
  rw[HR.out];by_cases h:qm c=true
  ·rw[if_pos h,if_pos ⟨hq,h⟩]
  ·rw[if_neg h,if_neg (fun e=>h e.2)])
 have HQ:=aen hq;clear HR hq;refine(callsIn_wide (n:=5)).1 ?_;refine callsIn_of_wp_marks Tryz.func60 rfl trivial ?_ rfl;simp only[Tryz.ntmps60,List.size_toArray,aeC,List.length_nil,Nat.reduceAdd,Nat.reduceSub,Array.replicate_succ,Array.replicate_zero,List.push_toArray,List.append_toArray,List.nil_append,List.cons_append];refine wpIn_wide.2 ?_;go_upto_region 2 with fail
 go_cut [21] from 12 to 21 (fun Yq wx=>Yq=.bool false∧JK c w wx);case first=>
  have hW:JK c w (((zw w).alloc (.cells #[.bool false] 4)).alloc (.cells #[.int .u8 (bt c 0)] 5)):=FH c w;rcases HQ.out with h|h|h
  ·have z1:(((bt c 0:Nat):Int) != 45)=false:=by rw[h];rfl
   clear h;go_wp2_with fail;go_meet;exact⟨rfl,hW⟩
  ·have z1:(((bt c 0:Nat):Int) != 45)=true:=by rw[h];rfl
   have z2:(((bt c 0:Nat):Int) != 42)=false:=by rw[h];rfl
   clear h;go_wp2_with fail;go_meet;exact⟨rfl,hW⟩
  ·have z1:(((bt c 0:Nat):Int) != 45)=true:=by rw[h];rfl
   have z2:(((bt c 0:Nat):Int) != 42)=true:=by rw[h];rfl
   have z3:(((bt c 0:Nat):Int) != 95)=false:=by rw[h];rfl
   clear h;go_wp2_with fail;go_meet;exact⟨rfl,hW⟩
 case rest=>
 obtain⟨rfl,HW⟩:=hcut;have hsz:=HW.sz;go_wp2_with fail;with_reducible refine(HP.out _).mono ?_
 rintro e w' ⟨rfl,rfl⟩;go_wp2_with fail;refine(wpIn_wide (n:=5)).1 ?_;have hZ:ZM ((wc.alloc (.cells #[.int .i64 0] 3)).alloc (.cells #[.string c] 9)) w.heap.size:=ae.alloc (ae.alloc HW.zm _) _;have hF:Boxed ((wc.alloc (.cells #[.int .i64 0] 3)).alloc (.cells #[.string c] 9)) (w.heap.size+1) 4 (.bool false):=(HW.b1.alloc _).alloc _;have hC:Boxed ((wc.alloc (.cells #[.int .i64 0] 3)).alloc (.cells #[.string c] 9)) (w.heap.size+1+1) 5 (.int .u8 (bt c 0)):=(HW.b2.alloc _).alloc _;have hN:Boxed ((wc.alloc (.cells #[.int .i64 0] 3)).alloc (.cells #[.string c] 9)) (w.heap.size+3) 3 (.int .i64 0):=by
  have:=(Boxed.new wc 3 (.int .i64 0)).alloc (.cells #[.string c] 9);rw[hsz] at this;exact this
 have hS:Boxed ((wc.alloc (.cells #[.int .i64 0] 3)).alloc (.cells #[.string c] 9)) (w.heap.size+3+1) 9 (.string c):=by
  have:=Boxed.new (wc.alloc (.cells #[.int .i64 0] 3)) 9 (.string c);rw[World.size_alloc,hsz] at this;exact this
 have hB0:Below w.heap.size w ((wc.alloc (.cells #[.int .i64 0] 3)).alloc (.cells #[.string c] 9)):=(HW.bel.alloc HW.bel.size _).alloc (by simp;have:=HW.bel.size;omega) _;have JL:((wc.alloc (.cells #[.int .i64 0] 3)).alloc (.cells #[.string c] 9)).heap.size=w.heap.size+5:=by simp[hsz]
 generalize ((wc.alloc (.cells #[.int .i64 0] 3)).alloc (.cells #[.string c] 9))=W0 at *;clear HW hsz HQ hg;have hmx:prog.follows .mixedOrders=true:=by kernel_rfl
 refine wpIn_rangeFunc_ownG rfl (by omega) (gf:=163) (lb:=#[.pointer (some ⟨w.heap.size+3+1,0,none⟩)]) rfl trivial (enters_of Tryz.func163 (by kernel_rfl) rfl)
  (BU 4 (by omega) (w.heap.size+3+1) c hs _ hS) (Kp:=uU (w.heap.size+3+1)) (fun h1 h2=>h2.trans h1) (fun W l o o' hl ho hc _=>World.putObj_heap_other (fun e=>by omega)) (aer _ _) (fun _=>rfl)
  (fun (pre:List (Fin c.size)) W=>(Boxed W (w.heap.size+1+1) 5 (.int .u8 (bt c 0))∧Boxed W (w.heap.size+3+1) 9 (.string c))∧(ZM W w.heap.size∧Boxed W (w.heap.size+1) 4 (.bool false))∧(∀j∈pre,lT c j.1=true)∧Boxed W (w.heap.size+3) 3 (.int .i64 (cntF c pre:Nat))∧Below w.heap.size w W)
  (fun q (pre:List (Fin c.size)) W=>(q=Code.ret∧∃pr x,pre=pr++[x]∧lT c x.1=false)∧(ZM W w.heap.size∧Boxed W (w.heap.size+1) 4 (.bool false))∧Below w.heap.size w W)
  (OwnFrom.and (OwnFrom.and (Own.from (boxed_own _ _ (fun _=>.int .u8 (bt c 0))) _) (Own.from (boxed_own _ _ (fun _=>.string c)) _)) (OwnFrom.and (OwnFrom.and (Own.from (Ac _ _ (fun _=>#[.int .i64 0,.int .i64 0,.string ⟨#[]⟩,.int .i64 0,.string ⟨#[]⟩,.string ⟨#[]⟩,.string ⟨#[]⟩,.string ⟨#[]⟩,.string ⟨#[]⟩,.slice none 0 0,.slice none 0 0])) _) (Own.from (boxed_own _ _ (fun _=>.bool false)) _)) (OwnFrom.and (ownFrom_pure _ _) (OwnFrom.and (Own.from (boxed_own _ _ (fun (pre:List (Fin c.size))=>.int .i64 (cntF c pre:Nat))) _) (ownFrom_below (aeo _) (by omega))))))
  (fun q=>OwnFrom.and (ownFrom_pure _ _) (OwnFrom.and (OwnFrom.and (Own.from (Ac _ _ (fun _=>#[.int .i64 0,.int .i64 0,.string ⟨#[]⟩,.int .i64 0,.string ⟨#[]⟩,.string ⟨#[]⟩,.string ⟨#[]⟩,.string ⟨#[]⟩,.string ⟨#[]⟩,.slice none 0 0,.slice none 0 0])) _) (Own.from (boxed_own _ _ (fun _=>.bool false)) _)) (ownFrom_below (aeo _) (by omega))))
  ⟨⟨hC,hS⟩,⟨hZ,hF⟩,fun j h=>absurd h (by simp),hN,hB0⟩
  (fun (x:Fin c.size)=>{tmps:=#[.string c,.int .i64 ind,undef,undef,.pointer (some ⟨w.heap.size,0,none⟩),.pointer (some ⟨w.heap.size+1,0,none⟩),.pointer (some ⟨w.heap.size+1+1,0,none⟩),.pointer (some ⟨w.heap.size+3,0,none⟩),undef,.int .u8 (bt c x.1),.string c,.int .u8 (bt c 0),u12,u13,u14,u15,u16,u17,u18,u19,u20,.bool false,undef,.string c,.func (.func 163) #[] #[.pointer (some ⟨w.heap.size+3+1,0,none⟩)],.int .i64 (x.1:Nat),.int .u8 (bt c x.1),undef,undef,undef,undef,undef,undef,undef,undef,undef,undef,undef,undef,undef,undef],defers:=[]}) ?assign ?body ?done ?stop
 case assign=>
  intro l x W K hK;gi_wp2_with fail;exact hK
 case body=>
  rintro l pre x W ⟨⟨hC,hS⟩,⟨hZ,hF⟩,hg,hN,hB⟩ hlt;have HG:=aen hg;clear hg;have c1:=hC.cell;have n1:=hN.cell;have n2:=hN.frozen;have hcl:=Ym c pre;have hsn:=Yo c pre x;have NX:lT c x.1=true→∀j∈pre++[x],lT c j.1=true:=fun h j hj=>by
   rcases List.mem_append.1 hj with hj|hj
   ·exact HG.out j hj
   ·rw[List.mem_singleton] at hj;rw[hj];exact h
  by_cases hx:bt c x.1=bt c 0
  ·have d1:(((bt c x.1:Nat):Int)==((bt c 0:Nat):Int))=true:=by rw[beq_iff_eq];omega
   have d2:(bt c x.1==bt c 0)=true:=by rw[beq_iff_eq];exact hx
   have HN':=aen (NX (by unfold lT;rw[d2];rfl));rw[if_pos hx] at hsn;have JM:=aen hsn;clear NX hx hsn;generalize cntF c pre=n at *;gi_wp2_with fail;exact⟨(aet _ ⟨w.heap.size+3,0,none⟩ _).from _,ae.far hS (by simp) _ |>.trans hS.symm,⟨ae.far hC (by simp) _,ae.far hS (by simp) _⟩,⟨ae.far hZ (by simp) _,ae.far hF (by simp) _⟩,HN'.out,by rw[JM.out];exact hN.set _,hB.setCell (p:=⟨w.heap.size+3,0,none⟩) (by show w.heap.size≤w.heap.size+3;omega) _⟩
  ·have d1:(((bt c x.1:Nat):Int)==((bt c 0:Nat):Int))=false:=by rw[aes];omega
   have d2:(bt c x.1==bt c 0)=false:=by rw[aes];exact hx
   rw[if_neg hx,Nat.add_zero] at hsn;have JM:=aen hsn;clear hsn hx;by_cases hsp:bt c x.1=32
   ·have d3:(((bt c x.1:Nat):Int)==32)=true:=by rw[hsp];rfl
    have HN':=aen (NX (by unfold lT;rw[hsp];simp));clear NX hsp;gi_wp2_with fail;exact⟨(aeu _).from _,rfl,⟨hC,hS⟩,⟨hZ,hF⟩,HN'.out,by rw[JM.out];exact hN,hB⟩
   ·have d3:(((bt c x.1:Nat):Int)==32)=false:=by rw[aes];omega
    have HX:Hid (lT c x.1=false):=aen (by unfold lT;rw[d2,Bool.false_or,aes];exact hsp);clear NX hsp;have f1:=hF.cell;have f2:=hF.frozen;obtain⟨k0,k1,k2,k3,k4,k5,k6,k7,k8,k9,k10,y0,y1,y2,y3,y4,y5,y6,y7,y8,y9,aj⟩:=ZM.facts hZ;have hzz:Hid (ZM (((((((((((W.setCell ⟨w.heap.size,0,none⟩ (.int .i64 0)).setCell ⟨w.heap.size,1,none⟩ (.int .i64 0)).setCell ⟨w.heap.size,2,none⟩ (.string ⟨#[]⟩)).setCell ⟨w.heap.size,3,none⟩ (.int .i64 0)).setCell ⟨w.heap.size,4,none⟩ (.string ⟨#[]⟩)).setCell ⟨w.heap.size,5,none⟩ (.string ⟨#[]⟩)).setCell ⟨w.heap.size,6,none⟩ (.string ⟨#[]⟩)).setCell ⟨w.heap.size,7,none⟩ (.string ⟨#[]⟩)).setCell ⟨w.heap.size,8,none⟩ (.string ⟨#[]⟩)).setCell ⟨w.heap.size,9,none⟩ (.slice none 0 0)).setCell ⟨w.heap.size,10,none⟩ (.slice none 0 0)) w.heap.size):=aen (ax hZ _ _ _ _ _ _ _ _ _ _ _);have JO:Boxed (((((((((((W.setCell ⟨w.heap.size,0,none⟩ (.int .i64 0)).setCell ⟨w.heap.size,1,none⟩ (.int .i64 0)).setCell ⟨w.heap.size,2,none⟩ (.string ⟨#[]⟩)).setCell ⟨w.heap.size,3,none⟩ (.int .i64 0)).setCell ⟨w.heap.size,4,none⟩ (.string ⟨#[]⟩)).setCell ⟨w.heap.size,5,none⟩ (.string ⟨#[]⟩)).setCell ⟨w.heap.size,6,none⟩ (.string ⟨#[]⟩)).setCell ⟨w.heap.size,7,none⟩ (.string ⟨#[]⟩)).setCell ⟨w.heap.size,8,none⟩ (.string ⟨#[]⟩)).setCell ⟨w.heap.size,9,none⟩ (.slice none 0 0)).setCell ⟨w.heap.size,10,none⟩ (.slice none 0 0)) (w.heap.size+1) 4 (.bool false):=hF.kept (aV W w.heap.size _ _ _ _ _ _ _ _ _ _ _) (by simp);have f1':=JO.cell;have f2':=JO.frozen;have hkk:KeepsOthers W (((((((((((W.setCell ⟨w.heap.size,0,none⟩ (.int .i64 0)).setCell ⟨w.heap.size,1,none⟩ (.int .i64 0)).setCell ⟨w.heap.size,2,none⟩ (.string ⟨#[]⟩)).setCell ⟨w.heap.size,3,none⟩ (.int .i64 0)).setCell ⟨w.heap.size,4,none⟩ (.string ⟨#[]⟩)).setCell ⟨w.heap.size,5,none⟩ (.string ⟨#[]⟩)).setCell ⟨w.heap.size,6,none⟩ (.string ⟨#[]⟩)).setCell ⟨w.heap.size,7,none⟩ (.string ⟨#[]⟩)).setCell ⟨w.heap.size,8,none⟩ (.string ⟨#[]⟩)).setCell ⟨w.heap.size,9,none⟩ (.slice none 0 0)).setCell ⟨w.heap.size,10,none⟩ (.slice none 0 0)):=(((((((((((aeu W).trans (aet _ ⟨w.heap.size,0,none⟩ (.int .i64 0))).trans (aet _ ⟨w.heap.size,1,none⟩ (.int .i64 0))).trans (aet _ ⟨w.heap.size,2,none⟩ (.string ⟨#[]⟩))).trans (aet _ ⟨w.heap.size,3,none⟩ (.int .i64 0))).trans (aet _ ⟨w.heap.size,4,none⟩ (.string ⟨#[]⟩))).trans (aet _ ⟨w.heap.size,5,none⟩ (.string ⟨#[]⟩))).trans (aet _ ⟨w.heap.size,6,none⟩ (.string ⟨#[]⟩))).trans (aet _ ⟨w.heap.size,7,none⟩ (.string ⟨#[]⟩))).trans (aet _ ⟨w.heap.size,8,none⟩ (.string ⟨#[]⟩))).trans (aet _ ⟨w.heap.size,9,none⟩ (.slice none 0 0))).trans (aet _ ⟨w.heap.size,10,none⟩ (.slice none 0 0));gi_wp2_with fail;exact⟨(hkk.trans (aet _ ⟨w.heap.size+1,0,none⟩ _)).from _,⟨rfl,pre,x,rfl,HX.out⟩,⟨ae.far hzz.out (by simp) _,JO.set _⟩,(au hB (aeo _) _ _ _ _ _ _ _ _ _ _ _).setCell (p:=⟨w.heap.size+1,0,none⟩) (by show w.heap.size≤w.heap.size+1;omega) _⟩
 case done=>
  rintro D ys W hD hys ⟨⟨hC,hS⟩,⟨hZ,hF⟩,hg,hN,hB⟩ hK;have hall:qm c=true:=by
   unfold qm;rw[List.all_eq_true];intro j hj;rw[←hys] at hj;obtain⟨y,hy,rfl⟩:=List.mem_map.1 hj;exact hg y hy
  rw[Yn c ys hys] at hN;have hcl:kY c c.size≤c.size:=by
   unfold kY;have:=List.length_filter_le (fun j=>bt c j==bt c 0) (List.range c.size)
   rwa [List.length_range] at this
  have HE:Hid (R=if decide (3≤kY c c.size)=true then some {kind:=3,ch:=c.extract 0 1} else none):=aen (by rw[HR2.out,if_pos hall]);clear hall hg hys HR2;generalize kY c c.size=n at *;have hdn:decide (3≤(n:Int))=decide (3≤n):=by rw[decide_eq_decide];omega
  generalize decide (3≤n)=q at *;have h1i:(1:Int)≤(c.size:Int):=by omega
  have n1:=hN.cell;have f1:=hF.cell;have f2:=hF.frozen;obtain⟨k0,k1,k2,k3,k4,k5,k6,k7,k8,k9,k10,y0,y1,y2,y3,y4,y5,y6,y7,y8,y9,aj⟩:=ZM.facts hZ;go_wp2_with fail;go_region_held3 (fun w'=>w'.cell? ⟨w.heap.size+3,0,none⟩=some (.int .i64 (n:Nat))) (go_keep) (fail);have hz1:=ax hZ (.int .i64 3) (.int .i64 0) (.string (c.extract 0 1)) (.int .i64 0) (.string ⟨#[]⟩) (.string ⟨#[]⟩) (.string ⟨#[]⟩) (.string ⟨#[]⟩) (.string ⟨#[]⟩) (.slice none 0 0) (.slice none 0 0);have hz3:=ae.drew (ae.far hz1 (p:=⟨w.heap.size+1,0,none⟩) (by simp) (.bool q));have hf1:=ae.drew ((hF.kept (aV W w.heap.size (.int .i64 3) (.int .i64 0) (.string (c.extract 0 1)) (.int .i64 0) (.string ⟨#[]⟩) (.string ⟨#[]⟩) (.string ⟨#[]⟩) (.string ⟨#[]⟩) (.string ⟨#[]⟩) (.slice none 0 0) (.slice none 0 0)) (by simp)).set (.bool q));have hK3:=((((((((((((((aeu W).trans (aet _ ⟨w.heap.size,0,none⟩ (.int .i64 3))).trans (aet _ ⟨w.heap.size,1,none⟩ (.int .i64 0))).trans (aet _ ⟨w.heap.size,2,none⟩ (.string (c.extract 0 1)))).trans (aet _ ⟨w.heap.size,3,none⟩ (.int .i64 0))).trans (aet _ ⟨w.heap.size,4,none⟩ (.string ⟨#[]⟩))).trans (aet _ ⟨w.heap.size,5,none⟩ (.string ⟨#[]⟩))).trans (aet _ ⟨w.heap.size,6,none⟩ (.string ⟨#[]⟩))).trans (aet _ ⟨w.heap.size,7,none⟩ (.string ⟨#[]⟩))).trans (aet _ ⟨w.heap.size,8,none⟩ (.string ⟨#[]⟩))).trans (aet _ ⟨w.heap.size,9,none⟩ (.slice none 0 0))).trans (aet _ ⟨w.heap.size,10,none⟩ (.slice none 0 0))).trans (aet _ ⟨w.heap.size+1,0,none⟩ (.bool q))).trans (KeepsOthers.drew _)).same D _ hK rfl;have hb3:=Below.drew ((au hB (aeo _) (.int .i64 3) (.int .i64 0) (.string (c.extract 0 1)) (.int .i64 0) (.string ⟨#[]⟩) (.string ⟨#[]⟩) (.string ⟨#[]⟩) (.string ⟨#[]⟩) (.string ⟨#[]⟩) (.slice none 0 0) (.slice none 0 0)).setCell (p:=⟨w.heap.size+1,0,none⟩) (by show w.heap.size≤w.heap.size+1;omega) (.bool q));clear n1 f1 f2 k0 k1 k2 k3 k4 k5 k6 k7 k8 k9 k10 y0 y1 y2 y3 y4 y5 y6 y7 y8 y9 aj hZ hF hN hK hdn;go_wp2_with fail;generalize ((((((((((((W.setCell ⟨w.heap.size,0,none⟩ (.int .i64 3)).setCell ⟨w.heap.size,1,none⟩ (.int .i64 0)).setCell ⟨w.heap.size,2,none⟩ (.string (c.extract 0 1))).setCell ⟨w.heap.size,3,none⟩ (.int .i64 0)).setCell ⟨w.heap.size,4,none⟩ (.string ⟨#[]⟩)).setCell ⟨w.heap.size,5,none⟩ (.string ⟨#[]⟩)).setCell ⟨w.heap.size,6,none⟩ (.string ⟨#[]⟩)).setCell ⟨w.heap.size,7,none⟩ (.string ⟨#[]⟩)).setCell ⟨w.heap.size,8,none⟩ (.string ⟨#[]⟩)).setCell ⟨w.heap.size,9,none⟩ (.slice none 0 0)).setCell ⟨w.heap.size,10,none⟩ (.slice none 0 0)).setCell ⟨w.heap.size+1,0,none⟩ (.bool q)).drew=W9 at *;refine⟨by simp,.inl ⟨_,_,rfl,run_takeDeferred hK3,?_⟩⟩;have fO:=nX (o:=.deferred none) hz3 hK3;have hfk:=nX (o:=.deferred none) hf1 hK3;have b0:=hfk.cell 0;obtain⟨k0,k1,k2,k3,k4,k5,k6,k7,k8,k9,k10,y0,y1,y2,y3,y4,y5,y6,y7,y8,y9,aj⟩:=az fO;have hbb:=hb3.trans (belowK_b (w:=w) (aeo _) _ D _ (.deferred none) (by omega) hK3 rfl rfl);refine⟨.tuple #[.agg #[.int .i64 3,.int .i64 0,.string (c.extract 0 1),.int .i64 0,.string ⟨#[]⟩,.string ⟨#[]⟩,.string ⟨#[]⟩,.string ⟨#[]⟩,.string ⟨#[]⟩,.slice none 0 0,.slice none 0 0],.bool q],by simp[results,Tryz.results60,go_sem,b0,k0,k1,k2,k3,k4,k5,k6,k7,k8,k9,k10],wQ HE.out (fE (m:={kind:=3,ch:=c.extract 0 1}) rfl hbb.size) hbb⟩
 case stop=>
  rintro D q pre W hD hpre ⟨⟨rfl,pr,x,rfl,hx⟩,⟨hZ,hF⟩,hB⟩ hK;have HE:Hid (R=none):=aen (by
   rw[HR2.out,if_neg];intro h;have:=List.all_eq_true.1 h x.1 (List.mem_range.2 x.2);rw[hx] at this;cases this)
  clear hx hpre HR2;gi_wp2_with fail;refine⟨by simp,.inl ⟨_,_,rfl,run_takeDeferred hK,?_⟩⟩;have fO:=nX (o:=.deferred none) hZ hK;have hfk:=nX (o:=.deferred none) (t:=4) (cs:=#[.bool false]) hF hK;have b0:=hfk.cell 0;obtain⟨k0,k1,k2,k3,k4,k5,k6,k7,k8,k9,k10,y0,y1,y2,y3,y4,y5,y6,y7,y8,y9,aj⟩:=ZM.facts fO;refine⟨.tuple #[.agg #[.int .i64 0,.int .i64 0,.string ⟨#[]⟩,.int .i64 0,.string ⟨#[]⟩,.string ⟨#[]⟩,.string ⟨#[]⟩,.string ⟨#[]⟩,.string ⟨#[]⟩,.slice none 0 0,.slice none 0 0],.bool false],by simp[results,Tryz.results60,go_sem,b0,k0,k1,k2,k3,k4,k5,k6,k7,k8,k9,k10],eG HE.out ⟨_,_,_,_,_,_,_,_,_,_,_,_,_,_,_,rfl⟩ ?_⟩;exact hB.trans (belowK_b (w:=w) (aeo _) _ D _ _ (by omega) hK rfl rfl)
theorem Yr(W:World)(g:Nat)(y0 y1 y2 y3 y4 y5 y6 y7 y8 y9 aj:Value):KeepsOthers W (((((((((((W.setCell ⟨g,0,none⟩ y0).setCell ⟨g,1,none⟩ y1).setCell ⟨g,2,none⟩ y2).setCell ⟨g,3,none⟩ y3).setCell ⟨g,4,none⟩ y4).setCell ⟨g,5,none⟩ y5).setCell ⟨g,6,none⟩ y6).setCell ⟨g,7,none⟩ y7).setCell ⟨g,8,none⟩ y8).setCell ⟨g,9,none⟩ y9).setCell ⟨g,10,none⟩ aj):=
 (((((((((((aeu W).trans (aet _ ⟨g,0,none⟩ y0)).trans (aet _ ⟨g,1,none⟩ y1)).trans (aet _ ⟨g,2,none⟩ y2)).trans (aet _ ⟨g,3,none⟩ y3)).trans (aet _ ⟨g,4,none⟩ y4)).trans (aet _ ⟨g,5,none⟩ y5)).trans (aet _ ⟨g,6,none⟩ y6)).trans (aet _ ⟨g,7,none⟩ y7)).trans (aet _ ⟨g,8,none⟩ y8)).trans (aet _ ⟨g,9,none⟩ y9)).trans (aet _ ⟨g,10,none⟩ aj)
theorem wT{w W:World}(h:ZM W w.heap.size)(hB:Below w.heap.size w W):∃W9,W9=(((((((((((W.setCell ⟨w.heap.size,0,none⟩ (.int .i64 0)).setCell ⟨w.heap.size,1,none⟩ (.int .i64 0)).setCell ⟨w.heap.size,2,none⟩ (.string ⟨#[]⟩)).setCell ⟨w.heap.size,3,none⟩ (.int .i64 0)).setCell ⟨w.heap.size,4,none⟩ (.string ⟨#[]⟩)).setCell ⟨w.heap.size,5,none⟩ (.string ⟨#[]⟩)).setCell ⟨w.heap.size,6,none⟩ (.string ⟨#[]⟩)).setCell ⟨w.heap.size,7,none⟩ (.string ⟨#[]⟩)).setCell ⟨w.heap.size,8,none⟩ (.string ⟨#[]⟩)).setCell ⟨w.heap.size,9,none⟩ (.slice none 0 0)).setCell ⟨w.heap.size,10,none⟩ (.slice none 0 0))∧ae W9 w.heap.size 74 #[.int .i64 0,.int .i64 0,.string ⟨#[]⟩,.int .i64 0,.string ⟨#[]⟩,.string ⟨#[]⟩,.string ⟨#[]⟩,.string ⟨#[]⟩,.string ⟨#[]⟩,.slice none 0 0,.slice none 0 0]∧KeepsOthers W W9∧Below w.heap.size w W9:=
 ⟨_,rfl,ax h (.int .i64 0) (.int .i64 0) (.string ⟨#[]⟩) (.int .i64 0) (.string ⟨#[]⟩) (.string ⟨#[]⟩) (.string ⟨#[]⟩) (.string ⟨#[]⟩) (.string ⟨#[]⟩) (.slice none 0 0) (.slice none 0 0),Yr _ _ _ _ _ _ _ _ _ _ _ _ _,au hB (aeo _) (.int .i64 0) (.int .i64 0) (.string ⟨#[]⟩) (.int .i64 0) (.string ⟨#[]⟩) (.string ⟨#[]⟩) (.string ⟨#[]⟩) (.string ⟨#[]⟩) (.string ⟨#[]⟩) (.slice none 0 0) (.slice none 0 0)⟩
attribute [local go_sem] Oper.semAt_some
def cu(n:Nat):Bool:=decide (48≤n)&&decide (n≤57)
def qo(c:ByteArray):Nat:=aI c (fun b=>!cu b)
def jP(c:ByteArray)(k:Nat):Nat:=(List.range k).foldl (fun a j=>10 * a+(bt c j - 48)) 0
def nY(c:ByteArray)(ind k v:Nat):Option ag:=
 if (1≤k∧k≤9∧k<c.size)∧(bt c k=46∨bt c k=41) then (if fF (c.extract (k+1) c.size)=true then some {kind:=6,n:=v,ch:=c.extract k (k+1),off:=ind+k+2,info:=c.extract 0 k,rest:=aA (c.extract (k+1) c.size)} else none) else none
def jQ(c:ByteArray)(ind:Nat):Option ag:=nY c ind (qo c) (jP c (qo c))
def kZ(c:ByteArray){n:Nat}(l:List (Fin n)):Nat:=l.foldl (fun a j=>10 * a+(bt c j.1 - 48)) 0
theorem Qd(c:ByteArray){n:Nat}(l:List (Fin n))(x:Fin n):kZ c (l++[x])=10 * kZ c l+(bt c x.1 - 48):=by
 unfold kZ;rw[List.foldl_append];rfl
theorem Yt(c:ByteArray){n:Nat}(l:List (Fin n)):kZ c l=(l.map Fin.val).foldl (fun a j=>10 * a+(bt c j - 48)) 0:=by
 unfold kZ;rw[List.foldl_map]
theorem Qe(c:ByteArray){n:Nat}(l:List (Fin n))(k:Nat)(h:l.map Fin.val=List.range k):kZ c l=jP c k:=by
 rw[Yt,h];rfl
theorem tV(n:Nat):cu n=true↔48≤n∧n≤57:=by
 unfold cu;rw[Bool.and_eq_true,decide_eq_true_iff,decide_eq_true_iff]
theorem FI(c:ByteArray){n:Nat}:∀(k:Nat) (l:List (Fin n)),l.length=k→(∀j∈l,cu (bt c j.1)=true)→kZ c l<10 ^ k
 |0,l,h,_=>by
  have:=List.eq_nil_of_length_eq_zero h;subst this;show 0<10 ^ 0;decide
 |k+1,l,h,hd=>by
  rcases List.eq_nil_or_concat l with rfl|⟨l',x,rfl⟩
  ·simp at h
  ·rw[List.concat_eq_append] at h hd ⊢;have ih:=FI c k l' (by simpa using h) (fun j hj=>hd j (by simp[hj]));have hx:=(tV _).1 (hd x (by simp));rw[Qd,Nat.pow_succ];omega
theorem Yu(s:ByteArray)(p:Nat→Bool)(k:Nat)(h:k≤s.size)(h1:∀j,j<k→p (bt s j)=false):k≤aI s p:=by
 rcases Nat.lt_or_ge (aI s p) k with hlt|hge
 ·have hl:aI s p<(bytesL s).length:=by rw[bytesL_length];omega
  have:=List.findIdx_getElem (w:=hl);have hat:=BP s (aI s p) (by omega);rw[List.getElem?_eq_getElem hl] at hat;injection hat with hat
  have e:(bytesL s)[List.findIdx (fun b=>p b.toNat) (bytesL s)]=s.get! (aI s p):=hat;rw[e] at this;have h2:=h1 _ hlt;unfold bt at h2;rw[this] at h2;cases h2
 ·exact hge
theorem Qg(c:ByteArray)(ind k v:Nat)(h:9<k):nY c ind k v=none:=by
 unfold nY;rw[if_neg (by omega)]
theorem CB{k v:Nat}(h:v<10 ^ k)(hk:k≤10):v<10000000000:=aeA h (Nat.pow_le_pow_right (by decide) hk)
theorem Yv(c:ByteArray)(ind:Nat)(w:World)(hs:c.size≤1000000)(h0:0<c.size)(hi:ind≤3):Calls prog 63 #[.string c,.int .i64 ind] w (oQ (jQ c ind) w):=by
 have HP:=aen fun W=>BQ c W;have HR:Hid (jQ c ind=nY c ind (qo c) (jP c (qo c))):=aen rfl;have HND:Hid (qo c=aI c (fun b=>!cu b)):=aen rfl;generalize jQ c ind=R at *;refine(callsIn_wide (n:=5)).1 ?_;refine callsIn_of_wp_marks Tryz.func63 rfl trivial ?_ rfl;simp only[Tryz.ntmps63,List.size_toArray,aeC,List.length_nil,Nat.reduceAdd,Nat.reduceSub,Array.replicate_succ,Array.replicate_zero,List.push_toArray,List.append_toArray,List.nil_append,List.cons_append];refine wpIn_wide.2 ?_;go_wp2_with fail;with_reducible refine(HP.out _).mono ?_
 rintro e w' ⟨rfl,rfl⟩;go_wp2_with fail;refine(wpIn_wide (n:=5)).1 ?_;have hZ:ZM ((((zw w).alloc (.cells #[.int .i64 0] 3)).alloc (.cells #[.int .i64 0] 3)).alloc (.cells #[.string c] 9)) w.heap.size:=ae.alloc (ae.alloc (ae.alloc (Cj w) _) _) _;have hN:Boxed ((((zw w).alloc (.cells #[.int .i64 0] 3)).alloc (.cells #[.int .i64 0] 3)).alloc (.cells #[.string c] 9)) (w.heap.size+1) 3 (.int .i64 0):=by
  have:=((Boxed.new (zw w) 3 (.int .i64 0)).alloc (.cells #[.int .i64 0] 3)).alloc (.cells #[.string c] 9);rw[qj] at this;exact this
 have hV:Boxed ((((zw w).alloc (.cells #[.int .i64 0] 3)).alloc (.cells #[.int .i64 0] 3)).alloc (.cells #[.string c] 9)) (w.heap.size+1+1) 3 (.int .i64 0):=by
  have:=(Boxed.new ((zw w).alloc (.cells #[.int .i64 0] 3)) 3 (.int .i64 0)).alloc (.cells #[.string c] 9);rw[World.size_alloc,qj] at this;exact this
 have hS:Boxed ((((zw w).alloc (.cells #[.int .i64 0] 3)).alloc (.cells #[.int .i64 0] 3)).alloc (.cells #[.string c] 9)) (w.heap.size+1+1+1) 9 (.string c):=by
  have:=Boxed.new (((zw w).alloc (.cells #[.int .i64 0] 3)).alloc (.cells #[.int .i64 0] 3)) 9 (.string c);rw[World.size_alloc,World.size_alloc,qj] at this;exact this
 have hB0:Below w.heap.size w ((((zw w).alloc (.cells #[.int .i64 0] 3)).alloc (.cells #[.int .i64 0] 3)).alloc (.cells #[.string c] 9)):=(((qi w).alloc (qi w).size _).alloc (by simp;have:=(qi w).size;omega) _).alloc (by simp;have:=(qi w).size;omega) _;have vz:((((zw w).alloc (.cells #[.int .i64 0] 3)).alloc (.cells #[.int .i64 0] 3)).alloc (.cells #[.string c] 9)).heap.size=w.heap.size+4:=by simp[qj]
 unfold zw at hZ hN hV hS hB0 vz;generalize (((w.alloc (.cells #[.int .i64 0,.int .i64 0,.string ⟨#[]⟩,.int .i64 0,.string ⟨#[]⟩,.string ⟨#[]⟩,.string ⟨#[]⟩,.string ⟨#[]⟩,.string ⟨#[]⟩,.slice none 0 0,.slice none 0 0] 74)).alloc (.cells #[.int .i64 0] 3)).alloc (.cells #[.int .i64 0] 3)).alloc (.cells #[.string c] 9)=W0 at *;refine wpIn_rangeFunc_ownG rfl (by omega) (gf:=163) (lb:=#[.pointer (some ⟨w.heap.size+1+1+1,0,none⟩)]) rfl trivial (enters_of Tryz.func163 (by kernel_rfl) rfl)
  (BU 4 (by omega) (w.heap.size+1+1+1) c hs _ hS) (Kp:=uU (w.heap.size+1+1+1)) (fun h1 h2=>h2.trans h1) (fun W l o o' hl ho hc _=>World.putObj_heap_other (fun e=>by omega)) (aer _ _) (fun _=>rfl)
  (fun (pre:List (Fin c.size)) W=>(ZM W w.heap.size∧Boxed W (w.heap.size+1+1+1) 9 (.string c))∧(Boxed W (w.heap.size+1) 3 (.int .i64 (pre.length:Nat))∧Boxed W (w.heap.size+1+1) 3 (.int .i64 (kZ c pre:Nat)))∧((∀j∈pre,cu (bt c j.1)=true)∧pre.length≤10)∧Below w.heap.size w W)
  (fun q (pre:List (Fin c.size)) W=>((q=Code.exit 0∧∃pr x,pre=pr++[x]∧(∀j∈pr,cu (bt c j.1)=true)∧pr.length≤10∧(cu (bt c x.1)=false∨pr.length=10))∧ZM W w.heap.size)∧(Boxed W (w.heap.size+1) 3 (.int .i64 (pre.dropLast.length:Nat))∧Boxed W (w.heap.size+1+1) 3 (.int .i64 (kZ c pre.dropLast:Nat)))∧Below w.heap.size w W)
  (OwnFrom.and (OwnFrom.and (Own.from (Ac _ _ (fun _=>#[.int .i64 0,.int .i64 0,.string ⟨#[]⟩,.int .i64 0,.string ⟨#[]⟩,.string ⟨#[]⟩,.string ⟨#[]⟩,.string ⟨#[]⟩,.string ⟨#[]⟩,.slice none 0 0,.slice none 0 0])) _) (Own.from (boxed_own _ _ (fun _=>.string c)) _)) (OwnFrom.and (OwnFrom.and (Own.from (boxed_own _ _ (fun (pre:List (Fin c.size))=>.int .i64 (pre.length:Nat))) _) (Own.from (boxed_own _ _ (fun (pre:List (Fin c.size))=>.int .i64 (kZ c pre:Nat))) _)) (OwnFrom.and (ownFrom_pure _ _) (ownFrom_below (aeo _) (by omega)))))
  (fun q=>OwnFrom.and (OwnFrom.and (ownFrom_pure _ _) (Own.from (Ac _ _ (fun _=>#[.int .i64 0,.int .i64 0,.string ⟨#[]⟩,.int .i64 0,.string ⟨#[]⟩,.string ⟨#[]⟩,.string ⟨#[]⟩,.string ⟨#[]⟩,.string ⟨#[]⟩,.slice none 0 0,.slice none 0 0])) _)) (OwnFrom.and (OwnFrom.and (Own.from (boxed_own _ _ (fun (pre:List (Fin c.size))=>.int .i64 (pre.dropLast.length:Nat))) _) (Own.from (boxed_own _ _ (fun (pre:List (Fin c.size))=>.int .i64 (kZ c pre.dropLast:Nat))) _)) (ownFrom_below (aeo _) (by omega))))
  ⟨⟨hZ,hS⟩,⟨hN,hV⟩,⟨fun j h=>absurd h (by simp),by simp⟩,hB0⟩
  (fun (x:Fin c.size)=>{tmps:=#[.string c,.int .i64 ind,undef,undef,.pointer (some ⟨w.heap.size,0,none⟩),.bool false,.pointer (some ⟨w.heap.size+1,0,none⟩),.pointer (some ⟨w.heap.size+1+1,0,none⟩),undef,.int .u8 (bt c x.1),undef,undef,.string c,.func (.func 163) #[] #[.pointer (some ⟨w.heap.size+1+1+1,0,none⟩)],.int .i64 (x.1:Nat),.int .u8 (bt c x.1),undef,undef,undef,undef,undef,undef,undef,undef,undef,undef,undef,undef,undef,undef,undef,undef,undef,undef,undef,undef,undef,undef,undef,undef,undef,undef,undef,undef,undef,undef,undef,undef,undef,undef,undef,undef,undef,undef,undef,undef,undef,undef,undef,undef,undef,undef,undef,undef,undef,undef,undef,undef,undef,undef,undef,undef,undef,undef,undef,undef,undef,undef,undef,undef,undef,undef,undef],defers:=[]}) ?assign ?body ?done ?stop
 case assign=>
  intro l x W K hK;gi_wp2_with fail;exact hK
 case body=>
  rintro l pre x W ⟨⟨hZ,hS⟩,⟨hN,hV⟩,⟨hg,wU⟩,hB⟩ hlt;have HG:=aen hg;have hb:=CB (FI c _ pre rfl hg) wU;clear hg;have n1:=hN.cell;have n2:=hN.frozen;have v1:=hV.cell;have v2:=hV.frozen;have hbx:=aK c x.1;have hcase:(((((bt c x.1:Nat):Int)<48∨(48≤((bt c x.1:Nat):Int)∧57<((bt c x.1:Nat):Int)))∨((48≤((bt c x.1:Nat):Int)∧((bt c x.1:Nat):Int)≤57)∧9<pre.length))∧Hid (cu (bt c x.1)=false∨pre.length=10))∨((48≤((bt c x.1:Nat):Int)∧((bt c x.1:Nat):Int)≤57)∧pre.length≤9∧Hid (cu (bt c x.1)=true)):=by
   by_cases h:cu (bt c x.1)=true
   ·have:=(tV _).1 h;by_cases h9:pre.length≤9
    ·exact Or.inr ⟨by omega,h9,aen h⟩
    ·exact Or.inl ⟨Or.inr ⟨by omega,by omega⟩,aen (Or.inr (by omega))⟩
   ·have h':cu (bt c x.1)=false:=by simpa using h
    have:¬(48≤bt c x.1∧bt c x.1≤57):=fun e=>h ((tV _).2 e);exact Or.inl ⟨by omega,aen (Or.inl h')⟩
  have hns:=Qd c pre x;have Qh:=aen hns;clear hns;have hln:(pre++[x]).length=pre.length+1:=by simp
  have Qi:=aen hln;clear hln;have Ad:Hid ((pre++[x]).dropLast=pre):=aen (by simp);have NX:cu (bt c x.1)=true→∀j∈pre++[x],cu (bt c j.1)=true:=fun h j hj=>by
   rcases List.mem_append.1 hj with hj|hj
   ·exact HG.out j hj
   ·rw[List.mem_singleton] at hj;rw[hj];exact h
  generalize hvn:kZ c pre=v at *;have qT:=aen hvn;clear hvn;rcases hcase with ⟨(h1|h1)|⟨h1,h2⟩,hh⟩|⟨⟨h1,h1'⟩,h2,hh⟩;case inl.inl.inl=>
   have d1:decide (((bt c x.1:Nat):Int)<48)=true:=aeq h1;clear h1 NX;gi_wp2_with fail;exact⟨(aeu _).from _,⟨⟨rfl,pre,x,rfl,HG.out,wU,hh.out⟩,hZ⟩,⟨by rw[Ad.out];exact hN,by rw[Ad.out,qT.out];exact hV⟩,hB⟩
  case inl.inl.inr=>
   have d1:decide (((bt c x.1:Nat):Int)<48)=false:=aep (by omega);have d2:decide (57<((bt c x.1:Nat):Int))=true:=aeq (by omega);clear h1 NX;gi_wp2_with fail;exact⟨(aeu _).from _,⟨⟨rfl,pre,x,rfl,HG.out,wU,hh.out⟩,hZ⟩,⟨by rw[Ad.out];exact hN,by rw[Ad.out,qT.out];exact hV⟩,hB⟩
  case inl.inr=>
   have d1:decide (((bt c x.1:Nat):Int)<48)=false:=aep (by omega);have d2:decide (57<((bt c x.1:Nat):Int))=false:=aep (by omega);have d3:decide (9<pre.length)=true:=aeq h2;have d4:decide (9<(pre.length:Int))=true:=aeq (by omega);clear h1 NX;gi_wp2_with fail;exact⟨(aeu _).from _,⟨⟨rfl,pre,x,rfl,HG.out,wU,hh.out⟩,hZ⟩,⟨by rw[Ad.out];exact hN,by rw[Ad.out,qT.out];exact hV⟩,hB⟩
  case inr=>
   have d1:decide (((bt c x.1:Nat):Int)<48)=false:=aep (by omega);have d2:decide (57<((bt c x.1:Nat):Int))=false:=aep (by omega);have d3:decide (9<pre.length)=false:=aep (by omega);have d4:decide (9<(pre.length:Int))=false:=aep (by omega);have HN':=aen (NX hh.out);obtain⟨d,hd⟩:∃d,bt c x.1=d+48:=⟨bt c x.1 - 48,by omega⟩;have hdv:Hid (kZ c (pre++[x])=10 * v+d):=aen (by rw[Qh.out,hd];omega);have hd9:d≤9:=by omega
   have hdi:((bt c x.1:Nat):Int) - 48=(d:Int):=by omega
   have hdw:IntKind.u8.wrap (d:Int)=(d:Int):=by
    have:=IntWalk.u8_in (d:Int) (by omega);exact this
   clear NX Qh hd;have hv2:Boxed (W.setCell ⟨w.heap.size+1,0,none⟩ (.int .i64 ((pre.length:Int)+1))) (w.heap.size+1+1) 3 (.int .i64 (v:Nat)):=ae.far hV (by simp) _;have v3:=hv2.cell;have v4:=hv2.frozen;gi_wp2_with fail;refine⟨((aet _ ⟨w.heap.size+1,0,none⟩ _).trans (aet _ ⟨w.heap.size+1+1,0,none⟩ _)).from _,(ae.far (ae.far hS (by simp <;> omega) _) (by simp <;> omega) _).trans hS.symm,⟨ae.far (ae.far hZ (by simp <;> omega) _) (by simp <;> omega) _,ae.far (ae.far hS (by simp <;> omega) _) (by simp <;> omega) _⟩,⟨?_,?_⟩,⟨HN'.out,by rw[Qi.out];omega⟩,(hB.setCell (p:=⟨w.heap.size+1,0,none⟩) (by show w.heap.size≤w.heap.size+1;omega) _).setCell (p:=⟨w.heap.size+1+1,0,none⟩) (by show w.heap.size≤w.heap.size+1+1;omega) _⟩
   ·rw[Qi.out];exact ae.far (hN.set _) (by simp <;> omega) _
   ·rw[hdv.out];exact hv2.set _
 case done=>
  rintro D ys W hD hys ⟨⟨hZ,hS⟩,⟨hN,hV⟩,⟨hg,wU⟩,hB⟩ hK;have hyl:ys.length=c.size:=by have:=congrArg List.length hys;rwa [List.length_map,List.length_range] at this
  have hnd:qo c=c.size:=xG c _ _ (aeo _) (fun j hj=>by
   have:j∈ys.map Fin.val:=by rw[hys];exact List.mem_range.2 hj
   obtain⟨y,hy,rfl⟩:=List.mem_map.1 this;rw[hg y hy];rfl) (fun h=>absurd h (by omega))
  have HE:Hid (R=nY c ind ys.length (kZ c ys)):=aen (by rw[HR.out,hnd,Qe c ys _ hys,hyl]);have hb:=CB (FI c _ ys rfl hg) wU;clear hys hg HR hnd;have hks:ys.length≤c.size:=by omega
  clear hyl;generalize kZ c ys=v at *;generalize ys.length=k at *;have n1:=hN.cell;have v1:=hV.cell;have CE:nY c ind k v=if (1≤k∧k≤9∧k<c.size)∧(bt c k=46∨bt c k=41) then (if fF (c.extract (k+1) c.size)=true then some {kind:=6,n:=v,ch:=c.extract k (k+1),off:=ind+k+2,info:=c.extract 0 k,rest:=aA (c.extract (k+1) c.size)} else none) else none:=rfl
  rw[CE] at HE;clear CE;by_cases q1:k<1
  ·have HF:Hid (R=none):=aen (by rw[HE.out,if_neg (by omega)]);have d1:decide ((k:Int)<1)=true:=aeq (by omega);have d2:decide (k<1)=true:=aeq q1;have d3:decide (k=0)=true:=aeq (by omega);clear HE;obtain⟨k0,k1,k2,k3,k4,k5,k6,k7,k8,k9,k10,y0,y1,y2,y3,y4,y5,y6,y7,y8,y9,aj⟩:=ZM.facts hZ;go_wp2_with fail;obtain⟨W9,iK,hz3,hk3,hb3⟩:=wT hZ hB;have hK3:=hk3.same D _ hK rfl;clear n1 v1 hZ hN hV hK k0 k1 k2 k3 k4 k5 k6 k7 k8 k9 k10 y0 y1 y2 y3 y4 y5 y6 y7 y8 y9 aj;rw[←iK];clear iK hk3;refine⟨by simp,.inl ⟨_,_,rfl,run_takeDeferred hK3,?_⟩⟩;have fO:=nX (o:=.deferred none) hz3 hK3;obtain⟨k0,k1,k2,k3,k4,k5,k6,k7,k8,k9,k10,y0,y1,y2,y3,y4,y5,y6,y7,y8,y9,aj⟩:=az fO;have hbb:=hb3.trans (belowK_b (w:=w) (aeo _) _ D _ (.deferred none) (by omega) hK3 rfl rfl);refine⟨.tuple #[.agg #[.int .i64 0,.int .i64 0,.string ⟨#[]⟩,.int .i64 0,.string ⟨#[]⟩,.string ⟨#[]⟩,.string ⟨#[]⟩,.string ⟨#[]⟩,.string ⟨#[]⟩,.slice none 0 0,.slice none 0 0],.bool false],by simp[results,Tryz.results63,go_sem,k0,k1,k2,k3,k4,k5,k6,k7,k8,k9,k10],eG HF.out ⟨_,_,_,_,_,_,_,_,_,_,_,_,_,_,_,rfl⟩ hbb⟩
  have d1:decide ((k:Int)<1)=false:=aep (by omega);have d2:decide (k<1)=false:=aep q1;have d3:decide (k=0)=false:=aep (by omega);by_cases q2:9<k
  ·have HF:Hid (R=none):=aen (by rw[HE.out,if_neg (by omega)]);have d4:decide (9<(k:Int))=true:=aeq (by omega);have d5:decide (9<k)=true:=aeq q2;clear HE;obtain⟨k0,k1,k2,k3,k4,k5,k6,k7,k8,k9,k10,y0,y1,y2,y3,y4,y5,y6,y7,y8,y9,aj⟩:=ZM.facts hZ;go_wp2_with fail;obtain⟨W9,iK,hz3,hk3,hb3⟩:=wT hZ hB;have hK3:=hk3.same D _ hK rfl;clear n1 v1 hZ hN hV hK k0 k1 k2 k3 k4 k5 k6 k7 k8 k9 k10 y0 y1 y2 y3 y4 y5 y6 y7 y8 y9 aj;rw[←iK];clear iK hk3;refine⟨by simp,.inl ⟨_,_,rfl,run_takeDeferred hK3,?_⟩⟩;have fO:=nX (o:=.deferred none) hz3 hK3;obtain⟨k0,k1,k2,k3,k4,k5,k6,k7,k8,k9,k10,y0,y1,y2,y3,y4,y5,y6,y7,y8,y9,aj⟩:=az fO;have hbb:=hb3.trans (belowK_b (w:=w) (aeo _) _ D _ (.deferred none) (by omega) hK3 rfl rfl);refine⟨.tuple #[.agg #[.int .i64 0,.int .i64 0,.string ⟨#[]⟩,.int .i64 0,.string ⟨#[]⟩,.string ⟨#[]⟩,.string ⟨#[]⟩,.string ⟨#[]⟩,.string ⟨#[]⟩,.slice none 0 0,.slice none 0 0],.bool false],by simp[results,Tryz.results63,go_sem,k0,k1,k2,k3,k4,k5,k6,k7,k8,k9,k10],eG HF.out ⟨_,_,_,_,_,_,_,_,_,_,_,_,_,_,_,rfl⟩ hbb⟩
  have d4:decide (9<(k:Int))=false:=aep (by omega);have d5:decide (9<k)=false:=aep q2;by_cases q3:k=c.size
  ·have HF:Hid (R=none):=aen (by rw[HE.out,if_neg (by omega)]);have d6:(k==c.size)=true:=by rw[beq_iff_eq];exact q3
   have d7:((k:Int)==(c.size:Int))=true:=by rw[beq_iff_eq];omega
   clear HE q3;obtain⟨k0,k1,k2,k3,k4,k5,k6,k7,k8,k9,k10,y0,y1,y2,y3,y4,y5,y6,y7,y8,y9,aj⟩:=ZM.facts hZ;go_wp2_with fail;obtain⟨W9,iK,hz3,hk3,hb3⟩:=wT hZ hB;have hK3:=hk3.same D _ hK rfl;clear n1 v1 hZ hN hV hK k0 k1 k2 k3 k4 k5 k6 k7 k8 k9 k10 y0 y1 y2 y3 y4 y5 y6 y7 y8 y9 aj;rw[←iK];clear iK hk3;refine⟨by simp,.inl ⟨_,_,rfl,run_takeDeferred hK3,?_⟩⟩;have fO:=nX (o:=.deferred none) hz3 hK3;obtain⟨k0,k1,k2,k3,k4,k5,k6,k7,k8,k9,k10,y0,y1,y2,y3,y4,y5,y6,y7,y8,y9,aj⟩:=az fO;have hbb:=hb3.trans (belowK_b (w:=w) (aeo _) _ D _ (.deferred none) (by omega) hK3 rfl rfl);refine⟨.tuple #[.agg #[.int .i64 0,.int .i64 0,.string ⟨#[]⟩,.int .i64 0,.string ⟨#[]⟩,.string ⟨#[]⟩,.string ⟨#[]⟩,.string ⟨#[]⟩,.string ⟨#[]⟩,.slice none 0 0,.slice none 0 0],.bool false],by simp[results,Tryz.results63,go_sem,k0,k1,k2,k3,k4,k5,k6,k7,k8,k9,k10],eG HF.out ⟨_,_,_,_,_,_,_,_,_,_,_,_,_,_,_,rfl⟩ hbb⟩
  have d6:(k==c.size)=false:=by rw[aes];exact q3
  have d7:((k:Int)==(c.size:Int))=false:=by rw[aes];omega
  have hkc:k<c.size:=by omega
  have hgk:=get_bt c k hkc;by_cases q4:bt c k=46∨bt c k=41;case neg=>
   have HF:Hid (R=none):=aen (by rw[HE.out,if_neg (fun h=>q4 h.2)]);have d8:(((bt c k:Nat):Int) != 46)=true:=by rw[aeB];omega
   have d9:(((bt c k:Nat):Int) != 41)=true:=by rw[aeB];omega
   clear HE q3 q4;obtain⟨k0,k1,k2,k3,k4,k5,k6,k7,k8,k9,k10,y0,y1,y2,y3,y4,y5,y6,y7,y8,y9,aj⟩:=ZM.facts hZ;go_wp2_with fail;obtain⟨W9,iK,hz3,hk3,hb3⟩:=wT hZ hB;have hK3:=hk3.same D _ hK rfl;clear n1 v1 hZ hN hV hK k0 k1 k2 k3 k4 k5 k6 k7 k8 k9 k10 y0 y1 y2 y3 y4 y5 y6 y7 y8 y9 aj;rw[←iK];clear iK hk3;refine⟨by simp,.inl ⟨_,_,rfl,run_takeDeferred hK3,?_⟩⟩;have fO:=nX (o:=.deferred none) hz3 hK3;obtain⟨k0,k1,k2,k3,k4,k5,k6,k7,k8,k9,k10,y0,y1,y2,y3,y4,y5,y6,y7,y8,y9,aj⟩:=az fO;have hbb:=hb3.trans (belowK_b (w:=w) (aeo _) _ D _ (.deferred none) (by omega) hK3 rfl rfl);refine⟨.tuple #[.agg #[.int .i64 0,.int .i64 0,.string ⟨#[]⟩,.int .i64 0,.string ⟨#[]⟩,.string ⟨#[]⟩,.string ⟨#[]⟩,.string ⟨#[]⟩,.string ⟨#[]⟩,.slice none 0 0,.slice none 0 0],.bool false],by simp[results,Tryz.results63,go_sem,k0,k1,k2,k3,k4,k5,k6,k7,k8,k9,k10],eG HF.out ⟨_,_,_,_,_,_,_,_,_,_,_,_,_,_,_,rfl⟩ hbb⟩
  have HF:Hid (R=if fF (c.extract (k+1) c.size)=true then some {kind:=6,n:=v,ch:=c.extract k (k+1),off:=ind+k+2,info:=c.extract 0 k,rest:=aA (c.extract (k+1) c.size)} else none):=aen (by rw[HE.out,if_pos ⟨by omega,q4⟩]);clear HE;have hxs:(c.extract (k+1) c.size).size≤1000000:=by rw[aex];omega
  have mV:=aen fun W=>Fv (c.extract (k+1) c.size) W hxs;generalize aA (c.extract (k+1) c.size)=Y at *;generalize fF (c.extract (k+1) c.size)=q at *;have hdd:(((bt c k:Nat):Int) != 46)=false∨((((bt c k:Nat):Int) != 46)=true∧(((bt c k:Nat):Int) != 41)=false):=by
   rcases q4 with h|h
   ·left;rw[h];rfl
   ·right;rw[h];exact⟨rfl,rfl⟩
  clear q3 q4;rcases hdd with d8|⟨d8,d9⟩;all_goals
   go_wp2_with fail;with_reducible refine(mV.out _).mono ?_
   rintro e W1 ⟨rfl,b1⟩;have hDl:D<W.heap.size:=by
    rcases Nat.lt_or_ge D W.heap.size with h|h
    ·exact h
    ·rw[Array.getElem?_eq_none h] at hK;cases hK
   replace hK:=(b1.block D hDl).trans hK;replace hZ:=ae.below hZ b1 hZ.lt;replace hN:=(b1.block _ hN.lt).trans hN;replace hV:=(b1.block _ hV.lt).trans hV;replace hB:=hB.trans (b1.mono hB.size);clear n1 v1 b1 hDl;have CG:Boxed W1 (w.heap.size+1) 3 (.int .i64 (k:Nat)):=hN;have hV':Boxed W1 (w.heap.size+1+1) 3 (.int .i64 (v:Nat)):=hV;have n1:=CG.cell;have v1:=hV'.cell;clear CG hV';obtain⟨k0,k1,k2,k3,k4,k5,k6,k7,k8,k9,k10,y0,y1,y2,y3,y4,y5,y6,y7,y8,y9,aj⟩:=ZM.facts hZ;go_wp2_with fail;have hw1:IntKind.i64.wrap ((k:Int)+1)=(k:Int)+1:=IntWalk.i64_in _ (by omega);have hw2:IntKind.i64.wrap ((ind:Int)+(k:Int))=(ind:Int)+(k:Int):=IntWalk.i64_in _ (by omega);have hw3:IntKind.i64.wrap ((ind:Int)+(k:Int)+2)=(ind:Int)+(k:Int)+2:=IntWalk.i64_in _ (by omega);have hw4:((k:Int)+1).toNat=k+1:=by omega
   have hw5:(k:Int)≤(c.size:Int):=by omega
   have hw6:(k:Int)+1≤(c.size:Int):=by omega
   have hw7:(k:Int)≤(k:Int)+1:=by omega
   have hw8:(0:Int)≤(k:Int)+1:=by omega
   have jc:¬w.heap.size=w.heap.size+1+1:=by omega
   go_region_held3 (fun w'=>w'.cell? ⟨w.heap.size+1,0,none⟩=some (.int .i64 (k:Nat))∧w'.cell? ⟨w.heap.size+1+1,0,none⟩=some (.int .i64 (v:Nat))) (go_keep) (fail);clear hw1 hw2 hw3 hw4 hw5 hw6 hw7 hw8 jc;go_wp2_with fail;have hz3:=ae.drew (ax hZ (.int .i64 6) (.int .i64 (v:Nat)) (.string (c.extract k (k+1))) (.int .i64 ((ind:Int)+(k:Int)+2)) (.string (c.extract 0 k)) (.string Y) (.string ⟨#[]⟩) (.string ⟨#[]⟩) (.string ⟨#[]⟩) (.slice none 0 0) (.slice none 0 0));have hK3:=(((((((((((((aeu W1).trans (aet _ ⟨w.heap.size,0,none⟩ (.int .i64 6))).trans (aet _ ⟨w.heap.size,1,none⟩ (.int .i64 (v:Nat)))).trans (aet _ ⟨w.heap.size,2,none⟩ (.string (c.extract k (k+1))))).trans (aet _ ⟨w.heap.size,3,none⟩ (.int .i64 ((ind:Int)+(k:Int)+2)))).trans (aet _ ⟨w.heap.size,4,none⟩ (.string (c.extract 0 k)))).trans (aet _ ⟨w.heap.size,5,none⟩ (.string Y))).trans (aet _ ⟨w.heap.size,6,none⟩ (.string ⟨#[]⟩))).trans (aet _ ⟨w.heap.size,7,none⟩ (.string ⟨#[]⟩))).trans (aet _ ⟨w.heap.size,8,none⟩ (.string ⟨#[]⟩))).trans (aet _ ⟨w.heap.size,9,none⟩ (.slice none 0 0))).trans (aet _ ⟨w.heap.size,10,none⟩ (.slice none 0 0))).trans (KeepsOthers.drew _)).same D _ hK rfl;have hb3:=Below.drew (au hB (aeo _) (.int .i64 6) (.int .i64 (v:Nat)) (.string (c.extract k (k+1))) (.int .i64 ((ind:Int)+(k:Int)+2)) (.string (c.extract 0 k)) (.string Y) (.string ⟨#[]⟩) (.string ⟨#[]⟩) (.string ⟨#[]⟩) (.slice none 0 0) (.slice none 0 0));clear n1 v1 hZ hN hV hK k0 k1 k2 k3 k4 k5 k6 k7 k8 k9 k10 y0 y1 y2 y3 y4 y5 y6 y7 y8 y9 aj;refine⟨by simp,.inl ⟨_,_,rfl,run_takeDeferred hK3,?_⟩⟩;generalize (((((((((((W1.setCell ⟨w.heap.size,0,none⟩ (.int .i64 6)).setCell ⟨w.heap.size,1,none⟩ (.int .i64 (v:Nat))).setCell ⟨w.heap.size,2,none⟩ (.string (c.extract k (k+1)))).setCell ⟨w.heap.size,3,none⟩ (.int .i64 ((ind:Int)+(k:Int)+2))).setCell ⟨w.heap.size,4,none⟩ (.string (c.extract 0 k))).setCell ⟨w.heap.size,5,none⟩ (.string Y)).setCell ⟨w.heap.size,6,none⟩ (.string ⟨#[]⟩)).setCell ⟨w.heap.size,7,none⟩ (.string ⟨#[]⟩)).setCell ⟨w.heap.size,8,none⟩ (.string ⟨#[]⟩)).setCell ⟨w.heap.size,9,none⟩ (.slice none 0 0)).setCell ⟨w.heap.size,10,none⟩ (.slice none 0 0)).drew=W9 at *;have fO:=nX (o:=.deferred none) hz3 hK3;obtain⟨k0,k1,k2,k3,k4,k5,k6,k7,k8,k9,k10,y0,y1,y2,y3,y4,y5,y6,y7,y8,y9,aj⟩:=az fO;have hbb:=hb3.trans (belowK_b (w:=w) (aeo _) _ D _ (.deferred none) (by omega) hK3 rfl rfl);refine⟨.tuple #[.agg #[.int .i64 6,.int .i64 (v:Nat),.string (c.extract k (k+1)),.int .i64 ((ind:Int)+(k:Int)+2),.string (c.extract 0 k),.string Y,.string ⟨#[]⟩,.string ⟨#[]⟩,.string ⟨#[]⟩,.slice none 0 0,.slice none 0 0],.bool q],by simp[results,Tryz.results63,go_sem,k0,k1,k2,k3,k4,k5,k6,k7,k8,k9,k10],wQ HF.out (by have hm:=fE (m:={kind:=6,n:=v,ch:=c.extract k (k+1),off:=ind+k+2,info:=c.extract 0 k,rest:=Y}) rfl hbb.size;simp only[ag.cells] at hm;rw[show ((ind+k+2:Nat):Int)=(ind:Int)+(k:Int)+2 from by omega] at hm;exact hm) hbb⟩
 case stop=>
  rintro D q0 pre W hD hpre ⟨⟨⟨rfl,pr,x,rfl,hg,wU,hx⟩,hZ⟩,⟨hN,hV⟩,hB⟩ hK;rw[List.map_append] at hpre;obtain⟨hp1,hp2⟩:=EW hpre;have hpl:pr.length=x.1:=by have:=congrArg List.length hp1;rwa [List.length_map,List.length_range] at this
  have hdig:∀j,j<x.1→(fun b=>!cu b) (bt c j)=false:=fun j hj=>by
   have:j∈pr.map Fin.val:=by rw[hp1];exact List.mem_range.2 hj
   obtain⟨y,hy,rfl⟩:=List.mem_map.1 this;simp only;rw[hg y hy];rfl
  have HE:Hid (R=nY c ind pr.length (kZ c pr)):=aen (by
   rcases hx with hx|hx
   ·have hnd:qo c=x.1:=xG c _ _ (aeD hp2) hdig (fun _=>by rw[hx];rfl);rw[HR.out,hnd,Qe c pr _ hp1,hpl]
   ·have hnd:x.1≤qo c:=Yu c _ _ (aeD hp2) hdig;rw[HR.out,Qg _ _ _ _ (by omega),Qg _ _ _ _ (by omega)])
  have hb:=CB (FI c _ pr rfl hg) wU;have hdl:(pr++[x]).dropLast=pr:=by simp
  rw[hdl] at hN hV;have hks:pr.length≤c.size:=by omega
  clear hg HR hx hpre hp1 hdig hdl hpl;generalize kZ c pr=v at *;generalize pr.length=k at *;gi_wp2_with fail;have n1:=hN.cell;have v1:=hV.cell;have CE:nY c ind k v=if (1≤k∧k≤9∧k<c.size)∧(bt c k=46∨bt c k=41) then (if fF (c.extract (k+1) c.size)=true then some {kind:=6,n:=v,ch:=c.extract k (k+1),off:=ind+k+2,info:=c.extract 0 k,rest:=aA (c.extract (k+1) c.size)} else none) else none:=rfl
  rw[CE] at HE;clear CE;by_cases q1:k<1
  ·have HF:Hid (R=none):=aen (by rw[HE.out,if_neg (by omega)]);have d1:decide ((k:Int)<1)=true:=aeq (by omega);have d2:decide (k<1)=true:=aeq q1;have d3:decide (k=0)=true:=aeq (by omega);clear HE;obtain⟨k0,k1,k2,k3,k4,k5,k6,k7,k8,k9,k10,y0,y1,y2,y3,y4,y5,y6,y7,y8,y9,aj⟩:=ZM.facts hZ;go_wp2_with fail;obtain⟨W9,iK,hz3,hk3,hb3⟩:=wT hZ hB;have hK3:=hk3.same D _ hK rfl;clear n1 v1 hZ hN hV hK k0 k1 k2 k3 k4 k5 k6 k7 k8 k9 k10 y0 y1 y2 y3 y4 y5 y6 y7 y8 y9 aj;rw[←iK];clear iK hk3;refine⟨by simp,.inl ⟨_,_,rfl,run_takeDeferred hK3,?_⟩⟩;have fO:=nX (o:=.deferred none) hz3 hK3;obtain⟨k0,k1,k2,k3,k4,k5,k6,k7,k8,k9,k10,y0,y1,y2,y3,y4,y5,y6,y7,y8,y9,aj⟩:=az fO;have hbb:=hb3.trans (belowK_b (w:=w) (aeo _) _ D _ (.deferred none) (by omega) hK3 rfl rfl);refine⟨.tuple #[.agg #[.int .i64 0,.int .i64 0,.string ⟨#[]⟩,.int .i64 0,.string ⟨#[]⟩,.string ⟨#[]⟩,.string ⟨#[]⟩,.string ⟨#[]⟩,.string ⟨#[]⟩,.slice none 0 0,.slice none 0 0],.bool false],by simp[results,Tryz.results63,go_sem,k0,k1,k2,k3,k4,k5,k6,k7,k8,k9,k10],eG HF.out ⟨_,_,_,_,_,_,_,_,_,_,_,_,_,_,_,rfl⟩ hbb⟩
  have d1:decide ((k:Int)<1)=false:=aep (by omega);have d2:decide (k<1)=false:=aep q1;have d3:decide (k=0)=false:=aep (by omega);by_cases q2:9<k
  ·have HF:Hid (R=none):=aen (by rw[HE.out,if_neg (by omega)]);have d4:decide (9<(k:Int))=true:=aeq (by omega);have d5:decide (9<k)=true:=aeq q2;clear HE;obtain⟨k0,k1,k2,k3,k4,k5,k6,k7,k8,k9,k10,y0,y1,y2,y3,y4,y5,y6,y7,y8,y9,aj⟩:=ZM.facts hZ;go_wp2_with fail;obtain⟨W9,iK,hz3,hk3,hb3⟩:=wT hZ hB;have hK3:=hk3.same D _ hK rfl;clear n1 v1 hZ hN hV hK k0 k1 k2 k3 k4 k5 k6 k7 k8 k9 k10 y0 y1 y2 y3 y4 y5 y6 y7 y8 y9 aj;rw[←iK];clear iK hk3;refine⟨by simp,.inl ⟨_,_,rfl,run_takeDeferred hK3,?_⟩⟩;have fO:=nX (o:=.deferred none) hz3 hK3;obtain⟨k0,k1,k2,k3,k4,k5,k6,k7,k8,k9,k10,y0,y1,y2,y3,y4,y5,y6,y7,y8,y9,aj⟩:=az fO;have hbb:=hb3.trans (belowK_b (w:=w) (aeo _) _ D _ (.deferred none) (by omega) hK3 rfl rfl);refine⟨.tuple #[.agg #[.int .i64 0,.int .i64 0,.string ⟨#[]⟩,.int .i64 0,.string ⟨#[]⟩,.string ⟨#[]⟩,.string ⟨#[]⟩,.string ⟨#[]⟩,.string ⟨#[]⟩,.slice none 0 0,.slice none 0 0],.bool false],by simp[results,Tryz.results63,go_sem,k0,k1,k2,k3,k4,k5,k6,k7,k8,k9,k10],eG HF.out ⟨_,_,_,_,_,_,_,_,_,_,_,_,_,_,_,rfl⟩ hbb⟩
  have d4:decide (9<(k:Int))=false:=aep (by omega);have d5:decide (9<k)=false:=aep q2;by_cases q3:k=c.size
  ·have HF:Hid (R=none):=aen (by rw[HE.out,if_neg (by omega)]);have d6:(k==c.size)=true:=by rw[beq_iff_eq];exact q3
   have d7:((k:Int)==(c.size:Int))=true:=by rw[beq_iff_eq];omega
   clear HE q3;obtain⟨k0,k1,k2,k3,k4,k5,k6,k7,k8,k9,k10,y0,y1,y2,y3,y4,y5,y6,y7,y8,y9,aj⟩:=ZM.facts hZ;go_wp2_with fail;obtain⟨W9,iK,hz3,hk3,hb3⟩:=wT hZ hB;have hK3:=hk3.same D _ hK rfl;clear n1 v1 hZ hN hV hK k0 k1 k2 k3 k4 k5 k6 k7 k8 k9 k10 y0 y1 y2 y3 y4 y5 y6 y7 y8 y9 aj;rw[←iK];clear iK hk3;refine⟨by simp,.inl ⟨_,_,rfl,run_takeDeferred hK3,?_⟩⟩;have fO:=nX (o:=.deferred none) hz3 hK3;obtain⟨k0,k1,k2,k3,k4,k5,k6,k7,k8,k9,k10,y0,y1,y2,y3,y4,y5,y6,y7,y8,y9,aj⟩:=az fO;have hbb:=hb3.trans (belowK_b (w:=w) (aeo _) _ D _ (.deferred none) (by omega) hK3 rfl rfl);refine⟨.tuple #[.agg #[.int .i64 0,.int .i64 0,.string ⟨#[]⟩,.int .i64 0,.string ⟨#[]⟩,.string ⟨#[]⟩,.string ⟨#[]⟩,.string ⟨#[]⟩,.string ⟨#[]⟩,.slice none 0 0,.slice none 0 0],.bool false],by simp[results,Tryz.results63,go_sem,k0,k1,k2,k3,k4,k5,k6,k7,k8,k9,k10],eG HF.out ⟨_,_,_,_,_,_,_,_,_,_,_,_,_,_,_,rfl⟩ hbb⟩
  have d6:(k==c.size)=false:=by rw[aes];exact q3
  have d7:((k:Int)==(c.size:Int))=false:=by rw[aes];omega
  have hkc:k<c.size:=by omega
  have hgk:=get_bt c k hkc;by_cases q4:bt c k=46∨bt c k=41;case neg=>
   have HF:Hid (R=none):=aen (by rw[HE.out,if_neg (fun h=>q4 h.2)]);have d8:(((bt c k:Nat):Int) != 46)=true:=by rw[aeB];omega
   have d9:(((bt c k:Nat):Int) != 41)=true:=by rw[aeB];omega
   clear HE q3 q4;obtain⟨k0,k1,k2,k3,k4,k5,k6,k7,k8,k9,k10,y0,y1,y2,y3,y4,y5,y6,y7,y8,y9,aj⟩:=ZM.facts hZ;go_wp2_with fail;obtain⟨W9,iK,hz3,hk3,hb3⟩:=wT hZ hB;have hK3:=hk3.same D _ hK rfl;clear n1 v1 hZ hN hV hK k0 k1 k2 k3 k4 k5 k6 k7 k8 k9 k10 y0 y1 y2 y3 y4 y5 y6 y7 y8 y9 aj;rw[←iK];clear iK hk3;refine⟨by simp,.inl ⟨_,_,rfl,run_takeDeferred hK3,?_⟩⟩;have fO:=nX (o:=.deferred none) hz3 hK3;obtain⟨k0,k1,k2,k3,k4,k5,k6,k7,k8,k9,k10,y0,y1,y2,y3,y4,y5,y6,y7,y8,y9,aj⟩:=az fO;have hbb:=hb3.trans (belowK_b (w:=w) (aeo _) _ D _ (.deferred none) (by omega) hK3 rfl rfl);refine⟨.tuple #[.agg #[.int .i64 0,.int .i64 0,.string ⟨#[]⟩,.int .i64 0,.string ⟨#[]⟩,.string ⟨#[]⟩,.string ⟨#[]⟩,.string ⟨#[]⟩,.string ⟨#[]⟩,.slice none 0 0,.slice none 0 0],.bool false],by simp[results,Tryz.results63,go_sem,k0,k1,k2,k3,k4,k5,k6,k7,k8,k9,k10],eG HF.out ⟨_,_,_,_,_,_,_,_,_,_,_,_,_,_,_,rfl⟩ hbb⟩
  have HF:Hid (R=if fF (c.extract (k+1) c.size)=true then some {kind:=6,n:=v,ch:=c.extract k (k+1),off:=ind+k+2,info:=c.extract 0 k,rest:=aA (c.extract (k+1) c.size)} else none):=aen (by rw[HE.out,if_pos ⟨by omega,q4⟩]);clear HE;have hxs:(c.extract (k+1) c.size).size≤1000000:=by rw[aex];omega
  have mV:=aen fun W=>Fv (c.extract (k+1) c.size) W hxs;generalize aA (c.extract (k+1) c.size)=Y at *;generalize fF (c.extract (k+1) c.size)=q at *;have hdd:(((bt c k:Nat):Int) != 46)=false∨((((bt c k:Nat):Int) != 46)=true∧(((bt c k:Nat):Int) != 41)=false):=by
   rcases q4 with h|h
   ·left;rw[h];rfl
   ·right;rw[h];exact⟨rfl,rfl⟩
  clear q3 q4;rcases hdd with d8|⟨d8,d9⟩;all_goals
   go_wp2_with fail;with_reducible refine(mV.out _).mono ?_
   rintro e W1 ⟨rfl,b1⟩;have hDl:D<W.heap.size:=by
    rcases Nat.lt_or_ge D W.heap.size with h|h
    ·exact h
    ·rw[Array.getElem?_eq_none h] at hK;cases hK
   replace hK:=(b1.block D hDl).trans hK;replace hZ:=ae.below hZ b1 hZ.lt;replace hN:=(b1.block _ hN.lt).trans hN;replace hV:=(b1.block _ hV.lt).trans hV;replace hB:=hB.trans (b1.mono hB.size);clear n1 v1 b1 hDl;have CG:Boxed W1 (w.heap.size+1) 3 (.int .i64 (k:Nat)):=hN;have hV':Boxed W1 (w.heap.size+1+1) 3 (.int .i64 (v:Nat)):=hV;have n1:=CG.cell;have v1:=hV'.cell;clear CG hV';obtain⟨k0,k1,k2,k3,k4,k5,k6,k7,k8,k9,k10,y0,y1,y2,y3,y4,y5,y6,y7,y8,y9,aj⟩:=ZM.facts hZ;go_wp2_with fail;have hw1:IntKind.i64.wrap ((k:Int)+1)=(k:Int)+1:=IntWalk.i64_in _ (by omega);have hw2:IntKind.i64.wrap ((ind:Int)+(k:Int))=(ind:Int)+(k:Int):=IntWalk.i64_in _ (by omega);have hw3:IntKind.i64.wrap ((ind:Int)+(k:Int)+2)=(ind:Int)+(k:Int)+2:=IntWalk.i64_in _ (by omega);have hw4:((k:Int)+1).toNat=k+1:=by omega
   have hw5:(k:Int)≤(c.size:Int):=by omega
   have hw6:(k:Int)+1≤(c.size:Int):=by omega
   have hw7:(k:Int)≤(k:Int)+1:=by omega
   have hw8:(0:Int)≤(k:Int)+1:=by omega
   have jc:¬w.heap.size=w.heap.size+1+1:=by omega
   go_region_held3 (fun w'=>w'.cell? ⟨w.heap.size+1,0,none⟩=some (.int .i64 (k:Nat))∧w'.cell? ⟨w.heap.size+1+1,0,none⟩=some (.int .i64 (v:Nat))) (go_keep) (fail);clear hw1 hw2 hw3 hw4 hw5 hw6 hw7 hw8 jc;go_wp2_with fail;have hz3:=ae.drew (ax hZ (.int .i64 6) (.int .i64 (v:Nat)) (.string (c.extract k (k+1))) (.int .i64 ((ind:Int)+(k:Int)+2)) (.string (c.extract 0 k)) (.string Y) (.string ⟨#[]⟩) (.string ⟨#[]⟩) (.string ⟨#[]⟩) (.slice none 0 0) (.slice none 0 0));have hK3:=(((((((((((((aeu W1).trans (aet _ ⟨w.heap.size,0,none⟩ (.int .i64 6))).trans (aet _ ⟨w.heap.size,1,none⟩ (.int .i64 (v:Nat)))).trans (aet _ ⟨w.heap.size,2,none⟩ (.string (c.extract k (k+1))))).trans (aet _ ⟨w.heap.size,3,none⟩ (.int .i64 ((ind:Int)+(k:Int)+2)))).trans (aet _ ⟨w.heap.size,4,none⟩ (.string (c.extract 0 k)))).trans (aet _ ⟨w.heap.size,5,none⟩ (.string Y))).trans (aet _ ⟨w.heap.size,6,none⟩ (.string ⟨#[]⟩))).trans (aet _ ⟨w.heap.size,7,none⟩ (.string ⟨#[]⟩))).trans (aet _ ⟨w.heap.size,8,none⟩ (.string ⟨#[]⟩))).trans (aet _ ⟨w.heap.size,9,none⟩ (.slice none 0 0))).trans (aet _ ⟨w.heap.size,10,none⟩ (.slice none 0 0))).trans (KeepsOthers.drew _)).same D _ hK rfl;have hb3:=Below.drew (au hB (aeo _) (.int .i64 6) (.int .i64 (v:Nat)) (.string (c.extract k (k+1))) (.int .i64 ((ind:Int)+(k:Int)+2)) (.string (c.extract 0 k)) (.string Y) (.string ⟨#[]⟩) (.string ⟨#[]⟩) (.string ⟨#[]⟩) (.slice none 0 0) (.slice none 0 0));clear n1 v1 hZ hN hV hK k0 k1 k2 k3 k4 k5 k6 k7 k8 k9 k10 y0 y1 y2 y3 y4 y5 y6 y7 y8 y9 aj;refine⟨by simp,.inl ⟨_,_,rfl,run_takeDeferred hK3,?_⟩⟩;generalize (((((((((((W1.setCell ⟨w.heap.size,0,none⟩ (.int .i64 6)).setCell ⟨w.heap.size,1,none⟩ (.int .i64 (v:Nat))).setCell ⟨w.heap.size,2,none⟩ (.string (c.extract k (k+1)))).setCell ⟨w.heap.size,3,none⟩ (.int .i64 ((ind:Int)+(k:Int)+2))).setCell ⟨w.heap.size,4,none⟩ (.string (c.extract 0 k))).setCell ⟨w.heap.size,5,none⟩ (.string Y)).setCell ⟨w.heap.size,6,none⟩ (.string ⟨#[]⟩)).setCell ⟨w.heap.size,7,none⟩ (.string ⟨#[]⟩)).setCell ⟨w.heap.size,8,none⟩ (.string ⟨#[]⟩)).setCell ⟨w.heap.size,9,none⟩ (.slice none 0 0)).setCell ⟨w.heap.size,10,none⟩ (.slice none 0 0)).drew=W9 at *;have fO:=nX (o:=.deferred none) hz3 hK3;obtain⟨k0,k1,k2,k3,k4,k5,k6,k7,k8,k9,k10,y0,y1,y2,y3,y4,y5,y6,y7,y8,y9,aj⟩:=az fO;have hbb:=hb3.trans (belowK_b (w:=w) (aeo _) _ D _ (.deferred none) (by omega) hK3 rfl rfl);refine⟨.tuple #[.agg #[.int .i64 6,.int .i64 (v:Nat),.string (c.extract k (k+1)),.int .i64 ((ind:Int)+(k:Int)+2),.string (c.extract 0 k),.string Y,.string ⟨#[]⟩,.string ⟨#[]⟩,.string ⟨#[]⟩,.slice none 0 0,.slice none 0 0],.bool q],by simp[results,Tryz.results63,go_sem,k0,k1,k2,k3,k4,k5,k6,k7,k8,k9,k10],wQ HF.out (by have hm:=fE (m:={kind:=6,n:=v,ch:=c.extract k (k+1),off:=ind+k+2,info:=c.extract 0 k,rest:=Y}) rfl hbb.size;simp only[ag.cells] at hm;rw[show ((ind+k+2:Nat):Int)=(ind:Int)+(k:Int)+2 from by omega] at hm;exact hm) hbb⟩
attribute [local go_sem] Oper.semAt_some
theorem oZ(b:Nat):bf b=true↔(97≤b∧b≤122)∨(65≤b∧b≤90)∨(48≤b∧b≤57)∨b=45∨b=95∨b=46∨b=58:=by
 unfold bf letterN;simp only[Bool.or_eq_true,Bool.and_eq_true,decide_eq_true_eq,beq_iff_eq];omega
def lU(s:ByteArray):Nat:=aI s (fun b=>!bf b)
theorem Yw(s:ByteArray)(w:World)(hs:s.size≤1000000):Calls prog 109 #[.string s] w fun e w'=>e=.returned (.int .i64 (lU s))∧Below w.heap.size w w':=by
 have HP:=aen fun W=>BQ s W;have Qj:Hid (lU s=aI s (fun b=>!bf b)):=aen rfl;generalize lU s=nm at *;refine(callsIn_wide (n:=5)).1 ?_;refine callsIn_of_wp_marks Tryz.func109 rfl trivial ?_ rfl;simp only[Tryz.ntmps109,List.size_toArray,aeC,List.length_nil,Nat.reduceAdd,Nat.reduceSub,Array.replicate_succ,Array.replicate_zero,List.push_toArray,List.append_toArray,List.nil_append,List.cons_append];gi_wp2_with fail;refine⟨trivial,?_⟩;with_reducible refine(callsIn_wide.2 (HP.out _)).mono ?_
 rintro e w' ⟨rfl,rfl⟩;gi_wp2_with fail;have bR:=Boxed.new w 3 (.int .i64 0);have bS:=Boxed.new (w.alloc (.cells #[.int .i64 0] 3)) 9 (.string s);rw[World.size_alloc] at bS;have hB0:Below w.heap.size w ((w.alloc (.cells #[.int .i64 0] 3)).alloc (.cells #[.string s] 9)):=((aer _ w).alloc (aeo _) _).alloc (by simp) _;have xH:=bR.alloc (.cells #[.string s] 9);have kD:((w.alloc (.cells #[.int .i64 0] 3)).alloc (.cells #[.string s] 9)).heap.size=w.heap.size+2:=by simp
 generalize ((w.alloc (.cells #[.int .i64 0] 3)).alloc (.cells #[.string s] 9))=W0 at *;clear bR;refine wpIn_rangeFunc_ownG rfl (by omega) (gf:=163) (lb:=#[.pointer (some ⟨w.heap.size+1,0,none⟩)]) rfl trivial (enters_of Tryz.func163 (by kernel_rfl) rfl)
  (BU 4 (by omega) (w.heap.size+1) s hs _ bS) (Kp:=uU (w.heap.size+1)) (fun h1 h2=>h2.trans h1) (fun W l o o' hl ho hc _=>World.putObj_heap_other (fun e=>by omega)) (aer _ _) (fun _=>rfl)
  (fun (pre:List (Fin s.size)) W=>Boxed W (w.heap.size+1) 9 (.string s)∧Boxed W w.heap.size 3 (.int .i64 0)∧(∀j∈pre,bf (bt s j.1)=true)∧Below w.heap.size w W)
  (fun q (pre:List (Fin s.size)) W=>(q=Code.ret∧∃pr x,pre=pr++[x]∧(∀j∈pr,bf (bt s j.1)=true)∧bf (bt s x.1)=false)∧Boxed W w.heap.size 3 (.int .i64 (zW pre))∧Below w.heap.size w W)
  (OwnFrom.and (Own.from (boxed_own _ _ (fun _=>.string s)) _) (OwnFrom.and (Own.from (boxed_own _ _ (fun _=>.int .i64 0)) _) (OwnFrom.and (ownFrom_pure _ _) (ownFrom_below (aeo _) (by omega)))))
  (fun q=>OwnFrom.and (ownFrom_pure _ _) (OwnFrom.and (Own.from (boxed_own _ _ (fun pre=>.int .i64 (zW pre))) _) (ownFrom_below (aeo _) (by omega))))
  ⟨bS,xH,fun j h=>absurd h (by simp),hB0⟩
  (fun (x:Fin s.size)=>{tmps:=#[.string s,undef,.pointer (some ⟨w.heap.size,0,none⟩),.int .i64 (x.1:Nat),.int .u8 (bt s x.1),undef,.string s,.func (.func 163) #[] #[.pointer (some ⟨w.heap.size+1,0,none⟩)],.int .i64 (x.1:Nat),.int .u8 (bt s x.1),undef,undef,undef,undef,undef,undef,undef,undef,undef,undef,undef,undef,undef,undef,undef,undef,undef,undef,undef,undef,undef,undef,undef,undef,undef,undef,undef,undef,undef,undef,undef,undef,undef,undef,undef,undef,undef,undef,undef,undef,undef,undef,undef],defers:=[]}) ?assign ?body ?done ?stop
 case assign=>
  intro l x W K hK;gi_wp2_with fail;exact hK
 case body=>
  rintro l pre x W ⟨hsB,hR,hg,hB⟩ hlt;have HG:=aen hg;clear hg;have k2:=hR.cell;have k3:=hR.frozen;have hb:=aK s x.1;have NX:bf (bt s x.1)=true→∀j∈pre++[x],bf (bt s j.1)=true:=fun hx j hj=>by
   rcases List.mem_append.1 hj with hj|hj
   ·exact HG.out j hj
   ·rw[List.mem_singleton] at hj;rw[hj];exact hx
  have hcl:(97≤bt s x.1∧bt s x.1≤122)∨(65≤bt s x.1∧bt s x.1≤90)∨(48≤bt s x.1∧bt s x.1≤57)∨(45≤bt s x.1∧bt s x.1≤45)∨(95≤bt s x.1∧bt s x.1≤95)∨(46≤bt s x.1∧bt s x.1≤46)∨(58≤bt s x.1∧bt s x.1≤58)∨(0≤bt s x.1∧bt s x.1≤44)∨(47≤bt s x.1∧bt s x.1≤47)∨(59≤bt s x.1∧bt s x.1≤64)∨(91≤bt s x.1∧bt s x.1≤94)∨(96≤bt s x.1∧bt s x.1≤96)∨(123≤bt s x.1∧bt s x.1≤255):=by omega
  rcases hcl with h|h|h|h|h|h|h|h|h|h|h|h|h;case inl=>
   have e0:decide ((97:Int)≤((bt s x.1:Nat):Int))=true:=aeq (by omega);have e1:decide (((bt s x.1:Nat):Int)≤122)=true:=aeq (by omega);have e2:decide ((65:Int)≤((bt s x.1:Nat):Int))=true:=aeq (by omega);have e3:decide (((bt s x.1:Nat):Int)≤90)=false:=aep (by omega);have e4:decide (((bt s x.1:Nat):Int)<48)=false:=aep (by omega);have e5:decide ((57:Int)<((bt s x.1:Nat):Int))=true:=aeq (by omega);have n45:(((bt s x.1:Nat):Int) != 45)=true:=by rw[aeB];omega
   have n95:(((bt s x.1:Nat):Int) != 95)=true:=by rw[aeB];omega
   have n46:(((bt s x.1:Nat):Int) != 46)=true:=by rw[aeB];omega
   have n58:(((bt s x.1:Nat):Int) != 58)=true:=by rw[aeB];omega
   have HN':=aen (NX ((oZ _).2 (by omega)));clear NX h;gi_wp2_with fail;exact⟨(aeu _).from _,rfl,hsB,hR,HN'.out,hB⟩
  case inr.inl=>
   have e0:decide ((97:Int)≤((bt s x.1:Nat):Int))=false:=aep (by omega);have e1:decide (((bt s x.1:Nat):Int)≤122)=true:=aeq (by omega);have e2:decide ((65:Int)≤((bt s x.1:Nat):Int))=true:=aeq (by omega);have e3:decide (((bt s x.1:Nat):Int)≤90)=true:=aeq (by omega);have e4:decide (((bt s x.1:Nat):Int)<48)=false:=aep (by omega);have e5:decide ((57:Int)<((bt s x.1:Nat):Int))=true:=aeq (by omega);have n45:(((bt s x.1:Nat):Int) != 45)=true:=by rw[aeB];omega
   have n95:(((bt s x.1:Nat):Int) != 95)=true:=by rw[aeB];omega
   have n46:(((bt s x.1:Nat):Int) != 46)=true:=by rw[aeB];omega
   have n58:(((bt s x.1:Nat):Int) != 58)=true:=by rw[aeB];omega
   have HN':=aen (NX ((oZ _).2 (by omega)));clear NX h;gi_wp2_with fail;exact⟨(aeu _).from _,rfl,hsB,hR,HN'.out,hB⟩
  case inr.inr.inl=>
   have e0:decide ((97:Int)≤((bt s x.1:Nat):Int))=false:=aep (by omega);have e1:decide (((bt s x.1:Nat):Int)≤122)=true:=aeq (by omega);have e2:decide ((65:Int)≤((bt s x.1:Nat):Int))=false:=aep (by omega);have e3:decide (((bt s x.1:Nat):Int)≤90)=true:=aeq (by omega);have e4:decide (((bt s x.1:Nat):Int)<48)=false:=aep (by omega);have e5:decide ((57:Int)<((bt s x.1:Nat):Int))=false:=aep (by omega);have n45:(((bt s x.1:Nat):Int) != 45)=true:=by rw[aeB];omega
   have n95:(((bt s x.1:Nat):Int) != 95)=true:=by rw[aeB];omega
   have n46:(((bt s x.1:Nat):Int) != 46)=true:=by rw[aeB];omega
   have n58:(((bt s x.1:Nat):Int) != 58)=true:=by rw[aeB];omega
   have HN':=aen (NX ((oZ _).2 (by omega)));clear NX h;gi_wp2_with fail;exact⟨(aeu _).from _,rfl,hsB,hR,HN'.out,hB⟩
  case inr.inr.inr.inl=>
   have e0:decide ((97:Int)≤((bt s x.1:Nat):Int))=false:=aep (by omega);have e1:decide (((bt s x.1:Nat):Int)≤122)=true:=aeq (by omega);have e2:decide ((65:Int)≤((bt s x.1:Nat):Int))=false:=aep (by omega);have e3:decide (((bt s x.1:Nat):Int)≤90)=true:=aeq (by omega);have e4:decide (((bt s x.1:Nat):Int)<48)=true:=aeq (by omega);have e5:decide ((57:Int)<((bt s x.1:Nat):Int))=false:=aep (by omega);have n45:(((bt s x.1:Nat):Int) != 45)=false:=by rw[bne_eq_false_iff_eq];omega
   have n95:(((bt s x.1:Nat):Int) != 95)=true:=by rw[aeB];omega
   have n46:(((bt s x.1:Nat):Int) != 46)=true:=by rw[aeB];omega
   have n58:(((bt s x.1:Nat):Int) != 58)=true:=by rw[aeB];omega
   have HN':=aen (NX ((oZ _).2 (by omega)));clear NX h;gi_wp2_with fail;exact⟨(aeu _).from _,rfl,hsB,hR,HN'.out,hB⟩
  case inr.inr.inr.inr.inl=>
   have e0:decide ((97:Int)≤((bt s x.1:Nat):Int))=false:=aep (by omega);have e1:decide (((bt s x.1:Nat):Int)≤122)=true:=aeq (by omega);have e2:decide ((65:Int)≤((bt s x.1:Nat):Int))=true:=aeq (by omega);have e3:decide (((bt s x.1:Nat):Int)≤90)=false:=aep (by omega);have e4:decide (((bt s x.1:Nat):Int)<48)=false:=aep (by omega);have e5:decide ((57:Int)<((bt s x.1:Nat):Int))=true:=aeq (by omega);have n45:(((bt s x.1:Nat):Int) != 45)=true:=by rw[aeB];omega
   have n95:(((bt s x.1:Nat):Int) != 95)=false:=by rw[bne_eq_false_iff_eq];omega
   have n46:(((bt s x.1:Nat):Int) != 46)=true:=by rw[aeB];omega
   have n58:(((bt s x.1:Nat):Int) != 58)=true:=by rw[aeB];omega
   have HN':=aen (NX ((oZ _).2 (by omega)));clear NX h;gi_wp2_with fail;exact⟨(aeu _).from _,rfl,hsB,hR,HN'.out,hB⟩
  case inr.inr.inr.inr.inr.inl=>
   have e0:decide ((97:Int)≤((bt s x.1:Nat):Int))=false:=aep (by omega);have e1:decide (((bt s x.1:Nat):Int)≤122)=true:=aeq (by omega);have e2:decide ((65:Int)≤((bt s x.1:Nat):Int))=false:=aep (by omega);have e3:decide (((bt s x.1:Nat):Int)≤90)=true:=aeq (by omega);have e4:decide (((bt s x.1:Nat):Int)<48)=true:=aeq (by omega);have e5:decide ((57:Int)<((bt s x.1:Nat):Int))=false:=aep (by omega);have n45:(((bt s x.1:Nat):Int) != 45)=true:=by rw[aeB];omega
   have n95:(((bt s x.1:Nat):Int) != 95)=true:=by rw[aeB];omega
   have n46:(((bt s x.1:Nat):Int) != 46)=false:=by rw[bne_eq_false_iff_eq];omega
   have n58:(((bt s x.1:Nat):Int) != 58)=true:=by rw[aeB];omega
   have HN':=aen (NX ((oZ _).2 (by omega)));clear NX h;gi_wp2_with fail;exact⟨(aeu _).from _,rfl,hsB,hR,HN'.out,hB⟩
  case inr.inr.inr.inr.inr.inr.inl=>
   have e0:decide ((97:Int)≤((bt s x.1:Nat):Int))=false:=aep (by omega);have e1:decide (((bt s x.1:Nat):Int)≤122)=true:=aeq (by omega);have e2:decide ((65:Int)≤((bt s x.1:Nat):Int))=false:=aep (by omega);have e3:decide (((bt s x.1:Nat):Int)≤90)=true:=aeq (by omega);have e4:decide (((bt s x.1:Nat):Int)<48)=false:=aep (by omega);have e5:decide ((57:Int)<((bt s x.1:Nat):Int))=true:=aeq (by omega);have n45:(((bt s x.1:Nat):Int) != 45)=true:=by rw[aeB];omega
   have n95:(((bt s x.1:Nat):Int) != 95)=true:=by rw[aeB];omega
   have n46:(((bt s x.1:Nat):Int) != 46)=true:=by rw[aeB];omega
   have n58:(((bt s x.1:Nat):Int) != 58)=false:=by rw[bne_eq_false_iff_eq];omega
   have HN':=aen (NX ((oZ _).2 (by omega)));clear NX h;gi_wp2_with fail;exact⟨(aeu _).from _,rfl,hsB,hR,HN'.out,hB⟩
  case inr.inr.inr.inr.inr.inr.inr.inl=>
   have e0:decide ((97:Int)≤((bt s x.1:Nat):Int))=false:=aep (by omega);have e1:decide (((bt s x.1:Nat):Int)≤122)=true:=aeq (by omega);have e2:decide ((65:Int)≤((bt s x.1:Nat):Int))=false:=aep (by omega);have e3:decide (((bt s x.1:Nat):Int)≤90)=true:=aeq (by omega);have e4:decide (((bt s x.1:Nat):Int)<48)=true:=aeq (by omega);have e5:decide ((57:Int)<((bt s x.1:Nat):Int))=false:=aep (by omega);have n45:(((bt s x.1:Nat):Int) != 45)=true:=by rw[aeB];omega
   have n95:(((bt s x.1:Nat):Int) != 95)=true:=by rw[aeB];omega
   have n46:(((bt s x.1:Nat):Int) != 46)=true:=by rw[aeB];omega
   have n58:(((bt s x.1:Nat):Int) != 58)=true:=by rw[aeB];omega
   have HX:Hid (bf (bt s x.1)=false):=aen (by rw[Bool.eq_false_iff];intro hh;have:=(oZ _).1 hh;omega);clear NX h;gi_wp2_with fail;exact⟨(aet _ _ _).from _,⟨rfl,pre,x,rfl,HG.out,HX.out⟩,by rw[uV];exact hR.set _,hB.setCell (p:=⟨w.heap.size,0,none⟩) (aeo _) _⟩
  case inr.inr.inr.inr.inr.inr.inr.inr.inl=>
   have e0:decide ((97:Int)≤((bt s x.1:Nat):Int))=false:=aep (by omega);have e1:decide (((bt s x.1:Nat):Int)≤122)=true:=aeq (by omega);have e2:decide ((65:Int)≤((bt s x.1:Nat):Int))=false:=aep (by omega);have e3:decide (((bt s x.1:Nat):Int)≤90)=true:=aeq (by omega);have e4:decide (((bt s x.1:Nat):Int)<48)=true:=aeq (by omega);have e5:decide ((57:Int)<((bt s x.1:Nat):Int))=false:=aep (by omega);have n45:(((bt s x.1:Nat):Int) != 45)=true:=by rw[aeB];omega
   have n95:(((bt s x.1:Nat):Int) != 95)=true:=by rw[aeB];omega
   have n46:(((bt s x.1:Nat):Int) != 46)=true:=by rw[aeB];omega
   have n58:(((bt s x.1:Nat):Int) != 58)=true:=by rw[aeB];omega
   have HX:Hid (bf (bt s x.1)=false):=aen (by rw[Bool.eq_false_iff];intro hh;have:=(oZ _).1 hh;omega);clear NX h;gi_wp2_with fail;exact⟨(aet _ _ _).from _,⟨rfl,pre,x,rfl,HG.out,HX.out⟩,by rw[uV];exact hR.set _,hB.setCell (p:=⟨w.heap.size,0,none⟩) (aeo _) _⟩
  case inr.inr.inr.inr.inr.inr.inr.inr.inr.inl=>
   have e0:decide ((97:Int)≤((bt s x.1:Nat):Int))=false:=aep (by omega);have e1:decide (((bt s x.1:Nat):Int)≤122)=true:=aeq (by omega);have e2:decide ((65:Int)≤((bt s x.1:Nat):Int))=false:=aep (by omega);have e3:decide (((bt s x.1:Nat):Int)≤90)=true:=aeq (by omega);have e4:decide (((bt s x.1:Nat):Int)<48)=false:=aep (by omega);have e5:decide ((57:Int)<((bt s x.1:Nat):Int))=true:=aeq (by omega);have n45:(((bt s x.1:Nat):Int) != 45)=true:=by rw[aeB];omega
   have n95:(((bt s x.1:Nat):Int) != 95)=true:=by rw[aeB];omega
   have n46:(((bt s x.1:Nat):Int) != 46)=true:=by rw[aeB];omega
   have n58:(((bt s x.1:Nat):Int) != 58)=true:=by rw[aeB];omega
   have HX:Hid (bf (bt s x.1)=false):=aen (by rw[Bool.eq_false_iff];intro hh;have:=(oZ _).1 hh;omega);clear NX h;gi_wp2_with fail;exact⟨(aet _ _ _).from _,⟨rfl,pre,x,rfl,HG.out,HX.out⟩,by rw[uV];exact hR.set _,hB.setCell (p:=⟨w.heap.size,0,none⟩) (aeo _) _⟩
  case inr.inr.inr.inr.inr.inr.inr.inr.inr.inr.inl=>
   have e0:decide ((97:Int)≤((bt s x.1:Nat):Int))=false:=aep (by omega);have e1:decide (((bt s x.1:Nat):Int)≤122)=true:=aeq (by omega);have e2:decide ((65:Int)≤((bt s x.1:Nat):Int))=true:=aeq (by omega);have e3:decide (((bt s x.1:Nat):Int)≤90)=false:=aep (by omega);have e4:decide (((bt s x.1:Nat):Int)<48)=false:=aep (by omega);have e5:decide ((57:Int)<((bt s x.1:Nat):Int))=true:=aeq (by omega);have n45:(((bt s x.1:Nat):Int) != 45)=true:=by rw[aeB];omega
   have n95:(((bt s x.1:Nat):Int) != 95)=true:=by rw[aeB];omega
   have n46:(((bt s x.1:Nat):Int) != 46)=true:=by rw[aeB];omega
   have n58:(((bt s x.1:Nat):Int) != 58)=true:=by rw[aeB];omega
   have HX:Hid (bf (bt s x.1)=false):=aen (by rw[Bool.eq_false_iff];intro hh;have:=(oZ _).1 hh;omega);clear NX h;gi_wp2_with fail;exact⟨(aet _ _ _).from _,⟨rfl,pre,x,rfl,HG.out,HX.out⟩,by rw[uV];exact hR.set _,hB.setCell (p:=⟨w.heap.size,0,none⟩) (aeo _) _⟩
  case inr.inr.inr.inr.inr.inr.inr.inr.inr.inr.inr.inl=>
   have e0:decide ((97:Int)≤((bt s x.1:Nat):Int))=false:=aep (by omega);have e1:decide (((bt s x.1:Nat):Int)≤122)=true:=aeq (by omega);have e2:decide ((65:Int)≤((bt s x.1:Nat):Int))=true:=aeq (by omega);have e3:decide (((bt s x.1:Nat):Int)≤90)=false:=aep (by omega);have e4:decide (((bt s x.1:Nat):Int)<48)=false:=aep (by omega);have e5:decide ((57:Int)<((bt s x.1:Nat):Int))=true:=aeq (by omega);have n45:(((bt s x.1:Nat):Int) != 45)=true:=by rw[aeB];omega
   have n95:(((bt s x.1:Nat):Int) != 95)=true:=by rw[aeB];omega
   have n46:(((bt s x.1:Nat):Int) != 46)=true:=by rw[aeB];omega
   have n58:(((bt s x.1:Nat):Int) != 58)=true:=by rw[aeB];omega
   have HX:Hid (bf (bt s x.1)=false):=aen (by rw[Bool.eq_false_iff];intro hh;have:=(oZ _).1 hh;omega);clear NX h;gi_wp2_with fail;exact⟨(aet _ _ _).from _,⟨rfl,pre,x,rfl,HG.out,HX.out⟩,by rw[uV];exact hR.set _,hB.setCell (p:=⟨w.heap.size,0,none⟩) (aeo _) _⟩
  case inr.inr.inr.inr.inr.inr.inr.inr.inr.inr.inr.inr=>
   have e0:decide ((97:Int)≤((bt s x.1:Nat):Int))=true:=aeq (by omega);have e1:decide (((bt s x.1:Nat):Int)≤122)=false:=aep (by omega);have e2:decide ((65:Int)≤((bt s x.1:Nat):Int))=true:=aeq (by omega);have e3:decide (((bt s x.1:Nat):Int)≤90)=false:=aep (by omega);have e4:decide (((bt s x.1:Nat):Int)<48)=false:=aep (by omega);have e5:decide ((57:Int)<((bt s x.1:Nat):Int))=true:=aeq (by omega);have n45:(((bt s x.1:Nat):Int) != 45)=true:=by rw[aeB];omega
   have n95:(((bt s x.1:Nat):Int) != 95)=true:=by rw[aeB];omega
   have n46:(((bt s x.1:Nat):Int) != 46)=true:=by rw[aeB];omega
   have n58:(((bt s x.1:Nat):Int) != 58)=true:=by rw[aeB];omega
   have HX:Hid (bf (bt s x.1)=false):=aen (by rw[Bool.eq_false_iff];intro hh;have:=(oZ _).1 hh;omega);clear NX h;gi_wp2_with fail;exact⟨(aet _ _ _).from _,⟨rfl,pre,x,rfl,HG.out,HX.out⟩,by rw[uV];exact hR.set _,hB.setCell (p:=⟨w.heap.size,0,none⟩) (aeo _) _⟩
 case done=>
  rintro D ys W hD hys ⟨hsB,hR,hg,hB⟩ hK;have HE:Hid (nm=s.size):=aen (by
   rw[Qj.out];exact xG s _ _ (aeo _) (fun j hj=>by
    have:j∈ys.map Fin.val:=by rw[hys];exact List.mem_range.2 hj
    obtain⟨y,hy,rfl⟩:=List.mem_map.1 this;rw[hg y hy];rfl) (fun h=>absurd h (by omega)))
  clear hg hys;have k2:=hR.cell;have k3:=hR.frozen;have q1:=hR.set (.int .i64 s.size);have q3:Below w.heap.size w (W.setCell ⟨w.heap.size,0,none⟩ (.int .i64 s.size)):=hB.setCell (p:=⟨w.heap.size,0,none⟩) (aeo _) _;have hK':=(aet W ⟨w.heap.size,0,none⟩ (.int .i64 s.size)).same D _ hK rfl;gi_wp2_with fail;refine⟨by simp,.inl ⟨_,_,rfl,run_takeDeferred hK',?_⟩⟩;have c1:=cell_kept q1.cell (grownBy_putObj' _ D (.deferred none)) (fun r e=>by cases e;exact⟨_,hK',rfl⟩);refine⟨.int .i64 s.size,by simp[results,Tryz.results109,go_sem,c1],?_,q3.trans (belowK_b (w:=w) (aeo _) _ D _ _ (by omega) hK' rfl rfl)⟩;rw[HE.out]
 case stop=>
  rintro D q pre W hD hpre ⟨⟨rfl,pr,x,rfl,hg,hx⟩,hR,hB⟩ hK;rw[List.map_append] at hpre;obtain⟨hp1,hp2⟩:=EW hpre;have HE:Hid (nm=x.1):=aen (by
   rw[Qj.out];exact xG s _ _ (aeD hp2) (fun j hj=>by
    have:j∈pr.map Fin.val:=by rw[hp1];exact List.mem_range.2 hj
    obtain⟨y,hy,rfl⟩:=List.mem_map.1 this;rw[hg y hy];rfl) (fun _=>by rw[hx];rfl))
  rw[uV] at hR;clear hg hx hpre hp1;gi_wp2_with fail;refine⟨by simp,.inl ⟨_,_,rfl,run_takeDeferred hK,?_⟩⟩;have c1:=cell_kept hR.cell (grownBy_putObj' _ D (.deferred none)) (fun r e=>by cases e;exact⟨_,hK,rfl⟩);refine⟨.int .i64 x.1,by simp[results,Tryz.results109,go_sem,c1],?_,hB.trans (belowK_b (w:=w) (aeo _) _ D _ _ (by omega) hK rfl rfl)⟩;rw[HE.out]
end
theorem Yx(l:List UInt8):Lib.indexByte l 93=if brk l<l.length then (brk l:Int) else -1:=by
 induction l with
 |nil=>rfl
 |cons b l ih=>
  unfold Lib.indexByte;by_cases hb:b=93
  ·subst hb;simp[brk,List.findIdx_cons]
  ·have h1:(b==93)=false:=by simpa using hb
   have h2:brk (b :: l)=brk l+1:=by simp[brk,List.findIdx_cons,h1]
   show (if (b==93)=true then 0 else if (Lib.indexByte l 93==-1)=true then -1 else Lib.indexByte l 93+1)=_;rw[h1,h2,ih];simp only[Bool.false_eq_true,if_false,aeC];by_cases hl:brk l<l.length
   ·have e1:(if brk l<l.length then (brk l:Int) else -1)=brk l:=if_pos hl;rw[e1,if_pos (show brk l+1<l.length+1 by omega)];have:((brk l:Int)==-1)=false:=by rw[aes];omega
    simp[this]
   ·have e1:(if brk l<l.length then (brk l:Int) else -1)=-1:=if_neg hl;rw[e1,if_neg (show ¬brk l+1<l.length+1 by omega)];simp
theorem Yy(l:List UInt8):brk l≤l.length:=List.findIdx_le_length
def fB(s:ByteArray):ByteArray:=if brk (bytesL s)<s.size then s.extract (brk (bytesL s)+1) s.size else ⟨#[]⟩
def gG(s:ByteArray):ByteArray:=mk ((bytesL s).take (brk (bytesL s)))
def jB(s:ByteArray):Bool:=decide (brk (bytesL s)<s.size)
def yh(s:ByteArray)(w:World)(e:Ending)(w':World):Prop:=e=.returned (.tuple #[.string (gG s),.string (fB s),.bool (jB s)])∧Below w.heap.size w w'
theorem Yz(s:ByteArray)(w:World)(hs:s.size≤1000000):Calls prog 165 #[.string s,.string ⟨#[93]⟩] w (yh s w):=by
 have HI:Hid (∀W,Calls prog 210 #[.string s,.string ⟨#[93]⟩] W fun e w'=>e=.returned (.int .i64 (if brk (bytesL s)<s.size then (brk (bytesL s):Int) else -1))∧W=w'):=aen fun W=>by
  refine(Tryz.stringslite_Index_one s 93 W).mono ?_;rintro e w' ⟨rfl,rfl⟩;have:=Yx (bytesL s);rw[bytesL_length] at this;exact⟨iy this,rfl⟩
 have HL:=Yy (bytesL s);rw[bytesL_length] at HL;have HX:=aen (wC s (brk (bytesL s)));have HY:Hid ((bytesL s).take s.size=bytesL s):=aen (List.take_of_length_le (by rw[bytesL_length];exact aeo _));have HP:Hid (∀a v p w',a=gG s→v=fB s→p=jB s→Below w.heap.size w w'→yh s w (.returned (.tuple #[.string a,.string v,.bool p])) w'):=aen fun a v p w' h1 h2 h3 hb=>⟨by rw[h1,h2,h3],hb⟩;have H1:Hid (gG s=mk ((bytesL s).take (brk (bytesL s)))):=aen rfl;have H2:Hid (fB s=if brk (bytesL s)<s.size then s.extract (brk (bytesL s)+1) s.size else ⟨#[]⟩):=aen rfl;have H3:Hid (jB s=decide (brk (bytesL s)<s.size)):=aen rfl;generalize gG s=q1 at *;generalize fB s=q2 at *;generalize jB s=q3 at *;generalize brk (bytesL s)=k at *;by_cases hk:k<s.size
 ·rw[if_pos hk] at HI H2;rw[aeq hk] at H3;go_enter Tryz.func165,Tryz.ntmps165;go_wp2_with fail;with_reducible refine(HI.out _).mono ?_
  rintro e w' ⟨rfl,rfl⟩;go_wp2;go_quiet (fail);go_wp2;go_ret3;exact HP.out _ _ _ _ (by rw[H1.out];exact HX.out) H2.out.symm H3.out.symm (below_drewN (aer _ _) _)
 ·rw[if_neg hk] at HI H2;rw[aep hk] at H3;obtain rfl:k=s.size:=by omega
  have hm:Hid (mk ((bytesL s).take s.size)=s):=aen (by rw[HY.out,eX]);go_enter Tryz.func165,Tryz.ntmps165;go_wp2_with fail;with_reducible refine(HI.out _).mono ?_
  rintro e w' ⟨rfl,rfl⟩;go_wp2;go_ret3;exact HP.out _ _ _ _ (by rw[H1.out];exact hm.out.symm) H2.out.symm H3.out.symm (aer _ _)
theorem Qk(s:ByteArray)(w:World)(hs:s.size≤1000000):Calls prog 111 #[.string s,.string ⟨#[93]⟩] w (yh s w):=by
 have HC:=aen fun W=>Yz s W hs;have HP:Hid (∀a v p w',a=gG s→v=fB s→p=jB s→Below w.heap.size w w'→yh s w (.returned (.tuple #[.string a,.string v,.bool p])) w'):=aen fun a v p w' h1 h2 h3 hb=>⟨by rw[h1,h2,h3],hb⟩;unfold yh at HC;generalize gG s=q1 at *;generalize fB s=q2 at *;generalize jB s=q3 at *;go_enter Tryz.func111,Tryz.ntmps111;go_wp2_with fail;with_reducible refine(HC.out _).mono ?_
 rintro e w' ⟨rfl,b0⟩;go_wp2;go_ret3;exact HP.out _ _ _ _ rfl rfl rfl b0
def jq(s:ByteArray):Option AttrL:=
 if (mk (trimS (bytesL s))).size=0 then some ak else if (aN (mk (trimS (bytesL s))) 0).2.2=0∧(aN (mk (trimS (bytesL s))) 0).2.1=(mk (trimS (bytesL s))).size then some (aN (mk (trimS (bytesL s))) 0).1 else none
def YA(r:Option AttrL)(w:World)(e:Ending)(w':World):Prop:=
 (∃(a:AttrL) (vC vP:Value) (b:Bool),e=.returned (.tuple #[.agg #[.string a.id,vC,vP],.bool b])∧aZ w' w.heap.size a vC vP∧(r=if b=true then some a else none)∧(b=false→a=ak))∧Below w.heap.size w w'
theorem JP{W:World}{g:Nat}{x y z u:Value}{P:Ending→World→Prop}{act:Act}(hr:ae W g 43 #[x,y,z])(h4:act.tmps.getD 2 undef=.pointer (some ⟨g,0,none⟩))
 (h5:act.tmps.getD 3 undef=u) (hd:act.defers=[]) (hP:P (.returned (.tuple #[.agg #[x,y,z],u])) W):bodyPost prog Tryz.f110 P Exit.ret act W:=by
 have c0:W.cell? ⟨g,0,none⟩=some x:=hr.cell 0;have c1:W.cell? ⟨g,1,none⟩=some y:=hr.cell 1;have c2:W.cell? ⟨g,2,none⟩=some z:=hr.cell 2;refine bodyPost_ret (v:=.tuple #[.agg #[x,y,z],u]) ?_ hd hP;rw[aew] at h4 h5;simp[results,Tryz.results110,go_sem,h4,h5,c0,c1,c2]
theorem tX(W:World)(g:Nat)(x y z:Value):W.grownBy (((W.setCell ⟨g,0,none⟩ x).setCell ⟨g,1,none⟩ y).setCell ⟨g,2,none⟩ z) (some g):=jo (jo (jo (vg W (some g)) 0 x) 1 y) 2 z
theorem Ql(s:ByteArray)(w:World)(hs:s.size≤1000000):Calls prog 110 #[.string s] w (YA (jq s) w):=by
 have HT:=aen fun W=>uT s W hs;have htz:(mk (trimS (bytesL s))).size≤1000000:=by rw[mk_size];have:=pY (bytesL s);rw[bytesL_length] at this;omega
 have HR:Hid (jq s=if (mk (trimS (bytesL s))).size=0 then some ak else if (aN (mk (trimS (bytesL s))) 0).2.2=0∧(aN (mk (trimS (bytesL s))) 0).2.1=(mk (trimS (bytesL s))).size then some (aN (mk (trimS (bytesL s))) 0).1 else none):=aen rfl;generalize jq s=R at *;generalize mk (trimS (bytesL s))=T at *;by_cases h0:T.size=0
 ·have HF:Hid (R=if true=true then some ak else none):=aen (by rw[HR.out,if_pos h0];rfl);obtain⟨x1,x2⟩:=wE T ((size_nil T).1 h0);have e0:T=⟨#[]⟩:=by rw[←eX T,(size_nil T).1 h0];rfl
  clear HR x1 x2 h0;subst e0;go_enter Tryz.func110,Tryz.ntmps110;go_wp2_with fail;with_reducible refine(HT.out _).mono ?_
  rintro e w' ⟨rfl,rfl⟩;go_wp2_with fail;exact JP (ae.new w _ _) rfl rfl rfl ⟨⟨ak,_,_,true,rfl,wP _ _ ((aer _ w).alloc (aeo _) _).size,HF.out,fun h=>by cases h⟩,(aer _ w).alloc (aeo _) _⟩
 ·rw[if_neg h0] at HR;obtain⟨x1,x2⟩:=iV T (fun e=>h0 ((size_nil T).2 e));have mQ:=aen fun W=>parse_any W T 0 htz;generalize aN T 0=pr at *;obtain⟨a,t,n⟩:=pr;simp only at HR;have hW:∀W1,Below (w.alloc (.cells #[.string ⟨#[]⟩,.slice none 0 0,.slice none 0 0] 43)).heap.size (w.alloc (.cells #[.string ⟨#[]⟩,.slice none 0 0,.slice none 0 0] 43)) W1→ae W1 w.heap.size 43 #[.string ⟨#[]⟩,.slice none 0 0,.slice none 0 0]∧Below w.heap.size w W1∧w.heap.size<W1.heap.size:=fun W1 hb=>by
   have h1:=(ae.new w 43 #[.string ⟨#[]⟩,.slice none 0 0,.slice none 0 0]);have h2:=((aer _ w).alloc (aeo _) (.cells #[.string ⟨#[]⟩,.slice none 0 0,.slice none 0 0] 43));exact⟨ae.below h1 hb h1.lt,h2.trans (hb.mono h2.size),aeA h1.lt hb.size⟩
  have HW:=aen hW;clear hW h0;have kX:(((n:Int) != 0)=true∧Hid (R=none))∨(((n:Int) != 0)=false∧(t != T.size)=true∧((t:Int) != (T.size:Int))=true∧Hid (R=none))∨(((n:Int) != 0)=false∧(t != T.size)=false∧((t:Int) != (T.size:Int))=false∧Hid (R=some a)):=by
   by_cases h1:n=0
   ·by_cases h2:t=T.size
    ·right;right;exact⟨by rw[bne_eq_false_iff_eq];omega,by rw[bne_eq_false_iff_eq];exact h2,by rw[bne_eq_false_iff_eq];omega,aen (by rw[HR.out,if_pos ⟨h1,h2⟩])⟩
    ·right;left;exact⟨by rw[bne_eq_false_iff_eq];omega,by rw[aeB];exact h2,by rw[aeB];omega,aen (by rw[HR.out,if_neg (fun h=>h2 h.2)])⟩
   ·left;exact⟨by rw[aeB];omega,aen (by rw[HR.out,if_neg (fun h=>h1 h.1)])⟩
  clear HR;rcases kX with ⟨d1,HF⟩|⟨d1,d2,d3,HF⟩|⟨d1,d2,d3,HF⟩;all_goals
   go_enter Tryz.func110,Tryz.ntmps110;go_wp2_with fail;with_reducible refine(HT.out _).mono ?_
   rintro e w' ⟨rfl,rfl⟩;go_wp2_with fail;with_reducible refine(mQ.out _).mono ?_
   rintro e W1 ⟨v,rfl,⟨⟨vC,vP,rfl,dP,hP1⟩,hc32,nV⟩,b1⟩;obtain⟨qA,qc,rfl⟩:=ay dP;obtain⟨qD,qd,rfl⟩:=ay hP1;obtain⟨hb0,hb1,hb2⟩:=HW.out W1 b1;have hO:Hid (aZ (W1.alloc (.cells #[.string a.id,.slice qA a.cl.length qc,.slice qD a.pr.length qd] 43)) (w.heap.size+1) a (.slice qA a.cl.length qc) (.slice qD a.pr.length qd)):=aen (by
    have:aZ W1 (w.heap.size+1) a (.slice qA a.cl.length qc) (.slice qD a.pr.length qd):=⟨by simpa using dP,by simpa using hP1,hb2,hc32,nV⟩;exact this.below ((aer _ _).alloc (aeo _) _))
   have hz:=ae.alloc hb0 (.cells #[.string a.id,.slice qA a.cl.length qc,.slice qD a.pr.length qd] 43);have hbel:=hb1.alloc hb1.size (.cells #[.string a.id,.slice qA a.cl.length qc,.slice qD a.pr.length qd] 43);have hn:=ae.new W1 43 #[.string a.id,.slice qA a.cl.length qc,.slice qD a.pr.length qd];have e0:=hn.cell 0;have e1:=hn.cell 1;have e2:=hn.cell 2;have a0:=hz.cell 0;have a1:=hz.cell 1;have a2:=hz.cell 2;have f0:=hz.frozen 0;have f1:=hz.frozen 1;have f2:=hz.frozen 2;have HB2:=aen hb2;clear b1 hb0 dP hP1 hb2;go_wp2_with fail;have hb2:=HB2.out;first
   |exact JP (fZ hz rfl _ _ _) rfl rfl rfl ⟨⟨a,_,_,true,rfl,dN (dR hO.out (tX _ _ _ _ _) (Nat.lt_succ_self _)) (Nat.le_succ _),by rw[HF.out];rfl,fun h=>by cases h⟩,below3 hbel (aeo _) _ _ _⟩
   |exact JP (fZ hz rfl _ _ _) rfl rfl rfl ⟨⟨ak,_,_,false,rfl,wP _ _ (below3 hbel (aeo _) _ _ _).size,by rw[HF.out];rfl,fun _=>rfl⟩,below3 hbel (aeo _) _ _ _⟩
end Go.Proofs.YtpoafhgbhnblmaaGreatDoor
