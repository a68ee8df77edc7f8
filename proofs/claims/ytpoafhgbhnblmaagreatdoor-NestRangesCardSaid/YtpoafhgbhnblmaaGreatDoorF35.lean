import Derived.Test.YtpoafhgbhnblmaaGreatDoorF34
import Derived.ProofKit
import Derived.OpenShut
set_option linter.unusedVariables false
set_option linter.unusedSimpArgs false
set_option maxRecDepth 100000
set_option maxHeartbeats 20000000
namespace Go.Proofs.YtpoafhgbhnblmaaGreatDoor
open Go.Proofs.Tryz (prog)
open Go.RowKit
mutual
def Bj:BkT→Nat
 | .mk _ _ _ _ _ _ _ _ kids=>1+uK kids
def uK:List BkT→Nat
 | []=>0
 |b :: bs=>max (Bj b) (uK bs)
end
theorem U1:∀(bs:List BkT) (k:Nat) (h:k<bs.length),Bj bs[k]≤uK bs
 |b :: bs,0,h=>by show Bj b≤max (Bj b) (uK bs);omega
 |b :: bs,k+1,h=>by
  have:=U1 bs k (Nat.lt_of_succ_lt_succ h);show Bj (bs[k]'(Nat.lt_of_succ_lt_succ h))≤max (Bj b) (uK bs);omega
theorem adB(s:ByteArray)(v v':Value)(S S':Nat→Prop)(w:World)(h:ik w S v s)(h':ik w S' v' s)(hS:∀g,S g→g<w.heap.size)(hS':∀g,S' g→g<w.heap.size) :
 Calls prog 25 #[v,v'] w fun e w'=>e=.returned (.bool true)∧Below w.heap.size w w':=by
 unfold ik at h h';by_cases hz:s.size=0
 ·rw[if_pos hz] at h h';subst h h';exact U0 w
 ·rw[if_neg hz] at h h';obtain⟨A,c,rfl,h⟩:=h;obtain⟨A',c',rfl,h'⟩:=h';exact adz s A A' c c' S S' w h h' hS hS'
def Nv(n:Nat):Prop:=∀(bs:List BkT),uK bs≤n→∀(A A':Option Addr) (c c':Nat) (S S':Nat→Prop) (w:World),bP w S (.slice A bs.length c) bs→bP w S' (.slice A' bs.length c') bs→(∀g,S g→g<w.heap.size)→(∀g,S' g→g<w.heap.size)→
 Calls prog 14 #[.slice A bs.length c,.slice A' bs.length c'] w fun e w'=>e=.returned (.bool true)∧Below w.heap.size w w'
theorem adC(n:Nat)(ih:∀m,m<n→Nv m):Nv n:=by
 intro bs hd A A' c c' S S' w h h' hS hS';have hlen:bs.length≤maxLen:=by obtain⟨A0,c0,vs,e,h1,h2⟩:=h;exact h2.1.2
 unfold maxLen at hlen;have HH:=aen h;have U2:=aen h';have HS:=aen hS;have qN:=aen hS';have HD:=aen hd;have HIH:=aen ih;clear h h' hS hS' hd ih;go_enter Tryz.func14,Tryz.ntmps14;go_wp2_with fail;go_loopw [5] (fun v5 wr=>∃k:Nat,v5=.int .i64 k∧k≤bs.length∧Hid (Below w.heap.size w wr)) (fun v5 _=>bs.length - (intOf v5).toNat);case atStart=>exact⟨0,rfl,Nat.zero_le _,aen (aer _ _)⟩
 case round=>
  obtain⟨k,rfl,hk,HB⟩:=hrel;by_cases hlt:k<bs.length
  ·have hdk:=U1 bs k hlt;obtain⟨g,o,c0,e0,hg,hc⟩:=HH.out.get (by omega);obtain⟨g',o',c0',e0',hg',hc'⟩:=U2.out.get (by omega);obtain rfl:A=some ⟨g,o,none⟩:=by injection e0
   obtain rfl:A'=some ⟨g',o',none⟩:=by injection e0'
   clear e0 e0';obtain⟨v,hv,hcv⟩:=hc k hlt;obtain⟨v',hv',U3⟩:=hc' k hlt;have hgl:=HS.out g hg;have Nr:=qN.out g' hg';have lC:Hid (∀W,Below w.heap.size w W→∀i u,i<11→v[i]?=some u→W.cell? ⟨g,o+(k * 11+i),none⟩=some u):=aen fun W hb i u hi hu=>(hb.cell (p:=⟨g,o+(k * 11+i),none⟩) hgl).trans ((hcv i hi).trans hu);have HF2:Hid (∀W,Below w.heap.size w W→∀i u,i<11→v'[i]?=some u→W.cell? ⟨g',o'+(k * 11+i),none⟩=some u):=aen fun W hb i u hi hu=>(hb.cell (p:=⟨g',o'+(k * 11+i),none⟩) Nr).trans ((U3 i hi).trans hu);clear hc hc' hcv U3 hg hg';generalize bs[k]=b at *;cases hv with
   |mk kind level info text dest title att line kids A1 A2 A4 c1 c2 c4 vL vs ha hl hr hk4=>
    cases hv' with
    |mk _ _ _ _ _ _ _ _ _ B1 B2 B4 d1 d2 d4 vL' vs' ha' hl' hr' U4=>
     obtain⟨AL,nL,cL,rfl⟩:=pM hl;obtain⟨BL,mL,eL,rfl⟩:=pM hl';have HAt:Hid (∀W,Below w.heap.size w W→Calls prog 24 #[.agg #[.string att.id,.slice A1 att.cl.length c1,.slice A2 att.pr.length c2],.agg #[.string att.id,.slice B1 att.cl.length d1,.slice B2 att.pr.length d2]] W fun e w'=>e=.returned (.bool true)∧Below W.heap.size W w'):=aen fun W hb=>UZ att A1 A2 B1 B2 c1 c2 d1 d2 S S' W (ha.up HS.out hb) (ha'.up qN.out hb) (fun g hg=>aeA (HS.out g hg) hb.size) (fun g hg=>aeA (qN.out g hg) hb.size);have aS:Hid (∀W,Below w.heap.size w W→Calls prog 25 #[.slice AL nL cL,.slice BL mL eL] W fun e w'=>e=.returned (.bool true)∧Below W.heap.size W w'):=aen fun W hb=>adB line _ _ S S' W (hl.keep (fun g hg=>hb.block g (HS.out g hg)) fun _ h=>h) (hl'.keep (fun g hg=>hb.block g (qN.out g hg)) fun _ h=>h) (fun g hg=>aeA (HS.out g hg) hb.size) (fun g hg=>aeA (qN.out g hg) hb.size);have hdd:uK kids<n:=by
      have h1:1+uK kids≤uK bs:=hdk;have h2:=HD.out;omega
     have HRe:Hid (∀W,Below w.heap.size w W→Calls prog 14 #[.slice A4 kids.length c4,.slice B4 kids.length d4] W fun e w'=>e=.returned (.bool true)∧Below W.heap.size W w'):=aen fun W hb=>HIH.out (uK kids) hdd kids (aeo _) A4 B4 c4 d4 S S' W (bP.keep ⟨A4,c4,vs,rfl,hr,hk4⟩ (fun g hg=>hb.block g (HS.out g hg)) fun _ h=>h) (bP.keep ⟨B4,d4,vs',rfl,hr',U4⟩ (fun g hg=>hb.block g (qN.out g hg)) fun _ h=>h) (fun g hg=>aeA (HS.out g hg) hb.size) (fun g hg=>aeA (qN.out g hg) hb.size);have q1:(info.toList==info.toList)=true:=beq_self_eq_true _;have q2:(text.toList==text.toList)=true:=beq_self_eq_true _;have q3:(dest.toList==dest.toList)=true:=beq_self_eq_true _;have q4:(title.toList==title.toList)=true:=beq_self_eq_true _;clear ha ha' hl hl' hr hr' hk4 U4 HH U2 HIH HD hdk hdd;have ED:Hid (∀x,Below wr.heap.size wr (wr.alloc x).drew):=aen fun x=>((aer _ wr).alloc (aeo _) _).drew;have iQ:Hid (∀x y,Below wr.heap.size wr ((wr.alloc x).alloc y).drew):=aen fun x y=>(((aer _ wr).alloc (aeo _) _).alloc (by simp) _).drew;have EE:Hid (∀(x:Array Value) (y:Obj),ae ((wr.alloc (.cells x 46)).alloc y).drew wr.heap.size 46 x):=aen fun x y=>ae.alloc (ae.new wr _ x) y;have lF:Hid (∀(x:Obj) (y:Array Value),ae ((wr.alloc x).alloc (.cells y 46)).drew (wr.heap.size+1) 46 y):=aen fun x y=>by
      have h:=ae.new (wr.alloc x) 46 y;rw[sZ] at h;exact h
     have aB:=aen (aer wr.heap.size wr);go_upto_region 6 with fail
     go_cut [6,7] from 19 to 26 (fun s6 s7 wx=>∃g6 g7:Nat,s6=.pointer (some ⟨g6,0,none⟩)∧s7=.pointer (some ⟨g7,0,none⟩)∧ae wx g6 46 #[.int .i64 kind,.int .i64 level,.string info,.string text,.string dest,.string title,.string att.id,.slice A1 att.cl.length c1,.slice A2 att.pr.length c2,.slice AL nL cL,.slice A4 kids.length c4]∧ae wx g7 46 #[.int .i64 kind,.int .i64 level,.string info,.string text,.string dest,.string title,.string att.id,.slice B1 att.cl.length d1,.slice B2 att.pr.length d2,.slice BL mL eL,.slice B4 kids.length d4]∧Below w.heap.size w wx);case first=>
      refine wp_region_held_drew (S:=fun W'=>Below wr.heap.size wr W') (by kernel_rfl) aB.out.drew (fun hHeld=>?_);refine tk 0 (.slice (some ⟨g,o,none⟩) bs.length c) rfl hHeld (fun W' hSw=>?_) ?_
      ·go_simp
      refine tk 1 (.int .i64 k) rfl hHeld (fun W' hSw=>?_) ?_
      ·go_simp
      refine tk 2 (.pointer (some ⟨g,o+k * 11,none⟩)) rfl hHeld (fun W' hSw=>?_) ?_
      ·go_simp
      refine tk 3 (.agg #[.int .i64 kind,.int .i64 level,.string info,.string text,.string dest,.string title,.string att.id,.slice A1 att.cl.length c1,.slice A2 att.pr.length c2,.slice AL nL cL,.slice A4 kids.length c4]) rfl hHeld (fun W' hSw=>?_) ?_
      ·have hbW:Below w.heap.size w W':=HB.out.trans (hSw.mono HB.out.size);have e0:W'.cell? ⟨g,o+k * 11,none⟩=some (.int .i64 kind):=lC.out W' hbW 0 _ (by decide) rfl;have e1:W'.cell? ⟨g,o+k * 11+1,none⟩=some (.int .i64 level):=by rw[Nat.add_assoc];exact lC.out W' hbW 1 _ (by decide) rfl
       have e2:W'.cell? ⟨g,o+k * 11+2,none⟩=some (.string info):=by rw[Nat.add_assoc];exact lC.out W' hbW 2 _ (by decide) rfl
       have e3:W'.cell? ⟨g,o+k * 11+3,none⟩=some (.string text):=by rw[Nat.add_assoc];exact lC.out W' hbW 3 _ (by decide) rfl
       have e4:W'.cell? ⟨g,o+k * 11+4,none⟩=some (.string dest):=by rw[Nat.add_assoc];exact lC.out W' hbW 4 _ (by decide) rfl
       have e5:W'.cell? ⟨g,o+k * 11+5,none⟩=some (.string title):=by rw[Nat.add_assoc];exact lC.out W' hbW 5 _ (by decide) rfl
       have e6:W'.cell? ⟨g,o+k * 11+6,none⟩=some (.string att.id):=by rw[Nat.add_assoc];exact lC.out W' hbW 6 _ (by decide) rfl
       have e7:W'.cell? ⟨g,o+k * 11+7,none⟩=some (.slice A1 att.cl.length c1):=by rw[Nat.add_assoc];exact lC.out W' hbW 7 _ (by decide) rfl
       have e8:W'.cell? ⟨g,o+k * 11+8,none⟩=some (.slice A2 att.pr.length c2):=by rw[Nat.add_assoc];exact lC.out W' hbW 8 _ (by decide) rfl
       have e9:W'.cell? ⟨g,o+k * 11+9,none⟩=some (.slice AL nL cL):=by rw[Nat.add_assoc];exact lC.out W' hbW 9 _ (by decide) rfl
       have e10:W'.cell? ⟨g,o+k * 11+10,none⟩=some (.slice A4 kids.length c4):=by rw[Nat.add_assoc];exact lC.out W' hbW 10 _ (by decide) rfl
       go_simp
      refine tk 4 (.slice (some ⟨g',o',none⟩) bs.length c') rfl hHeld (fun W' hSw=>?_) ?_
      ·go_simp
      refine tk 5 (.int .i64 k) rfl hHeld (fun W' hSw=>?_) ?_
      ·go_simp
      refine tk 6 (.pointer (some ⟨g',o'+k * 11,none⟩)) rfl hHeld (fun W' hSw=>?_) ?_
      ·go_simp
      refine tk 7 (.agg #[.int .i64 kind,.int .i64 level,.string info,.string text,.string dest,.string title,.string att.id,.slice B1 att.cl.length d1,.slice B2 att.pr.length d2,.slice BL mL eL,.slice B4 kids.length d4]) rfl hHeld (fun W' hSw=>?_) ?_
      ·have hbW:Below w.heap.size w W':=HB.out.trans (hSw.mono HB.out.size);have e0:W'.cell? ⟨g',o'+k * 11,none⟩=some (.int .i64 kind):=HF2.out W' hbW 0 _ (by decide) rfl;have e1:W'.cell? ⟨g',o'+k * 11+1,none⟩=some (.int .i64 level):=by rw[Nat.add_assoc];exact HF2.out W' hbW 1 _ (by decide) rfl
       have e2:W'.cell? ⟨g',o'+k * 11+2,none⟩=some (.string info):=by rw[Nat.add_assoc];exact HF2.out W' hbW 2 _ (by decide) rfl
       have e3:W'.cell? ⟨g',o'+k * 11+3,none⟩=some (.string text):=by rw[Nat.add_assoc];exact HF2.out W' hbW 3 _ (by decide) rfl
       have e4:W'.cell? ⟨g',o'+k * 11+4,none⟩=some (.string dest):=by rw[Nat.add_assoc];exact HF2.out W' hbW 4 _ (by decide) rfl
       have e5:W'.cell? ⟨g',o'+k * 11+5,none⟩=some (.string title):=by rw[Nat.add_assoc];exact HF2.out W' hbW 5 _ (by decide) rfl
       have e6:W'.cell? ⟨g',o'+k * 11+6,none⟩=some (.string att.id):=by rw[Nat.add_assoc];exact HF2.out W' hbW 6 _ (by decide) rfl
       have e7:W'.cell? ⟨g',o'+k * 11+7,none⟩=some (.slice B1 att.cl.length d1):=by rw[Nat.add_assoc];exact HF2.out W' hbW 7 _ (by decide) rfl
       have e8:W'.cell? ⟨g',o'+k * 11+8,none⟩=some (.slice B2 att.pr.length d2):=by rw[Nat.add_assoc];exact HF2.out W' hbW 8 _ (by decide) rfl
       have e9:W'.cell? ⟨g',o'+k * 11+9,none⟩=some (.slice BL mL eL):=by rw[Nat.add_assoc];exact HF2.out W' hbW 9 _ (by decide) rfl
       have e10:W'.cell? ⟨g',o'+k * 11+10,none⟩=some (.slice B4 kids.length d4):=by rw[Nat.add_assoc];exact HF2.out W' hbW 10 _ (by decide) rfl
       go_simp
      refine wpAnyH_ready (rs:=[8,9]) (by kernel_rfl) (by simp) (AllReadyH.cons rfl (fun K hK=>?_) (AllReadyH.cons rfl (fun K hK=>?_) AllReadyH.nil))
      ·go_simp;refine hK.out _ _ (ED.out _) (fun hHeld=>?_);clear hK K;refine aC 9 rfl (fun K hK=>?_);go_simp;refine hK.out _ _ (iQ.out _ _) (fun hHeld=>?_);clear hK K;refine aC 10 rfl (fun K hK=>?_);go_simp;refine hK.out _ _ (iQ.out _ _) (fun hHeld=>?_);clear hK K;refine aC 11 rfl (fun K hK=>?_);go_simp;refine hK.out _ _ (iQ.out _ _) (fun hHeld=>?_);clear hK K;refine wpAnyH_done (by kernel_rfl) ?_ _;go_wp2_with fail;go_meet;exact⟨wr.heap.size,wr.heap.size+1,rfl,rfl,EE.out _ _,lF.out _ _,HB.out.trans ((iQ.out _ _).mono HB.out.size)⟩
      ·go_simp;refine hK.out _ _ (ED.out _) (fun hHeld=>?_);clear hK K;refine aC 8 rfl (fun K hK=>?_);go_simp;refine hK.out _ _ (iQ.out _ _) (fun hHeld=>?_);clear hK K;refine aC 10 rfl (fun K hK=>?_);go_simp;refine hK.out _ _ (iQ.out _ _) (fun hHeld=>?_);clear hK K;refine aC 11 rfl (fun K hK=>?_);go_simp;refine hK.out _ _ (iQ.out _ _) (fun hHeld=>?_);clear hK K;refine wpAnyH_done (by kernel_rfl) ?_ _;go_wp2_with fail;go_meet;exact⟨wr.heap.size+1,wr.heap.size,rfl,rfl,lF.out _ _,EE.out _ _,HB.out.trans ((iQ.out _ _).mono HB.out.size)⟩
     case rest=>
      obtain⟨g6,g7,rfl,rfl,h6,h7,hbw⟩:=hcut;have eP:=aen hbw;have Ns:=h6.lt;have Nu:=h7.lt;have HI:Hid (∀W,Below wc.heap.size wc W→ae W g6 46 #[.int .i64 kind,.int .i64 level,.string info,.string text,.string dest,.string title,.string att.id,.slice A1 att.cl.length c1,.slice A2 att.pr.length c2,.slice AL nL cL,.slice A4 kids.length c4]∧ae W g7 46 #[.int .i64 kind,.int .i64 level,.string info,.string text,.string dest,.string title,.string att.id,.slice B1 att.cl.length d1,.slice B2 att.pr.length d2,.slice BL mL eL,.slice B4 kids.length d4]):=aen fun W h=>⟨h6.below h Ns,h7.below h Nu⟩;obtain⟨a0,a1,a2,a3,a4,a5,a6,a7,a8,a9,a10,-⟩:=az (h6);obtain⟨b0,b1,b2,b3,b4,b5,b6,b7,b8,b9,b10,-⟩:=az (h7);clear h6 h7 hbw;go_wp2_with fail;with_reducible refine(HAt.out _ eP.out).mono ?_
      rintro e w5 ⟨rfl,cc⟩;have uI:=aen (cc);clear cc;obtain⟨a0,a1,a2,a3,a4,a5,a6,a7,a8,a9,a10,-⟩:=az ((HI.out _ uI.out).1);obtain⟨b0,b1,b2,b3,b4,b5,b6,b7,b8,b9,b10,-⟩:=az ((HI.out _ uI.out).2);go_wp2_with fail;with_reducible refine(aS.out _ (eP.out.trans (uI.out.mono eP.out.size))).mono ?_
      rintro e w6 ⟨rfl,cc⟩;have uJ:=aen (uI.out.trans (cc.mono uI.out.size));clear cc;obtain⟨a0,a1,a2,a3,a4,a5,a6,a7,a8,a9,a10,-⟩:=az ((HI.out _ uJ.out).1);obtain⟨b0,b1,b2,b3,b4,b5,b6,b7,b8,b9,b10,-⟩:=az ((HI.out _ uJ.out).2);go_wp2_with fail;with_reducible refine(HRe.out _ (eP.out.trans (uJ.out.mono eP.out.size))).mono ?_
      rintro e w7 ⟨rfl,cc⟩;have zH:=aen (uJ.out.trans (cc.mono uJ.out.size));clear cc;obtain⟨a0,a1,a2,a3,a4,a5,a6,a7,a8,a9,a10,-⟩:=az ((HI.out _ zH.out).1);obtain⟨b0,b1,b2,b3,b4,b5,b6,b7,b8,b9,b10,-⟩:=az ((HI.out _ zH.out).2);go_wp2_with fail;go_roundw;case rel=>exact⟨k+1,by go_num,by omega,aen (eP.out.trans (zH.out.mono eP.out.size))⟩
      case measure=>simp[intOf];omega
  ·go_wp2_with fail;go_ret;exact⟨rfl,HB.out⟩
theorem U5:∀n,Nv n:=fun n=>by
 induction n using Nat.strongRecOn with
 |ind n ih=>exact adC n ih
theorem adE(MM:Int)(zs:List ByteArray)(A:Option Addr)(c:Nat)(w:World)(hm:w.cell? ⟨0,0,none⟩=some (.int .i64 MM))(hr:Reads w w.heap.size 1 A zs.length (strs zs))(hl:zs.length≤maxLen)(hx:∀x∈zs,x.size≤maxLen)(hc:zs.length≤c)(hcm:c≤maxLen) :
 Calls prog 3 #[.slice A zs.length c] w fun e w'=>e=.returned (.bool true)∧Below w.heap.size w w':=by
 have hp0:=World.block_lt_of_cell? _ _ hm;have HM:Hid (∀W,Below w.heap.size w W→W.cell? ⟨0,0,none⟩=some (.int .i64 MM)):=aen fun W h=>(h.cell (p:=⟨0,0,none⟩) hp0).trans hm;have HA:Hid (∀W,Below w.heap.size w W→Calls prog 11 #[] W fun e w'=>e=.returned (.bool true)∧Below W.heap.size W w'):=aen fun W h=>UW MM W (HM.out W h);have xA:=aen (UR zs A c w hr hl hx);have HLn:Hid (Ii zs→aG w A zs MM):=aen fun h=>⟨hr,by have:=h.1;omega,fun z hz=>aev (h.2 z hz) (by decide),hm⟩;have HC:=aen hc;have HCM:=aen hcm;clear hr hl hx hm hc hcm;go_enter Tryz.func3,Tryz.ntmps3;go_wp2_with fail;with_reducible refine(xA.out).mono ?_
 rintro e w1 ⟨⟨b,rfl,hok⟩,b1⟩;have HB1:=aen b1;cases b with
 |false=>
  go_wp2_with fail;with_reducible refine(HA.out _ HB1.out).mono ?_
  rintro e w2 ⟨rfl,b2⟩;go_wp2_with fail;go_ret;exact⟨rfl,HB1.out.trans (b2.mono HB1.out.size)⟩
 |true=>
  have hL:=HLn.out (hok rfl);have hlen:=hL.len;have HL:=aen hL;have HP:Hid (∀W,Below w.heap.size w W→Calls prog 12 #[.slice A zs.length c] W (zf (bg 16 zs) W)):=aen fun W h=>SY zs A c MM W (HL.out.below h) HC.out HCM.out;have HQ:Hid (∀W,Below w.heap.size w W→Calls prog 13 #[.slice A zs.length c] W (zf (bg 16 zs) W)):=aen fun W h=>adq zs A c MM W (HL.out.below h) HC.out HCM.out;clear hL hok b1 HLn xA;unfold zf at HP HQ;cases hbk:bg 16 zs with
  |none=>
   rw[hbk] at HP HQ;simp only[] at HP HQ;clear hbk;have HS:Hid (∀W,Calls prog 14 #[.slice none 0 0,.slice none 0 0] W fun e w'=>e=.returned (.bool true)∧Below W.heap.size W w'):=aen fun W=>U5 _ [] (aeo _) none none 0 0 (fun _=>False) (fun _=>False) W (bP.none_ _ _) (bP.none_ _ _) (fun _ h=>h.elim) (fun _ h=>h.elim);go_wp2_with fail;with_reducible refine(HP.out _ HB1.out).mono ?_
   rintro e w2 ⟨b2,rfl⟩;have HB2:=aen (HB1.out.trans (b2.mono HB1.out.size));clear b2;go_wp2_with fail;with_reducible refine(HQ.out _ HB2.out).mono ?_
   rintro e w3 ⟨b3,rfl⟩;have HB3:=aen (HB2.out.trans (b3.mono HB2.out.size));clear b3 HP HQ;go_wp2_with fail;with_reducible refine(HS.out _).mono ?_
   rintro e w4 ⟨rfl,b4⟩;have HB4:=aen (HB3.out.trans (b4.mono HB3.out.size));clear b4;go_wp2_with fail;with_reducible refine(HA.out _ HB4.out).mono ?_
   rintro e w5 ⟨rfl,b5⟩;go_wp2_with fail;go_ret;exact⟨rfl,HB4.out.trans (b5.mono HB4.out.size)⟩
  |some p=>
   rw[hbk] at HP HQ;simp only[] at HP HQ;clear hbk;generalize p.1=bs at *;go_wp2_with fail;with_reducible refine(HP.out _ HB1.out).mono ?_
   rintro e w2 ⟨b2,A2,c2,rfl,hk2,-⟩;have HB2:=aen (HB1.out.trans (b2.mono HB1.out.size));have iQ:=aen hk2;clear b2 hk2;go_wp2_with fail;with_reducible refine(HQ.out _ HB2.out).mono ?_
   rintro e w3 ⟨b3,A3,c3,rfl,hk3,-⟩;have HB3:=aen (HB2.out.trans (b3.mono HB2.out.size));have HS:=aen (U5 _ bs (aeo _) A2 A3 c2 c3 _ _ w3 (iQ.out.below b3) hk3 (fun g hg=>hg.2) (fun g hg=>hg.2));clear b3 hk3 iQ HP HQ;go_wp2_with fail;with_reducible refine(HS.out).mono ?_
   rintro e w4 ⟨rfl,b4⟩;have HB4:=aen (HB3.out.trans (b4.mono HB3.out.size));clear b4;go_wp2_with fail;with_reducible refine(HA.out _ HB4.out).mono ?_
   rintro e w5 ⟨rfl,b5⟩;go_wp2_with fail;go_ret;exact⟨rfl,HB4.out.trans (b5.mono HB4.out.size)⟩
theorem adF(MM:Int)(zs:List ByteArray)(A:Option Addr)(c:Nat)(w:World)(hm:w.cell? ⟨0,0,none⟩=some (.int .i64 MM))(hr:Reads w w.heap.size 1 A zs.length (strs zs))(hl:zs.length≤maxLen)(hx:∀x∈zs,x.size≤maxLen)(hc:zs.length≤c)(hcm:c≤maxLen) :
 Calls prog 4 #[.slice A zs.length c] w fun e w'=>e=.returned (.bool true)∧Below w.heap.size w w':=by
 have hp0:=World.block_lt_of_cell? _ _ hm;have HM:Hid (∀W,Below w.heap.size w W→W.cell? ⟨0,0,none⟩=some (.int .i64 MM)):=aen fun W h=>(h.cell (p:=⟨0,0,none⟩) hp0).trans hm;have HA:Hid (∀W,Below w.heap.size w W→Calls prog 11 #[] W fun e w'=>e=.returned (.bool true)∧Below W.heap.size W w'):=aen fun W h=>UW MM W (HM.out W h);have xA:=aen (UR zs A c w hr hl hx);have HLn:Hid (Ii zs→aG w A zs MM):=aen fun h=>⟨hr,by have:=h.1;omega,fun z hz=>aev (h.2 z hz) (by decide),hm⟩;have HC:=aen hc;have HCM:=aen hcm;clear hr hl hx hm hc hcm;go_enter Tryz.func4,Tryz.ntmps4;go_wp2_with fail;with_reducible refine(xA.out).mono ?_
 rintro e w1 ⟨⟨b,rfl,hok⟩,b1⟩;have HB1:=aen b1;cases b with
 |false=>
  go_wp2_with fail;with_reducible refine(HA.out _ HB1.out).mono ?_
  rintro e w2 ⟨rfl,b2⟩;go_wp2_with fail;go_ret;exact⟨rfl,HB1.out.trans (b2.mono HB1.out.size)⟩
 |true=>
  have hL:=HLn.out (hok rfl);have hlen:=hL.len;have HL:=aen hL;have HP:Hid (∀W,Below w.heap.size w W→Calls prog 15 #[.slice A zs.length c] W (zg (bg 16 zs) W)):=aen fun W h=>S7 zs A c MM W (HL.out.below h) HC.out HCM.out;have HQ:Hid (∀W,Below w.heap.size w W→Calls prog 16 #[.slice A zs.length c] W (zg (bg 16 zs) W)):=aen fun W h=>adr zs A c MM W (HL.out.below h) HC.out HCM.out;have Nw:=aen (adx 16 zs);clear hL hok b1 HLn xA;unfold zg at HP HQ;cases hbk:bg 16 zs with
  |none=>
   rw[hbk] at HP HQ;simp only[] at HP HQ;clear hbk Nw;go_wp2_with fail;with_reducible refine(HP.out _ HB1.out).mono ?_
   rintro e w2 ⟨b2,rfl⟩;have HB2:=aen (HB1.out.trans (b2.mono HB1.out.size));clear b2;go_wp2_with fail;with_reducible refine(HQ.out _ HB2.out).mono ?_
   rintro e w3 ⟨b3,rfl⟩;have HB3:=aen (HB2.out.trans (b3.mono HB2.out.size));clear b3 HP HQ;go_wp2_with fail;go_loop [7] (fun v=>v=.int .i64 0) (fun _=>0);case atStart=>rfl
   case round=>
    obtain rfl:=hrel;go_wp2_with fail;with_reducible refine(HA.out _ HB3.out).mono ?_
    rintro e w5 ⟨rfl,b5⟩;go_wp2_with fail;go_ret;exact⟨rfl,HB3.out.trans (b5.mono HB3.out.size)⟩
  |some p=>
   rw[hbk] at HP HQ;simp only[] at HP HQ;obtain⟨hcov,-⟩:=Nw.out p hbk;have hrl:=UX zs p.2 0 (Nat.zero_le _) hcov;clear hbk Nw hcov;generalize p.2=rs at *;go_wp2_with fail;with_reducible refine(HP.out _ HB1.out).mono ?_
   rintro e w2 ⟨b2,A2,c2,rfl,hr2⟩;have HB2:=aen (HB1.out.trans (b2.mono HB1.out.size));have HR2:=aen hr2;clear b2 hr2;go_wp2_with fail;with_reducible refine(HQ.out _ HB2.out).mono ?_
   rintro e w3 ⟨b3,A3,c3,rfl,hr3⟩;have HB3:=aen (HB2.out.trans (b3.mono HB2.out.size));have adG:Hid (ReadsS w3 (fun g=>g<w3.heap.size) 2 A2 rs.length (qF rs)):=aen (HR2.out.keep (fun g hg=>b3.block g hg.2) fun g hg=>aeA hg.2 b3.size);have HR3:Hid (ReadsS w3 (fun g=>g<w3.heap.size) 2 A3 rs.length (qF rs)):=aen (hr3.keep (w':=w3) (S':=fun g=>g<w3.heap.size) (fun _ _=>rfl) fun g hg=>hg.2);clear b3 hr3 HR2 HP HQ;go_wp2_with fail;go_loopw [7] (fun v wr=>∃k:Nat,v=.int .i64 k∧k≤rs.length∧Hid (Below w3.heap.size w3 wr)) (fun v _=>rs.length - (intOf v).toNat);case atStart=>exact⟨0,rfl,Nat.zero_le _,aen (aer _ _)⟩
   case round=>
    obtain⟨k,rfl,hk,bT⟩:=hrel;by_cases hlt:k<rs.length
    ·obtain⟨ga,oa,rfl,hga,hca⟩:=adG.out.row (by omega) (by decide);obtain⟨gb,ob,rfl,hgb,hcb⟩:=HR3.out.row (by omega) (by decide);have a1:=(bT.out.cell (p:=⟨ga,oa+k * 2,none⟩) hga).trans (hca (k * 2) _ (Il rs k hlt).1);have a2:wr.cell? ⟨ga,oa+k * 2+1,none⟩=some (.int .i64 rs[k].2):=(bT.out.cell (p:=⟨ga,oa+k * 2+1,none⟩) hga).trans (by rw[Nat.add_assoc];exact hca (k * 2+1) _ (Il rs k hlt).2);have b1:=(bT.out.cell (p:=⟨gb,ob+k * 2,none⟩) hgb).trans (hcb (k * 2) _ (Il rs k hlt).1);have b2:wr.cell? ⟨gb,ob+k * 2+1,none⟩=some (.int .i64 rs[k].2):=(bT.out.cell (p:=⟨gb,ob+k * 2+1,none⟩) hgb).trans (by rw[Nat.add_assoc];exact hcb (k * 2+1) _ (Il rs k hlt).2);clear hca hcb hga hgb;generalize rs[k].1=f1 at *;generalize rs[k].2=t1 at *;go_wp2_with fail;go_quiet (fail);go_wp2_with fail;go_roundw;case rel=>exact⟨k+1,by go_num,by omega,aen (below_drewN bT.out nq)⟩
     case measure=>simp[intOf];omega
    ·go_wp2_with fail;with_reducible refine(HA.out _ (HB3.out.trans (bT.out.mono HB3.out.size))).mono ?_
     rintro e w8 ⟨rfl,b8⟩;go_wp2_with fail;go_ret;exact⟨rfl,(HB3.out.trans (bT.out.mono HB3.out.size)).trans (b8.mono (HB3.out.trans (bT.out.mono HB3.out.size)).size)⟩
open Go.ChangeShapes Go.WideShapes
theorem U6{H:Type}{enc:TypeId × Value→H}{W:World}{r:Reach}{b0:Nat}{v:Value}{d:DataW H}{p:List MemPlace}(hv:Value.okWide prog W r b0 22 v)(h:DataW.Trod enc prog W 0 (fun _=>true) true 22 v d p) :
 ∃zs A c,v=.slice A zs.length c∧Reads W W.heap.size 1 A zs.length (strs zs)∧zs.length≤maxLen∧(∀x∈zs,x.size≤maxLen)∧zs.length≤c∧c≤maxLen:=by
 obtain⟨a0,len0,cap0,rfl⟩:=okWide_slice Tryz.underlying22 hv;obtain⟨fuel,hf⟩:=h;rcases open_strings Tryz.underlying22 Tryz.underlying9 (by kernel_rfl) hf with ⟨e1,-⟩|⟨ad,len,cap,ss,e1,-,hl,hm,hlen,-,hc,hsz⟩
 ·have e1:[Value.slice a0 len0 cap0]=[.slice none 0 0]:=e1;injection e1 with e1 _
  exact⟨[],none,0,e1,Reads.none_,Nat.zero_le _,fun x hx=>absurd hx (by simp),aeo _,Nat.zero_le _⟩
 ·have e1:[Value.slice a0 len0 cap0]=[.slice (some ad) len cap]:=e1;injection e1 with e1 _
  simp at hlen;have hlt:(ss.take len).length=len:=by rw[List.length_take];omega
  refine⟨ss.take len,some ad,cap,by rw[hlt];exact e1,⟨by rw[hlt,qg,hlt];omega,fun hn=>⟨ad,rfl,?_,fun j u hu=>?_⟩⟩,by omega,fun x hx=>hsz x (List.mem_of_mem_take hx),by rw[hlt];exact hl,hm⟩
  ·have:=World.block_lt_of_cell? W _ (hc 0 (by omega))
   rwa [block_of_add] at this
  ·have hj:j<(strs (ss.take len)).length:=(List.getElem?_eq_some_iff.1 hu).1;rw[qg] at hj;rw[sW _ j hj] at hu;injection hu with hu
   subst hu;have:=hc j (by omega);rw[this];simp[List.getD_eq_getElem?_getD,List.getElem?_eq_getElem (show j<ss.length by omega)]
end Go.Proofs.YtpoafhgbhnblmaaGreatDoor
